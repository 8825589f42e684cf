/- The proof, part 10. -/
import Derived.Test.YtglkedenkcpcbaaqBm8
set_option linter.unusedVariables false
set_option linter.unusedSimpArgs false
namespace Go.Proofs.Ytglkedenkcpcbaa.Vs
open Go.RowKit
theorem Zhm {u : Nat} (h : u ≤ 40) : (0 : Int) < 2 ^ u ∧ (2 : Int) ^ u ≤ 1099511627776 := by
 have h1 : (0 : Int) < 2 ^ u := Int.pow_pos (by omega)
 have h2 : (2 : Nat) ^ u ≤ 2 ^ 40 := Nat.pow_le_pow_right (by omega) h
 have h3 : ((2 ^ u : Nat) : Int) ≤ ((2 ^ 40 : Nat) : Int) := by exact_mod_cast h2
 refine ⟨h1, ?_⟩
 have h4 : ((2 ^ u : Nat) : Int) = (2 : Int) ^ u := by simp
 rw [h4] at h3
 have h5 : ((2 ^ 40 : Nat) : Int) = 1099511627776 := by decide
 omega
theorem Zzn {x : Int} (hx : isBit x) {u : Nat} (h : u ≤ 40) : shlS x (u : Int) = x * 2 ^ u := by
 rw [ZDR, Int.toNat_natCast, Nat.min_eq_left (by omega)]
 have hp := Zhm h
 have h2 : x * 2 ^ u = 0 ∨ x * 2 ^ u = 2 ^ u := by rcases hx with rfl | rfl <;> simp
 exact w64 (by omega) (by omega)
theorem ZzX {u : Nat} (h : u ≤ 40) : shlS 1 (u : Int) = 2 ^ u := by rw [Zzn (.inr rfl) h]; simp
theorem ZwN {n : Int} (h0 : 0 ≤ n) (h1 : n ≤ 9223372036854775807) : IntKind.wrap IntKind.u64 n = n := by
 simp [IntKind.wrap, IntKind.bits, IntKind.signed]
 omega
theorem ZEB (n : Int) (h0 : 0 ≤ n) (h1 : n < 2 ^ 62) : IntKind.i64.wrap n = n := by
 rw [IntKind.wrap_i64]
 have : (2 : Int) ^ 62 = 4611686018427387904 := by decide
 omega
theorem Zq5 {v : Int} (h0 : 0 ≤ v) (h1 : v < 1099511627776) {k : Nat} (hk : k ≤ 40) : bits BinOp.and IntKind.i64 (Int.fdiv v (2 ^ min (Int.toNat (k : Int)) (IntKind.bits IntKind.i64))) 1 = v / 2 ^ k % 2 := by
 have hp := Zhm hk
 rw [Int.toNat_natCast, show IntKind.bits IntKind.i64 = 64 from rfl, Nat.min_eq_left (by omega), Int.fdiv_eq_ediv_of_nonneg _ (by omega)]
 have hd0 : 0 ≤ v / 2 ^ k := Int.ediv_nonneg h0 (by omega)
 have hd1 : v / 2 ^ k ≤ v := Int.ediv_le_self _ h0
 have := bits_mask .i64 62 (by decide) ZEB 1 (by decide) (v / 2 ^ k) hd0 (by rw [show (2 : Int) ^ 62 = 4611686018427387904 by decide]; omega)
 simpa using this
theorem ZEP (a b : Int) : bits BinOp.or IntKind.i64 a b = bits BinOp.or IntKind.i64 b a := by
 unfold bits
 simp only [BitVec.or_comm]
theorem ZFG {n x : Int} (hx : isBit x) {k : Nat} (hk : k ≤ 40) (h0 : 0 ≤ n) (h1 : n < 2 ^ k) : bits BinOp.or IntKind.i64 n (x * 2 ^ k) = n + x * 2 ^ k := by
 have hp := Zhm hk
 have h2 : x * 2 ^ k = 0 ∨ x * 2 ^ k = 2 ^ k := by rcases hx with rfl | rfl <;> simp
 have e62 : (2 : Int) ^ 62 = 4611686018427387904 := by decide
 rw [ZEP, bits_join .i64 62 (by decide) ZEB k (x * 2 ^ k) n (by omega) (by simp) (by omega) h0 h1 (by omega), Int.add_comm]
theorem ZAx {α : Type} {l : List α} {i : Nat} (h : i < l.length) (d : α) : List.getD l i d ∈ l := by
 simp only [List.getD, List.getElem?_eq_getElem h, Option.getD_some]
 exact List.getElem_mem h
def Keys (es : List (List Int × Int)) (N : List Int) : Prop := ∀ g : Nat, g < N.length → findK [(g : Int)] es = if List.getD N g 0 < 0 then none else some (List.getD N g 0)
theorem ZAd (ks ks' : List Int) (x : Int) : ∀ (es : List (List Int × Int)), findK ks (putK ks' x es) = if ks' = ks then some x else findK ks es
 | [] => by simp only [putK, findK]
 | e :: r => by
  simp only [putK]
  by_cases h1 : e.1 = ks'
  ·rw [if_pos h1]
   simp only [findK]
   by_cases h2 : ks' = ks
   ·rw [if_pos h2, if_pos h2]
   ·rw [if_neg h2, if_neg h2, if_neg (by rw [h1]; exact h2)]
  ·rw [if_neg h1]
   simp only [findK]
   rw [ZAd ks ks' x r]
   by_cases h2 : ks' = ks
   ·simp only [h2, if_true]; rw [if_neg (by rw [← h2]; exact h1)]
   ·simp only [h2, if_false]
theorem Keys.put {es : List (List Int × Int)} {N : List Int} (h : Keys es N) {g : Nat} (hg : g < N.length) {n : Nat} : Keys (putK [(g : Int)] (n : Int) es) (List.set N g (n : Int)) := by
 intro m hm
 rw [List.length_set] at hm
 rw [ZAd, Ze3 N g m _ 0 hg]
 by_cases hgm : g = m
 ·subst hgm
  simp
 ·have : ¬ [(g : Int)] = [(m : Int)] := by simp; omega
  rw [if_neg this, if_neg hgm, h m hm]
theorem ZjC (b : BoardD) (hb : boardOK b = true) : ∀ (r pre : List CellD) (es : List (List Int × Int)) (N : List Int) (o : List (List Int)), pre ++ r = b.2.2 → N.length = b.2.2.length → Below N o.length → o.length ≤ pre.length → Keys es N → (∀ u ∈ o, u.length ≤ pre.length) →
    Ev (fun k => Z2h k (groupsOf b) es o (pre ++ r) ((pre ++ r).length : Int) (pre.length : Int)) (unitsGo (groupsOf b) pre.length r N o)
  | [], pre, es, N, o, hp, hN, hB, hlen, hK, hu => by
    refine Ev.succ ?_
    simp only [Z2h, Zm, decide_false, Bool.false_eq_true, if_false, unitsGo]
    exact Ev.some _
  | x :: r, pre, es, N, o, hp, hN, hB, hlen, hK, hu => by
    obtain ⟨g1, g2, g3, g4, g5, g6⟩ := Zn hb
    have hpp := Zu g1 g2 g3 g4
    have hll : (pre ++ x :: r).length ≤ 90 := by rw [hp]; omega
    have hlt : pre.length < b.2.2.length := by rw [← hp]; simp
    have hx : List.getD b.2.2 pre.length (0, 0) = x := by rw [← hp]; exact Z7 _ _ _ _
    have hcast : ((pre ++ [x]).length : Int) = (pre.length : Int) + 1 := by simp
    have hp' : (pre ++ [x]) ++ r = b.2.2 := by rw [← hp]; simp
    have hpl : pre.length ≤ 90 := by omega
    have ol : o.length + 1 ≤ 140737488355328 / 24 := by omega
    have hu' : ∀ u ∈ o, u.length ≤ (pre ++ [x]).length := fun u h => by have := hu u h; simp; omega
    have ih := fun es N o h1 h2 h3 h4 h5 => ZjC b hb r (pre ++ [x]) es N o hp' h1 h2 h3 h4 h5
    rw [← Z4, hcast] at ih
    have hgl : (pre.length : Int) < ((groupsOf b).length : Int) := by rw [Z1W]; omega
    refine Ev.succ ?_
    simp only [Z2h, Zg, Zp, decide_true, if_true, Int.toNat_natCast, Z7, unitsGo, hgl, List.length_singleton, ol, decide_eq_true_eq]
    rw [Zb pre x r (by omega), hcast]
    by_cases h3 : x.1 = 3
    · simp only [h3, if_true]
      refine ih es N (o ++ [[(pre.length : Int)]]) hN (hB.more (by simp)) (by simp; omega) hK (fun u h => ?_)
      rcases List.mem_append.1 h with h | h
      · exact hu' u h
      · rw [List.mem_singleton.1 h]; simp
    · simp only [h3, if_false]
      by_cases h6 : x.1 = 6
      · have hg : geared x = true := by simp [geared, h6]
        have hG0 := Z8V b hlt (by rw [hx]; exact hg)
        have hG1 := Zcs b _ (ZcL (l := groupsOf b) (i := pre.length) (by rw [Z1W]; exact hlt) 0)
        generalize hgv : List.getD (groupsOf b) pre.length 0 = gI at *
        obtain ⟨g, rfl⟩ := Int.eq_ofNat_of_zero_le hG0
        have hgN : g < N.length := by rw [hN]; omega
        have hkey := hK g hgN
        have hNB := hB _ (ZcL hgN 0)
        simp only [h6, if_true, hkey, Int.toNat_natCast]
        by_cases hneg : List.getD N g 0 < 0
        · have l1 : (o.length : Int) < ((o ++ [([] : List Int)]).length : Int) := by simp; omega
          have l2 : ([] : List Int).length + 1 ≤ 140737488355328 / 8 := by simp
          simp only [hneg, if_true, Option.isSome_none, Bool.not_false, l1, Z7, List.nil_append, l2, Zak, Zp]
          refine ih _ _ (o ++ [[(pre.length : Int)]]) (by simpa using hN) ?_ (by simp; omega) (hK.put hgN) (fun u h => ?_)
          · intro y hy
            rcases List.mem_or_eq_of_mem_set hy with hy | rfl
            · have := hB y hy
              simp only [List.length_append, List.length_singleton]
              omega
            · simp only [List.length_append, List.length_singleton]
              omega
          · rcases List.mem_append.1 h with h | h
            · exact hu' u h
            · rw [List.mem_singleton.1 h]; simp
        · have l0 : (0 : Int) ≤ List.getD N g 0 := by omega
          have l1 := hNB.2
          have lno : (List.getD N g 0).toNat < o.length := by omega
          have hgo : List.getD o (List.getD N g 0).toNat [] ∈ o := ZAx lno []
          have l2 : (List.getD o (List.getD N g 0).toNat []).length + 1 ≤ 140737488355328 / 8 := by have := hu _ hgo; omega
          simp only [hneg, if_false, Option.isSome_some, Bool.not_true, Bool.false_eq_true, Option.getD_some, l0, l1, l2, if_true]
          refine ih es N _ hN (by rw [List.length_set]; exact hB) (by rw [List.length_set]; simp; omega) hK (fun u h => ?_)
          rcases List.mem_or_eq_of_mem_set h with h | rfl
          · exact hu' u h
          · have := hu _ hgo
            simp only [List.length_append, List.length_singleton]
            omega
      · simp only [h6, if_false]
        exact ih es N o hN hB (by simp; omega) hK hu'
theorem ZET (n : Nat) : Keys [] (List.replicate n (-1)) := by
 intro g hg
 simp only [List.length_replicate] at hg
 simp [findK, List.getD, List.getElem?_replicate, hg]
theorem Zyc (n : Nat) : Below (List.replicate n (-1)) 0 := fun x hx => by rw [(List.mem_replicate.1 hx).2]; simp
theorem ZaO (b : BoardD) (hb : boardOK b = true) : Ev (fun k => Z4H k b) (unitsP b) := by
 refine Ev.succ ?_
 simp only [Z4H]
 refine Ev.bind (Z8M b hb) ?_
 refine Ev.bind (ZjC b hb b.2.2 [] [] (List.replicate b.2.2.length (-1)) [] rfl (by simp) (Zyc _) (Nat.le_refl _) (ZET _) (by simp)) ?_
 exact Ev.some _
theorem Zkn (b : BoardD) (G : List Int) (m : Int) : ∀ (r pre : List Int), m = ((pre ++ r).length : Int) → (pre ++ r).length ≤ 1000 → Ev (fun k => Z67 k b.1 b.2.1 b.2.2 G (pre ++ r) m (pre.length : Int)) (b.1, b.2.1, b.2.2, G, pre ++ List.replicate r.length (-1))
 | [], pre, hm, hl => by
  refine Ev.succ ?_
  have : ¬ (pre.length : Int) < m := by rw [hm]; exact Zm pre
  simp only [Z67, this, decide_false, Bool.false_eq_true, if_false]
  exact Ev.some _
 | x :: r, pre, hm, hl => by
  have ih := Zkn b G m r (pre ++ [-1]) (by rw [hm]; simp) (by simpa using hl)
  have h1 : (pre.length : Int) < m := by rw [hm]; exact Zg pre x r
  refine Ev.succ ?_
  simp only [Z67, h1, Zg, Zp, decide_true, if_true, Int.toNat_natCast, Zak]
  rw [Zb pre x r (by omega), Z4]
  simp only [List.length_append, List.length_singleton] at ih ⊢
  refine ih.congr ?_
  simp [List.replicate_succ]
theorem Zk3 (b : BoardD) (hb : boardOK b = true) : ∀ (r pre : List CellD) (N : List Int) (o : List (List Int)), pre ++ r = b.2.2 → N.length = b.2.2.length → Below N o.length → o.length ≤ pre.length → (∀ u ∈ o, u.length ≤ pre.length) →
    Ev (fun k => Z10 k (groupsOf b) N o (pre ++ r) ((pre ++ r).length : Int) (pre.length : Int)) (unitsGo (groupsOf b) pre.length r N o)
  | [], pre, N, o, hp, hN, hB, hlen, hu => by
    refine Ev.succ ?_
    simp only [Z10, Zm, decide_false, Bool.false_eq_true, if_false, unitsGo]
    exact Ev.some _
  | x :: r, pre, N, o, hp, hN, hB, hlen, hu => by
    obtain ⟨g1, g2, g3, g4, g5, g6⟩ := Zn hb
    have hpp := Zu g1 g2 g3 g4
    have hll : (pre ++ x :: r).length ≤ 90 := by rw [hp]; omega
    have hlt : pre.length < b.2.2.length := by rw [← hp]; simp
    have hx : List.getD b.2.2 pre.length (0, 0) = x := by rw [← hp]; exact Z7 _ _ _ _
    have hcast : ((pre ++ [x]).length : Int) = (pre.length : Int) + 1 := by simp
    have hp' : (pre ++ [x]) ++ r = b.2.2 := by rw [← hp]; simp
    have hpl : pre.length ≤ 90 := by omega
    have ol : o.length + 1 ≤ 140737488355328 / 24 := by omega
    have hu' : ∀ u ∈ o, u.length ≤ (pre ++ [x]).length := fun u h => by have := hu u h; simp; omega
    have ih := fun N o h1 h2 h3 h5 => Zk3 b hb r (pre ++ [x]) N o hp' h1 h2 h3 h5
    rw [← Z4, hcast] at ih
    have hgl : (pre.length : Int) < ((groupsOf b).length : Int) := by rw [Z1W]; omega
    refine Ev.succ ?_
    simp only [Z10, Zg, Zp, decide_true, if_true, Int.toNat_natCast, Z7, unitsGo, hgl, List.length_singleton, ol, decide_eq_true_eq]
    rw [Zb pre x r (by omega), hcast]
    by_cases h3 : x.1 = 3
    · simp only [h3, if_true]
      refine ih N (o ++ [[(pre.length : Int)]]) hN (hB.more (by simp)) (by simp; omega) (fun u h => ?_)
      rcases List.mem_append.1 h with h | h
      · exact hu' u h
      · rw [List.mem_singleton.1 h]; simp
    · simp only [h3, if_false]
      by_cases h6 : x.1 = 6
      · have hg : geared x = true := by simp [geared, h6]
        have hG0 := Z8V b hlt (by rw [hx]; exact hg)
        have hG1 := Zcs b _ (ZcL (l := groupsOf b) (i := pre.length) (by rw [Z1W]; exact hlt) 0)
        generalize hgv : List.getD (groupsOf b) pre.length 0 = gI at *
        obtain ⟨g, rfl⟩ := Int.eq_ofNat_of_zero_le hG0
        have hgN : g < N.length := by rw [hN]; omega
        have hNB := hB _ (ZcL hgN 0)
        have hgI : (g : Int) < (N.length : Int) := by omega
        have hg0 : (0 : Int) ≤ (g : Int) := Int.natCast_nonneg _
        simp only [h6, if_true, Int.toNat_natCast, hgI, hg0]
        by_cases hneg : List.getD N g 0 < 0
        · simp only [hneg, if_true]
          refine ih _ (o ++ [[(pre.length : Int)]]) (by simpa using hN) ?_ (by simp; omega) (fun u h => ?_)
          · intro y hy
            rcases List.mem_or_eq_of_mem_set hy with hy | rfl
            · have := hB y hy
              simp only [List.length_append, List.length_singleton]
              omega
            · simp only [List.length_append, List.length_singleton]
              omega
          · rcases List.mem_append.1 h with h | h
            · exact hu' u h
            · rw [List.mem_singleton.1 h]; simp
        · have l0 : (0 : Int) ≤ List.getD N g 0 := by omega
          have l1 := hNB.2
          have lno : (List.getD N g 0).toNat < o.length := by omega
          have hgo : List.getD o (List.getD N g 0).toNat [] ∈ o := ZAx lno []
          have l2 : (List.getD o (List.getD N g 0).toNat []).length + 1 ≤ 140737488355328 / 8 := by have := hu _ hgo; omega
          simp only [hneg, if_false, Z3n, Zp, hgl, if_true, hgv, Int.toNat_natCast, hgI, hg0, l0, l1, l2, List.length_singleton]
          refine Ev.bind (Ev.some _) ?_
          simp only [Zb pre x r (by omega), hcast]
          refine ih N _ hN (by rw [List.length_set]; exact hB) (by rw [List.length_set]; simp; omega) (fun u h => ?_)
          rcases List.mem_or_eq_of_mem_set h with h | rfl
          · exact hu' u h
          · have := hu _ hgo
            simp only [List.length_append, List.length_singleton]
            omega
      · simp only [h6, if_false]
        exact ih N o hN hB (by simp; omega) hu'
theorem Z8a (b : BoardD) (hb : boardOK b = true) : Ev (fun k => Z3H k b) (unitsP b) := by
 obtain ⟨g1, g2, g3, g4, g5, g6⟩ := Zn hb
 have hpp := Zu g1 g2 g3 g4
 have hm : b.2.2.length * 8 ≤ 281474976710656 := by omega
 refine Ev.succ ?_
 simp only [Z3H]
 refine Ev.bind (ZfY b hb) ?_
 simp only [Int.toNat_natCast, hm, if_true]
 refine Ev.bind (Zkn b (groupsOf b) _ (List.replicate b.2.2.length 0) [] rfl (by simp; omega)) ?_
 simp only [List.nil_append, List.length_replicate]
 refine Ev.bind (Zk3 b hb b.2.2 [] (List.replicate b.2.2.length (-1)) [] rfl (by simp) (Zyc _) (Nat.le_refl _) (by simp)) ?_
 exact Ev.some _
theorem Zwd (b : BoardD) (hb : boardOK b = true) : (unitsP b).length ≤ 90 := by
 obtain ⟨g1, g2, g3, g4, g5, g6⟩ := Zn hb
 have hpp := Zu g1 g2 g3 g4
 have := (Zbi b).2
 omega
theorem ZX (b : BoardD) : Units (unitsP b) b.2.2.length := (Zbi b).1.units
end Go.Proofs.Ytglkedenkcpcbaa.Vs

set_option linter.unusedVariables false
set_option linter.unusedSimpArgs false
namespace Go.Proofs.Ytglkedenkcpcbaa.Vs
open Go.RowKit
def Heads (us : List (List Int)) (n : Nat) : Prop := ∀ u ∈ us, 0 < u.length ∧ 0 ≤ List.getD u 0 0 ∧ List.getD u 0 0 < (n : Int)
theorem Units.heads {us : List (List Int)} {n : Nat} (h : Units us n) : Heads us n := fun u hu => by
 have h1 := h.on u hu _ (ZeD (h.some u hu))
 exact ⟨List.length_pos_iff.2 (h.some u hu), h1.1, h1.2⟩
theorem Zlb (R C : Int) (o : List CellD) : ∀ (r pre : List (List Int)) (w : List Int), Heads r o.length → (pre ++ r).length ≤ 1000 → w.length = pre.length →
    Ev (fun k => Z75 k R C o w (pre ++ r) ((pre ++ r).length : Int) (pre.length : Int)) (w ++ bitsP o r)
  | [], pre, w, hh, hl, hw => by
    refine Ev.succ ?_
    simp only [Z75, Zm, decide_false, Bool.false_eq_true, if_false]
    exact (Ev.some _).congr (by simp [bitsP])
  | u :: r, pre, w, hh, hl, hw => by
    obtain ⟨h1, h2, h3⟩ := hh u (List.mem_cons_self ..)
    have h1' : (0 : Int) < (u.length : Int) := by omega
    have hwl : w.length + 1 ≤ 140737488355328 / 8 := by simp at hl; omega
    have ih := Zlb R C o r (pre ++ [u]) (w ++ [bitOf o u]) (fun v hv => hh v (List.mem_cons_of_mem _ hv)) (by simpa using hl) (by simp [hw])
    refine Ev.succ ?_
    simp only [Z75, Zg, Zp, decide_true, if_true, Int.toNat_natCast, Z7, Int.toNat_zero, h1', h2, h3, List.length_singleton, hwl]
    rw [Zb pre u r (by omega)]
    rw [← Z4] at ih
    refine ih.congr ?_
    simp [bitsP]
theorem ZhY (b : BoardD) (hb : boardOK b = true) : Ev (fun k => Z93 k b) (bitsP b.2.2 (unitsP b)) := by
 have hs := Zwd b hb
 refine Ev.succ ?_
 simp only [Z93]
 refine Ev.bind (ZaO b hb) ?_
 refine Ev.bind (Zlb b.1 b.2.1 b.2.2 (unitsP b) [] [] (ZX b).heads (by simp; omega) rfl) ?_
 exact Ev.some _
theorem Zlt (R C : Int) (o : List CellD) : ∀ (r pre : List (List Int)) (w : List Int), Heads r o.length → (pre ++ r).length ≤ 1000 → w.length = pre.length →
    Ev (fun k => Z71 k R C o w (pre ++ r) ((pre ++ r).length : Int) (pre.length : Int)) (w ++ bitsP o r)
  | [], pre, w, hh, hl, hw => by
    refine Ev.succ ?_
    simp only [Z71, Zm, decide_false, Bool.false_eq_true, if_false]
    exact (Ev.some _).congr (by simp [bitsP])
  | u :: r, pre, w, hh, hl, hw => by
    obtain ⟨h1, h2, h3⟩ := hh u (List.mem_cons_self ..)
    have h1' : (0 : Int) < (u.length : Int) := by omega
    have hwl : w.length + 1 ≤ 140737488355328 / 8 := by simp at hl; omega
    have ih := Zlt R C o r (pre ++ [u]) (w ++ [bitOf o u]) (fun v hv => hh v (List.mem_cons_of_mem _ hv)) (by simpa using hl) (by simp [hw])
    refine Ev.succ ?_
    simp only [Z71, Zg, Zp, decide_true, if_true, Int.toNat_natCast, Z7, Int.toNat_zero, h1', h2, h3, List.length_singleton, hwl]
    rw [Zb pre u r (by omega)]
    rw [← Z4] at ih
    refine ih.congr ?_
    simp [bitsP]
theorem ZBq (b : BoardD) (hb : boardOK b = true) : Ev (fun k => Zes k b) (bitsP b.2.2 (unitsP b)) := by
 have hs := Zwd b hb
 refine Ev.succ ?_
 simp only [Zes]
 refine Ev.bind (Z8a b hb) ?_
 refine Ev.bind (Zlt b.1 b.2.1 b.2.2 (unitsP b) [] [] (ZX b).heads (by simp; omega) rfl) ?_
 exact Ev.some _
theorem ZeR {o : List CellD} (ho : ∀ c ∈ o, isBit c.2) {us : List (List Int)} (h : Units us o.length) : ∀ x ∈ bitsP o us, isBit x := by
 intro x hx
 obtain ⟨u, hu, rfl⟩ := List.mem_map.1 hx
 have h1 := h.on u hu _ (ZeD (h.some u hu))
 exact ho _ (Z8c h1.1 h1.2 (0, 0))
theorem Zit : ∀ (r pre : List Int), (∀ x ∈ pre ++ r, isBit x) → (pre ++ r).length ≤ 40 → Ev (fun k => Z5f k (numP pre) (pre ++ r) ((pre ++ r).length : Int) (pre.length : Int)) (numP (pre ++ r))
 | [], pre, hb, hl => by
  refine Ev.succ ?_
  simp only [Z5f, Zm, decide_false, Bool.false_eq_true, if_false]
  exact (Ev.some _).congr (by simp)
 | x :: r, pre, hb, hl => by
  have ih := Zit r (pre ++ [x]) (by simpa using hb) (by simpa using hl)
  have hx := hb x (by simp)
  have hpl : pre.length ≤ 40 := by simp at hl; omega
  have hr := Zjl pre (fun y hy => hb y (List.mem_append_left _ hy))
  refine Ev.succ ?_
  have hneg : ¬ (pre.length : Int) < 0 := by omega
  simp only [Z5f, Zg, Zp, decide_true, if_true, hneg, if_false, Int.toNat_natCast, Z7]
  rw [Zzn hx hpl, ZFG hx hpl hr.1 hr.2, ← Zsu, Zb pre x r (by omega)]
  rw [← Z4] at ih
  exact ih
theorem Zc2 (xs : List Int) (hb : ∀ x ∈ xs, isBit x) (hl : xs.length ≤ 40) : Ev (fun k => Z56 k xs) (numP xs) := by
 refine Ev.succ ?_
 simp only [Z56]
 exact Ev.bind (Zit xs [] (by simpa using hb) (by simpa using hl)) (Ev.some _)
theorem ZiT : ∀ (r pre : List Int), (∀ x ∈ pre ++ r, isBit x) → (pre ++ r).length ≤ 40 → Ev (fun k => Z5r k (pre ++ r) (numP pre) ((pre ++ r).length : Int) (pre.length : Int)) (numP (pre ++ r))
 | [], pre, hb, hl => by
  refine Ev.succ ?_
  simp only [Z5r, Zm, decide_false, Bool.false_eq_true, if_false]
  exact (Ev.some _).congr (by simp)
 | x :: r, pre, hb, hl => by
  have ih := ZiT r (pre ++ [x]) (by simpa using hb) (by simpa using hl)
  have hx := hb x (by simp)
  have hpl : pre.length ≤ 40 := by simp at hl; omega
  have hr := Zjl pre (fun y hy => hb y (List.mem_append_left _ hy))
  have hp := Zhm hpl
  have h2 : x * 2 ^ pre.length = 0 ∨ x * 2 ^ pre.length = 2 ^ pre.length := by rcases hx with rfl | rfl <;> simp
  refine Ev.succ ?_
  have hneg : ¬ (pre.length : Int) < 0 := by omega
  simp only [Z5r, Zg, Zp, decide_true, if_true, ZwN (Int.natCast_nonneg pre.length) (by omega), hneg, if_false, Int.toNat_natCast, Z7]
  rw [Zzn hx hpl, w64 (by omega) (by omega), ← Zsu, Zb pre x r (by omega)]
  rw [← Z4] at ih
  exact ih
theorem Z51 {b : BoardD} (hb : boardOK b = true) : ∀ c ∈ b.2.2, isBit c.2 := fun c hc => ZgR ((Zn hb).2.2.2.2.2 c hc)
theorem ZaU (o : List CellD) (us : List (List Int)) : (bitsP o us).length = us.length := by simp [bitsP]
theorem Zcl (b : BoardD) (hb : boardOK b = true) (hu : (unitsP b).length ≤ 40) : Ev (fun k => Z52 k b) (numP (bitsP b.2.2 (unitsP b))) := by
 refine Ev.succ ?_
 simp only [Z52]
 refine Ev.bind (ZBq b hb) ?_
 exact Ev.bind (ZiT (bitsP b.2.2 (unitsP b)) [] (by simpa using ZeR (Z51 hb) (ZX b)) (by rw [List.nil_append, ZaU]; exact hu)) (Ev.some _)
theorem ZjJ (v : Int) (h0 : 0 ≤ v) (h1 : v < 1099511627776) (m : Int) : ∀ (r pre : List Int), m = ((pre ++ r).length : Int) → (pre ++ r).length ≤ 40 → pre = bitsN pre.length v → Ev (fun k => Z5T k (pre ++ r) v m (pre.length : Int)) (bitsN (pre ++ r).length v)
 | [], pre, hm, hl, hp => by
  refine Ev.succ ?_
  have : ¬ (pre.length : Int) < m := by rw [hm]; exact Zm pre
  simp only [Z5T, this, decide_false, Bool.false_eq_true, if_false]
  exact (Ev.some _).congr (by simp only [List.append_nil]; exact hp)
 | x :: r, pre, hm, hl, hp => by
  have hpl : pre.length ≤ 40 := by simp at hl; omega
  have hlt : (pre.length : Int) < m := by rw [hm]; exact Zg pre x r
  have ih := ZjJ v h0 h1 m r (pre ++ [v / 2 ^ pre.length % 2]) (by rw [hm]; simp) (by simpa using hl) (by simp only [List.length_append, List.length_singleton]; rw [ZyK, ← hp])
  refine Ev.succ ?_
  have hneg : ¬ (pre.length : Int) < 0 := by omega
  simp only [Z5T, hlt, Zg, Zp, decide_true, if_true, hneg, if_false]
  rw [Zq5 h0 h1 hpl, Zb pre x r (by omega)]
  simp only [Int.toNat_natCast, Zak]
  rw [Z4]
  simp only [List.length_append, List.length_singleton] at ih ⊢
  refine ih.congr ?_
  congr 1
  simp only [List.length_cons]
  omega
theorem Zon (v : Int) (h0 : 0 ≤ v) (h1 : v < 1099511627776) (u : Nat) (hu : u ≤ 40) : Ev (fun k => ZaM k v (u : Int)) (bitsN u v) := by
 have hm : u * 8 ≤ 281474976710656 := by omega
 refine Ev.succ ?_
 simp only [ZaM, Int.natCast_nonneg, if_true, Int.toNat_natCast, hm]
 refine Ev.bind (ZjJ v h0 h1 _ (List.replicate u 0) [] rfl (by simpa using hu) rfl) ?_
 exact (Ev.some _).congr (by simp)
theorem ZqI (b1 b2 : Int) (b3 : List CellD) (c1 c2 : Int) (c3 : List CellD) (v : Int) (h0 : 0 ≤ v) (h1 : v < 1099511627776) : ∀ (n m : Nat), n + m ≤ 40 → Ev (fun k => Z8U k b1 b2 b3 c1 c2 c3 (bitsN m v) v ((m + n : Nat) : Int) (m : Int)) (b1, b2, b3, c1, c2, c3, bitsN (m + n) v)
 | 0, m, hl => by
  refine Ev.succ ?_
  have : ¬ (m : Int) < ((m + 0 : Nat) : Int) := by omega
  simp only [Z8U, this, decide_false, Bool.false_eq_true, if_false]
  exact Ev.some _
 | n + 1, m, hl => by
  have hlt : (m : Int) < ((m + (n + 1) : Nat) : Int) := by omega
  have hneg : ¬ (m : Int) < 0 := by omega
  have ih := ZqI b1 b2 b3 c1 c2 c3 v h0 h1 n (m + 1) (by omega)
  have hbl : m + 1 ≤ 140737488355328 / 8 := by omega
  have hw : wrap64 ((m : Int) + 1) = ((m + 1 : Nat) : Int) := by rw [w64 (by omega) (by omega)]; omega
  refine Ev.succ ?_
  simp only [Z8U, hlt, decide_true, if_true, ZwN (Int.natCast_nonneg m) (by omega), hneg, if_false, List.length_singleton, Z3S, hbl]
  rw [Zq5 h0 h1 (by omega), ← ZyK, hw]
  rw [show m + 1 + n = m + (n + 1) by omega] at ih
  exact ih
theorem ZFf {o : List CellD} (ho : ∀ c ∈ o, isBit c.2) {m : Int} (h0 : 0 ≤ m) (h1 : m < (o.length : Int)) : ((List.getD o m.toNat (0, 0)).1, wrap64 (1 - (List.getD o m.toNat (0, 0)).2)) = flipC (cellAt o m) := by
 have h := ho _ (Z8c h0 h1 (0, 0))
 unfold flipC cellAt
 rw [w64 (by unfold isBit at h; omega) (by unfold isBit at h; omega)]
theorem Znf {o : List CellD} (ho : ∀ c ∈ o, isBit c.2) {m : Int} (h0 : 0 ≤ m) (h1 : m < (o.length : Int)) : ∀ c ∈ flipAt o m, isBit c.2 := by
 intro c hc
 rcases List.mem_or_eq_of_mem_set hc with hc | rfl
 ·exact ho c hc
 ·exact ZF3 (ho _ (Z8c h0 h1 (0, 0)))
theorem Zpw : ∀ (u : List Int) (o : List CellD), (∀ c ∈ o, isBit c.2) → (∀ m ∈ u, 0 ≤ m ∧ m < (o.length : Int)) → ∀ c ∈ turnU u o, isBit c.2
 | [], o, ho, hu => ho
 | m :: u, o, ho, hu => by
  obtain ⟨h0, h1⟩ := hu m (List.mem_cons_self ..)
  exact Zpw u (flipAt o m) (Znf ho h0 h1) (fun i hi => by have := hu i (List.mem_cons_of_mem _ hi); simpa [flipAt] using this)
theorem ZjM (d1 d2 : Int) (d3 : List Int) (d4 : List (List Int)) (d5 d6 : Int) : ∀ (r pre : List Int) (o : List CellD), (∀ c ∈ o, isBit c.2) → (∀ m ∈ r, 0 ≤ m ∧ m < (o.length : Int)) → (pre ++ r).length ≤ 1000 →
    Ev (fun k => Z65 k o d1 d2 d3 d4 d5 d6 (pre ++ r) ((pre ++ r).length : Int) (pre.length : Int)) (turnU r o, d1, d2, d3, d4, d5, d6)
  | [], pre, o, ho, hr, hl => by
    refine Ev.succ ?_
    simp only [Z65, Zm, decide_false, Bool.false_eq_true, if_false]
    exact Ev.some _
  | m :: r, pre, o, ho, hr, hl => by
    obtain ⟨h0, h1⟩ := hr m (List.mem_cons_self ..)
    have ih := ZjM d1 d2 d3 d4 d5 d6 r (pre ++ [m]) (flipAt o m) (Znf ho h0 h1) (fun i hi => by have := hr i (List.mem_cons_of_mem _ hi); simpa [flipAt] using this) (by simpa using hl)
    refine Ev.succ ?_
    simp only [Z65, Zg, Zp, decide_true, if_true, Int.toNat_natCast, Z7, h0, h1]
    rw [ZFf ho h0 h1, Zb pre m r (by omega)]
    rw [← Z4] at ih
    exact ih
theorem ZjQ (d1 d2 : Int) : ∀ (r pre : List (List Int)) (ys xs : List Int) (o : List CellD), Units r o.length → (∀ c ∈ o, isBit c.2) → (∀ u ∈ r, u.length ≤ 1000) → (pre ++ r).length ≤ 1000 → ys.length = pre.length → xs.length = r.length →
    Ev (fun k => Z4q k o d1 d2 (ys ++ xs) (pre ++ r) ((pre ++ r).length : Int) (pre.length : Int)) (setGo r xs o)
  | [], pre, ys, xs, o, hU, ho, hr, hl, hy, hx => by
    refine Ev.succ ?_
    simp only [Z4q, Zm, decide_false, Bool.false_eq_true, if_false]
    exact (Ev.some _).congr (by simp [setGo])
  | u :: r, pre, ys, [], o, hU, ho, hr, hl, hy, hx => by simp at hx
  | u :: r, pre, ys, x :: xs, o, hU, ho, hr, hl, hy, hx => by
    have hon := hU.on u (List.mem_cons_self ..)
    obtain ⟨p1, p2, p3⟩ := hU.heads u (List.mem_cons_self ..)
    have p1' : (0 : Int) < (u.length : Int) := by omega
    have hlt2 : (pre.length : Int) < ((ys ++ x :: xs).length : Int) := by simp; omega
    have hg : List.getD (ys ++ x :: xs) pre.length 0 = x := by rw [← hy]; exact Z7 _ _ _ _
    have ih := fun o h1 h2 => ZjQ d1 d2 r (pre ++ [u]) (ys ++ [x]) xs o h1 h2 (fun v hv => hr v (List.mem_cons_of_mem _ hv)) (by simpa using hl) (by simp [hy]) (by simpa using hx)
    rw [← Z4, ← Z4] at ih
    refine Ev.succ ?_
    simp only [Z4q, Zg, Zp, decide_true, if_true, Int.toNat_natCast, Z7, Int.toNat_zero, p1', p2, p3, hlt2, hg, decide_eq_true_eq, setGo]
    by_cases hbx : bitOf o u = x
    · have hbx' : (List.getD o (List.getD u 0 0).toNat (0, 0)).2 = x := hbx
      simp only [hbx', hbx, if_true]
      rw [Zb pre u r (by omega)]
      exact ih o hU.tail ho
    · have hbx' : ¬ (List.getD o (List.getD u 0 0).toNat (0, 0)).2 = x := hbx
      simp only [hbx', hbx, if_false]
      refine Ev.bind (ZjM d1 d2 (ys ++ x :: xs) (pre ++ u :: r) _ _ u [] o ho hon (by simpa using hr u (List.mem_cons_self ..))) ?_
      simp only
      rw [Zb pre u r (by omega)]
      exact ih (turnU u o) (by rw [Z6M]; exact hU.tail) (Zpw u o ho hon)
theorem ZoL (R C : Int) (o : List CellD) (us : List (List Int)) (xs : List Int) (hU : Units us o.length) (ho : ∀ c ∈ o, isBit c.2) (hr : ∀ u ∈ us, u.length ≤ 1000) (hl : us.length ≤ 1000) (hx : xs.length = us.length) : Ev (fun k => Zaq k (R, C, o) us xs) (setGo us xs o) := by
 refine Ev.succ ?_
 simp only [Zaq]
 exact Ev.bind (ZjQ R C us [] [] xs o hU ho hr (by simpa using hl) rfl hx) (Ev.some _)
theorem ZA7 (x : CellD) (h : isBit x.2) : Ev (fun k => Z5D k x) (flipC x) := by
 refine Ev.succ ?_
 simp only [Z5D]
 refine Ev.of ?_
 unfold flipC
 rw [w64 (by unfold isBit at h; omega) (by unfold isBit at h; omega)]
theorem ZlB (d1 d2 : Int) : ∀ (r pre : List Int) (o : List CellD), (∀ c ∈ o, isBit c.2) → (∀ m ∈ r, 0 ≤ m ∧ m < (o.length : Int)) → (pre ++ r).length ≤ 1000 →
    Ev (fun k => Z7h k o d1 d2 (pre ++ r) ((pre ++ r).length : Int) (pre.length : Int)) (turnU r o)
  | [], pre, o, ho, hr, hl => by
    refine Ev.succ ?_
    simp only [Z7h, Zm, decide_false, Bool.false_eq_true, if_false]
    exact Ev.some _
  | m :: r, pre, o, ho, hr, hl => by
    obtain ⟨h0, h1⟩ := hr m (List.mem_cons_self ..)
    have ih := ZlB d1 d2 r (pre ++ [m]) (flipAt o m) (Znf ho h0 h1) (fun i hi => by have := hr i (List.mem_cons_of_mem _ hi); simpa [flipAt] using this) (by simpa using hl)
    have hp := ZA7 (cellAt o m) (ho _ (Z8c h0 h1 (0, 0)))
    refine Ev.succ ?_
    simp only [Z7h, Zg, Zp, decide_true, if_true, Int.toNat_natCast, Z7, h0, h1]
    refine Ev.bind (a := flipC (cellAt o m)) hp ?_
    rw [Zb pre m r (by omega)]
    rw [← Z4] at ih
    exact ih
theorem ZBy (R C : Int) (o : List CellD) (u : List Int) (ho : ∀ c ∈ o, isBit c.2) (hu : ∀ m ∈ u, 0 ≤ m ∧ m < (o.length : Int)) (hl : u.length ≤ 1000) : Ev (fun k => Zeh k (R, C, o) u) (turnU u o) := by
 refine Ev.succ ?_
 simp only [Zeh]
 exact Ev.bind (ZlB R C u [] o ho hu (by simpa using hl)) (Ev.some _)
theorem Zle (L : List CellD) (d0 d1 d2 d3 : Int) (d4 : List CellD) (d5 d6 : Int) : ∀ (r pre : List (List Int)) (ys xs : List Int) (o : List CellD), o.length = L.length → Units r o.length → (∀ u ∈ r, bitOf o u = bitOf L u) → (∀ c ∈ o, isBit c.2) → (∀ u ∈ r, u.length ≤ 1000) → (pre ++ r).length ≤ 1000 → ys.length = pre.length → xs.length = r.length →
    Ev (fun k => Z5d k d0 d1 L d2 d3 d4 d5 d6 o (pre ++ r) (ys ++ xs) ((pre ++ r).length : Int) (pre.length : Int)) (d2, d3, d4, d5, d6, setGo r xs o)
  | [], pre, ys, xs, o, hL, hU, hsame, ho, hr, hl, hy, hx => by
    refine Ev.succ ?_
    simp only [Z5d, Zm, decide_false, Bool.false_eq_true, if_false]
    exact (Ev.some _).congr (by simp [setGo])
  | u :: r, pre, ys, [], o, hL, hU, hsame, ho, hr, hl, hy, hx => by simp at hx
  | u :: r, pre, ys, x :: xs, o, hL, hU, hsame, ho, hr, hl, hy, hx => by
    have hon := hU.on u (List.mem_cons_self ..)
    obtain ⟨p1, p2, p3⟩ := hU.heads u (List.mem_cons_self ..)
    rw [hL] at p3
    have p1' : (0 : Int) < (u.length : Int) := by omega
    have hlt2 : (pre.length : Int) < ((ys ++ x :: xs).length : Int) := by simp; omega
    have hg : List.getD (ys ++ x :: xs) pre.length 0 = x := by rw [← hy]; exact Z7 _ _ _ _
    have hs := hsame u (List.mem_cons_self ..)
    have ih := fun o h0 h1 h2 h3 => Zle L d0 d1 d2 d3 d4 d5 d6 r (pre ++ [u]) (ys ++ [x]) xs o h0 h1 h2 h3 (fun v hv => hr v (List.mem_cons_of_mem _ hv)) (by simpa using hl) (by simp [hy]) (by simpa using hx)
    rw [← Z4, ← Z4] at ih
    refine Ev.succ ?_
    simp only [Z5d, Zg, Zp, decide_true, if_true, Int.toNat_natCast, Z7, Int.toNat_zero, p1', p2, p3, hlt2, hg, decide_eq_true_eq, setGo, ne_eq, ite_not]
    by_cases hbx : bitOf o u = x
    · have hbx' : (List.getD L (List.getD u 0 0).toNat (0, 0)).2 = x := hs.symm.trans hbx
      simp only [hbx', hbx, if_true]
      rw [Zb pre u r (by omega)]
      exact ih o hL hU.tail (fun v hv => hsame v (List.mem_cons_of_mem _ hv)) ho
    · have hbx' : ¬ (List.getD L (List.getD u 0 0).toNat (0, 0)).2 = x := fun h => hbx (hs.trans h)
      simp only [hbx', hbx, if_false]
      refine Ev.bind (ZBy d5 d6 o u ho hon (hr u (List.mem_cons_self ..))) ?_
      rw [Zb pre u r (by omega)]
      exact ih (turnU u o) (by rw [Z6M]; exact hL) (by rw [Z6M]; exact hU.tail) (fun v hv => (ZsK hU rfl hv).trans (hsame v (List.mem_cons_of_mem _ hv))) (Zpw u o ho hon)
theorem ZE5 {n : Nat} {u : List Int} (h : u.Nodup) (hon : ∀ m ∈ u, 0 ≤ m ∧ m < (n : Int)) : u.length ≤ n := by
 have h1 : (u.map Int.toNat).Nodup := by
  rw [List.nodup_iff_pairwise_ne, List.pairwise_map]
  rw [List.nodup_iff_pairwise_ne] at h
  refine List.Pairwise.imp_of_mem ?_ h
  intro a b ha hb hab hc
  have := hon a ha
  have := hon b hb
  omega
 have h2 : (u.map Int.toNat) ⊆ List.range n := by
  intro x hx
  obtain ⟨m, hm, rfl⟩ := List.mem_map.1 hx
  have := hon m hm
  rw [List.mem_range]
  omega
 have := h1.length_le_of_subset h2
 simpa using this
theorem ZtO (b : BoardD) (hb : boardOK b = true) : ∀ u ∈ unitsP b, u.length ≤ 1000 := by
 intro u hu
 obtain ⟨g1, g2, g3, g4, g5, g6⟩ := Zn hb
 have hpp := Zu g1 g2 g3 g4
 have := ZE5 ((ZX b).once u hu) ((ZX b).on u hu)
 omega
def stateN (b : BoardD) (n : Int) : List CellD := setGo (unitsP b) (bitsN (unitsP b).length n) b.2.2
theorem ZmH (b : BoardD) (hb : boardOK b = true) (hu : (unitsP b).length ≤ 40) (v : Int) (h0 : 0 ≤ v) (h1 : v < 1099511627776) : Ev (fun k => ZbQ k b v) (b.1, b.2.1, stateN b v) := by
 obtain ⟨g1, g2, g3, g4, g5, g6⟩ := Zn hb
 have hpp := Zu g1 g2 g3 g4
 refine Ev.succ ?_
 simp only [ZbQ]
 refine Ev.bind (Z8a b hb) ?_
 have h2 := ZqI b.1 b.2.1 b.2.2 0 0 [] v h0 h1 (unitsP b).length 0 (by omega)
 simp only [Nat.zero_add] at h2
 refine Ev.bind h2 ?_
 have h3 : Ev (fun k => Zex k b (bitsN (unitsP b).length v)) (b.1, b.2.1, stateN b v) := by
  refine Ev.succ ?_
  simp only [Zex]
  refine Ev.bind (Zfr b (by omega)) (Ev.bind (Z8a b hb) ?_)
  exact Ev.bind (Zle b.2.2 b.1 b.2.1 0 0 [] b.1 b.2.1 (unitsP b) [] [] (bitsN (unitsP b).length v) b.2.2 rfl (ZX b) (fun _ _ => rfl) (Z51 hb) (ZtO b hb) (by simp; omega) rfl (Z3S _ _)) (Ev.some _)
 exact Ev.bind h3 (Ev.some _)
theorem ZgH (b : BoardD) (hb : boardOK b = true) (hu : (unitsP b).length ≤ 16) (v : Int) (h0 : 0 ≤ v) (h1 : v < 2 ^ (unitsP b).length) : Ev (fun k => Z5R k b v) ((b.1, b.2.1, stateN b v), true) := by
 obtain ⟨g1, g2, g3, g4, g5, g6⟩ := Zn hb
 have hpp := Zu g1 g2 g3 g4
 have hp := Zhm (u := (unitsP b).length) (by omega)
 have c1 : ¬ ((unitsP b).length : Int) > 16 := by omega
 have c2 : ¬ v < 0 := by omega
 have c3 : ¬ v ≥ 2 ^ (unitsP b).length := by omega
 refine Ev.succ ?_
 simp only [Z5R]
 refine Ev.bind (Zaz b (by omega)) ?_
 simp only [hb, Bool.not_true, Bool.false_eq_true, if_false]
 refine Ev.bind (ZaO b hb) ?_
 simp only [c1, decide_false, Bool.false_eq_true, if_false, c2, ZzX (u := (unitsP b).length) (by omega), c3]
 refine Ev.bind (Zb5 b (by omega)) (Ev.bind (Zon v h0 (by omega) (unitsP b).length (by omega)) ?_)
 exact Ev.bind (ZoL b.1 b.2.1 b.2.2 (unitsP b) (bitsN (unitsP b).length v) (ZX b) (Z51 hb) (ZtO b hb) (by omega) (Z3S _ _)) (Ev.some _)
theorem ZaG (b : BoardD) (hb : boardOK b = true) (n : Int) : (∀ c ∈ stateN b n, cellOK c = true) ∧ (stateN b n).map Prod.fst = b.2.2.map Prod.fst :=
 ZDw (unitsP b) _ b.2.2 (fun u hu m hm => (Zbi b).1.on u hu m hm) (Zn hb).2.2.2.2.2
theorem Z7Y (b : BoardD) (n : Int) : (stateN b n).length = b.2.2.length := ZaV _ _ _
theorem Zla (b : BoardD) (hb : boardOK b = true) (n : Int) : boardOK (b.1, b.2.1, stateN b n) = true := ZwR hb (Z7Y b n) (ZaG b hb n).1
theorem ZcI (b : BoardD) (hb : boardOK b = true) (n : Int) : unitsP (b.1, b.2.1, stateN b n) = unitsP b := ZsS (b := (b.1, b.2.1, stateN b n)) (b' := b) rfl rfl (ZaG b hb n).2
theorem Zea (b : BoardD) (hb : boardOK b = true) (n : Int) : groupsOf (b.1, b.2.1, stateN b n) = groupsOf b := Zot (b := (b.1, b.2.1, stateN b n)) (b' := b) rfl rfl (ZaG b hb n).2
theorem Zqk (b : BoardD) (hb : boardOK b = true) (n m : Int) : stateN (b.1, b.2.1, stateN b n) m = stateN b m := by
 show setGo (unitsP (b.1, b.2.1, stateN b n)) (bitsN (unitsP (b.1, b.2.1, stateN b n)).length m) (stateN b n) = _
 rw [ZcI b hb]
 exact ZEx (ZX b) (Z3S _ _) (Z3S _ _) (ZhC _ _) (ZhC _ _) (Z51 hb)
theorem ZD3 (b : BoardD) (hb : boardOK b = true) (n : Int) : bitsP (stateN b n) (unitsP b) = bitsN (unitsP b).length n := Zz5 (ZX b) (Z3S _ _) (ZhC _ _) (Z51 hb)
def numB (b : BoardD) : Int := numP (bitsP b.2.2 (unitsP b))
theorem Zj5 (b : BoardD) (hb : boardOK b = true) : 0 ≤ numB b ∧ numB b < 2 ^ (unitsP b).length := by
 have := Zjl (bitsP b.2.2 (unitsP b)) (ZeR (Z51 hb) (ZX b))
 rw [ZaU] at this
 exact this
theorem ZDi (b : BoardD) (hb : boardOK b = true) (n : Int) (h0 : 0 ≤ n) (h1 : n < 2 ^ (unitsP b).length) : numB (b.1, b.2.1, stateN b n) = n := by
 show numP (bitsP (stateN b n) (unitsP (b.1, b.2.1, stateN b n))) = n
 rw [ZcI b hb, ZD3 b hb, Zy6 _ _ h0 h1]
theorem Zmo (b : BoardD) (hb : boardOK b = true) : stateN b (numB b) = b.2.2 := by
 unfold stateN numB
 have h := ZpA (bitsP b.2.2 (unitsP b)) (ZeR (Z51 hb) (ZX b))
 rw [ZaU] at h
 rw [h]
 exact ZyO _ _
end Go.Proofs.Ytglkedenkcpcbaa.Vs

set_option linter.unusedVariables false
set_option linter.unusedSimpArgs false
namespace Go.Proofs.Ytglkedenkcpcbaa.Vs
open Go.RowKit
def afterN (b : BoardD) (c n : Int) : List CellD := (fallOf b (groupsOf b) (kindsB b []) c (stateN b n)).2
def nextN (b : BoardD) (c n : Int) : Int := numP (bitsP (afterN b c n) (unitsP b))
def nextL (b : BoardD) (c : Int) : List Int := (List.range (2 ^ (unitsP b).length)).map fun (n : Nat) => nextN b c (n : Int)
theorem ZaT (b : BoardD) (c : Int) : (nextL b c).length = 2 ^ (unitsP b).length := by simp [nextL]
theorem ZbN (b : BoardD) (hb : boardOK b = true) (c n : Int) : (∀ x ∈ afterN b c n, cellOK x = true) ∧ (afterN b c n).map Prod.fst = b.2.2.map Prod.fst ∧ (afterN b c n).length = b.2.2.length := by
 have h := ZaG b hb n
 have h2 := (ZCo b (groupsOf b) (kindsB b []) c h.1).trans h.2
 exact ⟨Zkt b (groupsOf b) (kindsB b []) c h.1, h2, ZaP h2⟩
theorem ZBX (b : BoardD) (hb : boardOK b = true) (c n : Int) : boardOK (b.1, b.2.1, afterN b c n) = true := ZwR hb (ZbN b hb c n).2.2 (ZbN b hb c n).1
theorem Znk (b : BoardD) (hb : boardOK b = true) (c n : Int) : unitsP (b.1, b.2.1, afterN b c n) = unitsP b := ZsS (b := (b.1, b.2.1, afterN b c n)) (b' := b) rfl rfl (ZbN b hb c n).2.1
theorem ZAj (b : BoardD) (hb : boardOK b = true) (c n : Int) : nextN b c n = numB (b.1, b.2.1, afterN b c n) := by
 unfold nextN numB
 rw [Znk b hb]
theorem ZD0 (b : BoardD) (hb : boardOK b = true) (c n : Int) : 0 ≤ nextN b c n ∧ nextN b c n < 2 ^ (unitsP b).length := by
 rw [ZAj b hb]
 have := Zj5 (b.1, b.2.1, afterN b c n) (ZBX b hb c n)
 rw [Znk b hb] at this
 exact this
theorem Z7F {u : Nat} (h : u ≤ 10) : 0 < 2 ^ u ∧ 2 ^ u ≤ 1024 := ⟨Nat.two_pow_pos u, by have : 2 ^ u ≤ 2 ^ 10 := Nat.pow_le_pow_right (by omega) h; omega⟩
theorem small40 {m : Nat} (h : m ≤ 1024) : (m : Int) < 1099511627776 := by omega
theorem Z7s (u : Nat) : ((2 ^ u : Nat) : Int) = (2 : Int) ^ u := by simp
theorem ZD4 (b : BoardD) (hb : boardOK b = true) (c : Int) : ∀ x ∈ nextL b c, 0 ≤ x ∧ x < ((nextL b c).length : Int) := by
 intro x hx
 obtain ⟨n, hn, rfl⟩ := List.mem_map.1 hx
 have := ZD0 b hb c n
 rw [ZaT, Z7s]
 exact this
theorem ZD8 (b : BoardD) (hb : boardOK b = true) (c n : Int) : nextL (b.1, b.2.1, stateN b n) c = nextL b c := by
 unfold nextL
 rw [ZcI b hb]
 refine List.map_congr_left (fun m _ => ?_)
 unfold nextN afterN
 rw [ZcI b hb, Zea b hb, Zqk b hb, Ze4 (b := (b.1, b.2.1, stateN b n)) (b' := b) rfl (Z7Y b n), ZdM (b := (b.1, b.2.1, stateN b n)) (b' := b) rfl rfl]
theorem ZCr (b : BoardD) (hb : boardOK b = true) (c : Int) (hc : 0 ≤ c) (hc2 : c < b.2.1) : Ev (fun k => Zfw k b c) ((fallOf b (groupsOf b) (kindsB b []) c b.2.2).1, b.1, b.2.1, (fallOf b (groupsOf b) (kindsB b []) c b.2.2).2) := by
 obtain ⟨p, hp⟩ := Zwo b hb (groupsOf b) (Z1W b) c hc hc2
 refine Ev.succ ?_
 simp only [Zfw, Z7e, Z7f]
 refine Ev.bind (Ev.bind (ZfY b hb) (Ev.bind hp (Ev.some _))) ?_
 exact Ev.bind (Ev.some _) (Ev.some _)
theorem ZlI (b : BoardD) (hb : boardOK b = true) (hu : (unitsP b).length ≤ 10) : Ev (fun k => Zce k b) ((2 ^ (unitsP b).length : Nat) : Int) := by
 refine Ev.succ ?_
 simp only [Zce]
 refine Ev.bind (Z8a b hb) ?_
 rw [ZwN (Int.natCast_nonneg _) (by omega), ZzX (by omega), Z7s]
 exact Ev.some _
theorem Zy0 (f : Nat → Int) (m : Nat) : (List.range m).map f ++ [f m] = (List.range (m + 1)).map f := by rw [List.range_succ]; simp
theorem Zlf (b : BoardD) (hb : boardOK b = true) (hu : (unitsP b).length ≤ 10) (c : Int) (hc : 0 ≤ c) (hc2 : c < b.2.1) : ∀ (r m : Nat), m + r = 2 ^ (unitsP b).length →
    Ev (fun k => Z79 k b.1 b.2.1 b.2.2 ((List.range m).map fun (n : Nat) => nextN b c (n : Int)) c (m : Int)) (nextL b c)
  | 0, m, hm => by
    refine Ev.succ ?_
    simp only [Z79]
    refine Ev.bind (ZlI b hb hu) ?_
    have : ¬ (m : Int) < ((2 ^ (unitsP b).length : Nat) : Int) := by omega
    simp only [this, decide_false, Bool.false_eq_true, if_false]
    refine (Ev.some _).congr ?_
    rw [Nat.add_zero] at hm
    rw [hm]; rfl
  | r + 1, m, hm => by
    have hp := Z7F hu
    have hlt : (m : Int) < ((2 ^ (unitsP b).length : Nat) : Int) := by omega
    have hml : m + 1 ≤ 140737488355328 / 8 := by omega
    have hw : wrap64 ((m : Int) + 1) = ((m + 1 : Nat) : Int) := by rw [w64 (by omega) (by omega)]; omega
    have hrun := ZCr (b.1, b.2.1, stateN b m) (Zla b hb m) c hc hc2
    rw [Zea b hb, Ze4 (b := (b.1, b.2.1, stateN b m)) (b' := b) rfl (Z7Y b m), ZdM (b := (b.1, b.2.1, stateN b m)) (b' := b) rfl rfl] at hrun
    have hnum := Zcl (b.1, b.2.1, afterN b c m) (ZBX b hb c m) (by rw [Znk b hb]; omega)
    refine Ev.succ ?_
    simp only [Z79]
    refine Ev.bind (ZlI b hb hu) ?_
    simp only [hlt, decide_true, if_true]
    refine Ev.bind (ZmH b hb (by omega) m (Int.natCast_nonneg _) (by omega)) (Ev.bind hrun (Ev.bind hnum ?_))
    simp only [List.length_map, List.length_range, List.length_singleton, hml, if_true]
    rw [show numP (bitsP (b.1, b.2.1, afterN b c m).2.2 (unitsP (b.1, b.2.1, afterN b c m))) = nextN b c m from (ZAj b hb c m).symm, Zy0 (fun (n : Nat) => nextN b c (n : Int)) m, hw]
    exact Zlf b hb hu c hc hc2 r (m + 1) (by omega)
theorem Zev (b : BoardD) (hb : boardOK b = true) (hu : (unitsP b).length ≤ 10) (c : Int) (hc : 0 ≤ c) (hc2 : c < b.2.1) : Ev (fun k => Z7y k b c) (nextL b c) := by
 refine Ev.succ ?_
 simp only [Z7y]
 exact Ev.bind (Zlf b hb hu c hc hc2 _ 0 (Nat.zero_add _)) (Ev.some _)
theorem Zf9 (b1 b2 : Int) (b3 : List CellD) (o3 : List Int) (o4 : List (List Int)) (d1 d2 : Int) (o : List CellD) (v8 v9 v10 : Int) (v21 : List Int) (v22 v23 v39 v40 : Int) : ∀ (r pre : List (List Int)) (done rest : List Int), Heads r o.length → (pre ++ r).length ≤ 1000 → done.length = pre.length → rest.length = r.length →
    Ev (fun k => Z36 k b1 b2 b3 (pre ++ r) o3 o4 d1 d2 o (done ++ rest) v8 v9 v10 v21 v22 v23 v39 v40 ((pre ++ r).length : Int) (pre.length : Int)) (b1, b2, b3, pre ++ r, o3, o4, done ++ bitsP o r, v8, v9, v10, v21, v22, v23, v39, v40)
  | [], pre, done, rest, hh, hl, hd, hr => by
    obtain rfl : rest = [] := List.eq_nil_of_length_eq_zero hr
    refine Ev.succ ?_
    simp only [Z36, Zm, decide_false, Bool.false_eq_true, if_false, bitsP, List.map_nil]
    exact Ev.some _
  | u :: r, pre, done, [], hh, hl, hd, hr => by simp at hr
  | u :: r, pre, done, y :: rest, hh, hl, hd, hr => by
    obtain ⟨p1, p2, p3⟩ := hh u (List.mem_cons_self ..)
    have p1' : (0 : Int) < (u.length : Int) := by omega
    have hlt2 : (pre.length : Int) < ((done ++ y :: rest).length : Int) := by simp; omega
    have hset : List.set (done ++ y :: rest) pre.length (bitOf o u) = (done ++ [bitOf o u]) ++ rest := by rw [← hd, Zak]; simp
    have ih := Zf9 b1 b2 b3 o3 o4 d1 d2 o v8 v9 v10 v21 v22 v23 v39 v40 r (pre ++ [u]) (done ++ [bitOf o u]) rest (fun v hv => hh v (List.mem_cons_of_mem _ hv)) (by simpa using hl) (by simp [hd]) (by simpa using hr)
    refine Ev.succ ?_
    simp only [Z36, Zg, Zp, decide_true, if_true, Int.toNat_natCast, Z7, Int.toNat_zero, p1', p2, p3, hlt2]
    rw [show (List.getD o (List.getD u 0 0).toNat (0, 0)).2 = bitOf o u from rfl, hset, Zb pre u r (by omega)]
    rw [← Z4] at ih
    refine ih.congr ?_
    simp [bitsP]
theorem Zfc (b : BoardD) (hb : boardOK b = true) (hu : (unitsP b).length ≤ 10) (c : Int) (hc : 0 ≤ c) (hc2 : c < b.2.1) (A B : List (List Int)) (v21 : List Int) (v22 v23 : Int) : ∀ (r m : Nat) (rest : List Int), m + r = 2 ^ (unitsP b).length → rest.length = r →
    Ev (fun k => Z2Z k b.1 b.2.1 b.2.2 (unitsP b) (groupsOf b) (A ++ (((List.range m).map fun (n : Nat) => nextN b c (n : Int)) ++ rest) :: B) (A.length : Int) c v21 v22 v23 ((2 ^ (unitsP b).length : Nat) : Int) (m : Int)) (b.1, b.2.1, b.2.2, unitsP b, groupsOf b, A ++ nextL b c :: B, v21, v22, v23)
  | 0, m, rest, hm, hr => by
    obtain rfl : rest = [] := List.eq_nil_of_length_eq_zero hr
    refine Ev.succ ?_
    have : ¬ (m : Int) < ((2 ^ (unitsP b).length : Nat) : Int) := by omega
    simp only [Z2Z, this, decide_false, Bool.false_eq_true, if_false]
    refine (Ev.some _).congr ?_
    rw [Nat.add_zero] at hm
    rw [hm, List.append_nil]; rfl
  | r + 1, m, [], hm, hr => by simp at hr
  | r + 1, m, y :: rest, hm, hr => by
    obtain ⟨g1, g2, g3, g4, g5, g6⟩ := Zn hb
    have hpp := Zu g1 g2 g3 g4
    have hp := Z7F hu
    have hlt : (m : Int) < ((2 ^ (unitsP b).length : Nat) : Int) := by omega
    have hw : wrap64 ((m : Int) + 1) = ((m + 1 : Nat) : Int) := by rw [w64 (by omega) (by omega)]; omega
    have hul : (unitsP b).length * 8 ≤ 281474976710656 := by omega
    have hm40 : (m : Int) < 1099511627776 := small40 (Nat.le_trans (Nat.le.intro hm) hp.2)
    obtain ⟨p, hdrop⟩ := Zne b hb (groupsOf b) (Z1W b) c hc hc2 (stateN b m) (Z7Y b m) (ZaG b hb m).1
    have h4 := Zf9 b.1 b.2.1 b.2.2 (groupsOf b) (A ++ (((List.range m).map fun (n : Nat) => nextN b c (n : Int)) ++ y :: rest) :: B) b.1 b.2.1 (afterN b c m) (A.length : Int) c (m : Int) v21 v22 v23 ((2 ^ (unitsP b).length : Nat) : Int) (m : Int) (unitsP b) [] [] (List.replicate (unitsP b).length 0) (by rw [(ZbN b hb c m).2.2]; exact (ZX b).heads) (by simp; omega) rfl (by simp)
    have hbits : ∀ x ∈ bitsP (afterN b c m) (unitsP b), isBit x := ZeR (fun x hx => ZgR ((ZbN b hb c m).1 x hx)) (by rw [(ZbN b hb c m).2.2]; exact ZX b)
    have hAl : (A.length : Int) < ((A ++ (((List.range m).map fun (n : Nat) => nextN b c (n : Int)) ++ y :: rest) :: B).length : Int) := by simp; omega
    have hml : (m : Int) < ((((List.range m).map fun (n : Nat) => nextN b c (n : Int)) ++ y :: rest).length : Int) := by simp; omega
    have hset : List.set (((List.range m).map fun (n : Nat) => nextN b c (n : Int)) ++ y :: rest) m (nextN b c m) = ((List.range (m + 1)).map fun (n : Nat) => nextN b c (n : Int)) ++ rest := by
      have := Zak ((List.range m).map fun (n : Nat) => nextN b c (n : Int)) y (nextN b c m) rest
      rw [List.length_map, List.length_range] at this
      rw [this, ← Zy0 (fun (n : Nat) => nextN b c (n : Int)) m]
      simp
    refine Ev.succ ?_
    simp only [Z2Z, hlt, decide_true, if_true]
    refine Ev.bind (Zb5 b (by omega)) ?_
    refine Ev.bind (Zon (m : Int) (Int.natCast_nonneg m) hm40 (unitsP b).length (Nat.le_trans hu (by decide))) ?_
    refine Ev.bind (ZoL b.1 b.2.1 b.2.2 (unitsP b) _ (ZX b) (Z51 hb) (ZtO b hb) (by omega) (Z3S _ _)) ?_
    refine Ev.bind hdrop ?_
    simp only [Int.toNat_natCast, hul, if_true]
    refine Ev.bind h4 ?_
    simp only [List.nil_append, Zp, hAl, if_true]
    refine Ev.bind (Zc2 _ hbits (by rw [ZaU]; omega)) ?_
    simp only [Int.toNat_natCast, Z7, Int.natCast_nonneg, hml, if_true]
    rw [show numP (bitsP (afterN b c m) (unitsP b)) = nextN b c m from rfl, hset, Zak, hw]
    exact Zfc b hb hu c hc hc2 A B v21 v22 v23 r (m + 1) rest (by omega) (by simpa using hr)
theorem Zff (b : BoardD) (hb : boardOK b = true) (hu : (unitsP b).length ≤ 10) : ∀ (r pre : List Int), colsOK b r → (pre ++ r).length ≤ 1000 → ∀ (A B : List (List Int)), A.length = pre.length → B.length = r.length →
    Ev (fun k => Z3c k b.1 b.2.1 b.2.2 (unitsP b) (groupsOf b) (A ++ B) (pre ++ r) ((pre ++ r).length : Int) (pre.length : Int)) (A ++ r.map (nextL b))
  | [], pre, hc, hl, A, B, hA, hB => by
    obtain rfl : B = [] := List.eq_nil_of_length_eq_zero hB
    refine Ev.succ ?_
    simp only [Z3c, Zm, decide_false, Bool.false_eq_true, if_false]
    exact Ev.some _
  | c :: r, pre, hc, hl, A, [], hA, hB => by simp at hB
  | c :: r, pre, hc, hl, A, y :: B, hA, hB => by
    obtain ⟨k1, k2⟩ := hc c (List.mem_cons_self ..)
    have hp := Z7F hu
    have h1 : (0 : Int) ≤ 2 ^ (unitsP b).length := by rw [← Z7s]; omega
    have h2 : (2 ^ (unitsP b).length) * 8 ≤ 281474976710656 := by omega
    have h3 : (pre.length : Int) < ((A ++ y :: B).length : Int) := by simp; omega
    have htn : Int.toNat ((2 : Int) ^ (unitsP b).length) = 2 ^ (unitsP b).length := by rw [← Z7s, Int.toNat_natCast]
    have hset : List.set (A ++ y :: B) pre.length (List.replicate (2 ^ (unitsP b).length) 0) = A ++ List.replicate (2 ^ (unitsP b).length) 0 :: B := by rw [← hA, Zak]
    have h4 : (pre.length : Int) < ((A ++ List.replicate (2 ^ (unitsP b).length) (0 : Int) :: B).length : Int) := by simp; omega
    have hget : List.getD (A ++ List.replicate (2 ^ (unitsP b).length) (0 : Int) :: B) pre.length [] = List.replicate (2 ^ (unitsP b).length) 0 := by rw [← hA]; exact Z7 _ _ _ _
    have ih := Zff b hb hu r (pre ++ [c]) (fun x hx => hc x (List.mem_cons_of_mem _ hx)) (by simpa using hl) (A ++ [nextL b c]) B (by simp [hA]) (by simpa using hB)
    refine Ev.succ ?_
    simp only [Z3c, Zg, Zp, decide_true, if_true, Int.toNat_natCast, Z7, ZzX (u := (unitsP b).length) (by omega), h1, htn, h2, h3, hset, h4, hget, List.length_replicate]
    have h2' := Zfc b hb hu c k1 k2 A B (pre ++ c :: r) ((pre ++ c :: r).length : Int) (pre.length : Int) (2 ^ (unitsP b).length) 0 (List.replicate (2 ^ (unitsP b).length) 0) (by omega) (by simp)
    simp only [List.range_zero, List.map_nil, List.nil_append, hA] at h2'
    refine Ev.bind h2' ?_
    simp only
    rw [Zb pre c r (by omega)]
    rw [← Z4, ← Z4] at ih
    refine ih.congr ?_
    simp
theorem Z8C (b : BoardD) (hb : boardOK b = true) (hu : (unitsP b).length ≤ 10) (t : List Int) (hc : colsOK b t) (ht : t.length ≤ 1000) : Ev (fun k => Z2P k b t) (t.map (nextL b)) := by
 have hm : t.length * 24 ≤ 281474976710656 := by omega
 refine Ev.succ ?_
 simp only [Z2P]
 refine Ev.bind (ZaO b hb) (Ev.bind (Z8M b hb) ?_)
 simp only [Int.toNat_natCast, hm, if_true]
 exact Ev.bind (Zff b hb hu t [] hc (by simpa using ht) [] (List.replicate t.length []) rfl (by simp)) (Ev.some _)
end Go.Proofs.Ytglkedenkcpcbaa.Vs

set_option linter.unusedVariables false
set_option linter.unusedSimpArgs false
namespace Go.Proofs.Ytglkedenkcpcbaa.Vs
open Go.RowKit
end Go.Proofs.Ytglkedenkcpcbaa.Vs

set_option linter.unusedVariables false
set_option linter.unusedSimpArgs false
namespace Go.Proofs.Ytglkedenkcpcbaa.Vs
open Go.RowKit
def backOK (b : BoardD) (c : Int) : Bool := boardOK b && decide (0 ≤ c ∧ c < b.2.1) && decide ((unitsP b).length ≤ 10)
theorem Zam {b : BoardD} {c : Int} (h : backOK b c = true) : boardOK b = true ∧ 0 ≤ c ∧ c < b.2.1 ∧ (unitsP b).length ≤ 10 := by
 simp only [backOK, Bool.and_eq_true, decide_eq_true_eq] at h
 exact ⟨h.1.1, h.1.2.1, h.1.2.2, h.2⟩
theorem ZcP (b : BoardD) (c : Int) (hl : b.2.2.length ≤ 9223372036854775806) : Ev (fun k => Z6P k b c) (backOK b c) := by
 refine Ev.succ ?_
 simp only [Z6P]
 refine Ev.bind (ZCh b c hl) ?_
 unfold backOK
 cases h : boardOK b && decide (0 ≤ c ∧ c < b.2.1) with
 | false => simp only [Bool.false_eq_true, if_false, Bool.false_and]; exact Ev.some _
 | true =>
  have hb : boardOK b = true := by simp only [Bool.and_eq_true] at h; exact h.1
  simp only [if_true, Bool.true_and]
  refine Ev.bind (Z8a b hb) ?_
  refine (Ev.some _).congr ?_
  simp only [decide_eq_decide]
  omega
theorem Zg1 (b : BoardD) (c : Int) (hl : b.2.2.length ≤ 9223372036854775806) : Ev (fun k => Z7m k b c) (backOK b c) := by
 refine Ev.succ ?_
 simp only [Z7m]
 refine Ev.bind (ZiA b c hl) ?_
 unfold backOK
 cases h : boardOK b && decide (0 ≤ c ∧ c < b.2.1) with
 | false => simp only [Bool.false_eq_true, if_false, Bool.false_and]; exact Ev.some _
 | true =>
  have hb : boardOK b = true := by simp only [Bool.and_eq_true] at h; exact h.1
  simp only [if_true, Bool.true_and]
  refine Ev.bind (ZaO b hb) ?_
  refine (Ev.some _).congr ?_
  simp only [decide_eq_decide]
  omega
def inside (next : List Int) : Prop := ∀ x ∈ next, 0 ≤ x ∧ x < (next.length : Int)
theorem Zkc (b : BoardD) (hb : boardOK b = true) (c : Int) : inside (nextL b c) := ZD4 b hb c
theorem Z4T (b : BoardD) (hu : (unitsP b).length ≤ 10) (c : Int) : (nextL b c).length ≤ 1024 ∧ 0 < (nextL b c).length := by
 have := Z7F hu
 rw [ZaT]
 omega
end Go.Proofs.Ytglkedenkcpcbaa.Vs

set_option linter.unusedVariables false
set_option linter.unusedSimpArgs false
namespace Go.Proofs.Ytglkedenkcpcbaa.Vs
open Go.RowKit
theorem Zf1 (b : BoardD) : ∀ (r pre : List Int), (pre ++ r).length ≤ 9223372036854775806 → Ev (fun k => Z3f k b.1 b.2.1 b.2.2 (pre ++ r) ((pre ++ r).length : Int) (pre.length : Int)) (if r.all (fun c => decide (0 ≤ c ∧ c < b.2.1)) then LR.go () else LR.ret false)
 | [], pre, hl => by
  refine Ev.succ ?_
  simp only [Z3f, Zm, decide_false, Bool.false_eq_true, if_false, List.all_nil, if_true]
  exact Ev.some _
 | x :: r, pre, hl => by
  have ih := Zf1 b r (pre ++ [x]) (by simpa using hl)
  refine Ev.succ ?_
  simp only [Z3f, Zg, Zp, decide_true, if_true, Int.toNat_natCast, Z7]
  rw [Zb pre x r (by omega)]
  rw [← Z4] at ih
  refine Ev.ite (fun h => ?_) (fun h => Ev.ite (fun h2 => ?_) (fun h2 => ?_))
  ·simp only [decide_eq_true_eq] at h
   have hx : ¬ (0 ≤ x ∧ x < b.2.1) := by omega
   simp only [hx, List.all_cons, decide_false, Bool.false_and, Bool.false_eq_true, if_false]; exact Ev.some _
  ·simp only [decide_eq_true_eq] at h2
   have hx : ¬ (0 ≤ x ∧ x < b.2.1) := by omega
   simp only [hx, List.all_cons, decide_false, Bool.false_and, Bool.false_eq_true, if_false]; exact Ev.some _
  ·simp only [decide_eq_true_eq] at h h2
   have hx : 0 ≤ x ∧ x < b.2.1 := by omega
   simp only [hx, and_self, List.all_cons, decide_true, Bool.true_and]; exact ih
theorem ZrV (b : BoardD) (l : List Int) (hb : b.2.2.length ≤ 9223372036854775806) (hl : l.length ≤ 9223372036854775806) : Ev (fun k => Z8L k b l) (boardOK b && decide (l.length ≤ 60) && l.all fun c => decide (0 ≤ c ∧ c < b.2.1)) := by
 refine Ev.succ ?_
 simp only [Z8L]
 refine Ev.bind (Zaz b hb) ?_
 cases hbo : boardOK b with
 | false => simp only [Bool.not_false, if_true, Bool.false_and]; exact Ev.some _
 | true =>
  simp only [Bool.not_true, Bool.false_eq_true, if_false, Bool.true_and]
  refine Ev.ite (fun h => Ev.of ?_) (fun h => ?_)
  ·simp only [decide_eq_true_eq] at h
   have : ¬ l.length ≤ 60 := by omega
   simp [this]
  ·simp only [decide_eq_true_eq] at h
   have h6 : l.length ≤ 60 := by omega
   refine Ev.bind (Zf1 b l [] (by simpa using hl)) ?_
   simp only [h6, decide_true, Bool.true_and]
   cases hx : l.all (fun c => decide (0 ≤ c ∧ c < b.2.1)) with
   | true => simp only [if_true]; exact Ev.go (Ev.some _)
   | false => simp only [Bool.false_eq_true, if_false]; exact Ev.ret (Ev.some _)
end Go.Proofs.Ytglkedenkcpcbaa.Vs

set_option linter.unusedVariables false
set_option linter.unusedSimpArgs false
namespace Go.Proofs.Ytglkedenkcpcbaa.Vs
open Go.RowKit
def entriesOK (b : BoardD) (t : List Int) : Bool := boardOK b && decide (t.length ≤ 60) && t.all fun c => decide (0 ≤ c ∧ c < b.2.1)
theorem Zyk {b : BoardD} {t : List Int} (h : entriesOK b t = true) : boardOK b = true ∧ t.length ≤ 60 ∧ colsOK b t := by
 unfold entriesOK at h
 simp only [Bool.and_eq_true, decide_eq_true_eq, List.all_eq_true] at h
 exact ⟨h.1.1, h.1.2, h.2⟩
theorem ZxQ (b : BoardD) (l : List Int) (hb : b.2.2.length ≤ 9223372036854775806) (hl : l.length ≤ 9223372036854775806) : Ev (fun k => Z4o k b l) (entriesOK b l) := by
 refine Ev.succ ?_
 simp only [Z4o]
 refine Ev.bind (ZhX b hb) ?_
 unfold entriesOK
 cases hbo : boardOK b with
 | false => simp only [Bool.false_eq_true, if_false, Bool.false_and]; exact Ev.some _
 | true =>
  obtain ⟨g1, g2, g3, g4, g5, g6⟩ := Zn hbo
  simp only [if_true, Bool.true_and]
  rw [w64 (n := b.2.1 - 1) (by omega) (by omega)]
  refine Ev.ite (fun h => ?_) (fun h => ?_)
  ·simp only [decide_eq_true_eq] at h
   have : l.length ≤ 60 := by omega
   simp only [this, decide_true, Bool.true_and]
   refine (Ev.bind (ZrY l _ _ hl) (Ev.some _)).congr ?_
   congr 1
   funext c
   have : (0 ≤ c ∧ c ≤ b.2.1 - 1) ↔ (0 ≤ c ∧ c < b.2.1) := by omega
   simp only [this]
  ·simp only [decide_eq_true_eq] at h
   have : ¬ l.length ≤ 60 := by omega
   simp only [this, decide_false, Bool.false_and]
   exact Ev.some _
end Go.Proofs.Ytglkedenkcpcbaa.Vs

set_option linter.unusedVariables false
set_option linter.unusedSimpArgs false
namespace Go.Proofs.Ytglkedenkcpcbaa.Vs
open Go.RowKit
theorem ZFA (a b : Int) : EvP (fun k => Z7G k a b) (fun m => a ≤ m) := by
 obtain ⟨m, e, h, _⟩ := ZEE a b
 exact ⟨m, e, h⟩
section
variable {code : List Int} {at' seed : Int}
theorem ZEq (b : BoardD) (h : Cur code at' 6) : EvP (fun k => Z1S k (code, at', seed) b) (fun r => at' ≤ r.2.1 ∧ r.2.1 ≤ at' + 6) := by
 obtain ⟨v, a, s, e, h1, h2⟩ := ZDZ seed b h
 exact ⟨_, e, h1, h2⟩
theorem ZEM (r c : Int) (n : Nat) (hw : wrap64 (r * c) = (n : Int)) (hn : n ≤ 100) (h : Cur code at' 1010) : EvP (fun k => Z2f k (code, at', seed) r c) (fun z => at' ≤ z.2.1 ∧ z.2.1 ≤ at' + 1010 ∧ z.1.2.2.length = n) := by
 obtain ⟨l, a, s, e, h1, h2, h3⟩ := Zu6 seed r c n hw hn h
 exact ⟨_, e, h1, h2, h3⟩
theorem ZqA (code : List Int) (b30 b31 b50 b51 v4 : Int) (o4 : List CellD) : ∀ (d : Nat) (o6 : List CellD) (at' seed : Int), o6.length + d = 18 → Cur code at' (2 * d) →
    EvP (fun k => ZP k at' seed code b30 b31 o4 b50 b51 o6 v4) (fun z => ∃ a s l, z = (a, s, code, b30, b31, o4, b50, b51, l) ∧ l.length = 18 ∧ at' ≤ a ∧ a ≤ at' + 2 * d)
  | 0, o6, at', seed, h, hc => by
    refine EvP.succ ?_
    have hlt : ¬ (o6.length : Int) < 18 := by omega
    simp only [ZP, hlt, decide_false, Bool.false_eq_true, if_false]
    exact EvP.some ⟨at', seed, o6, rfl, by omega, by omega, by omega⟩
  | d + 1, o6, at', seed, h, hc => by
    refine EvP.succ ?_
    have hlt : (o6.length : Int) < 18 := by omega
    have step : ∀ (x : CellD) (a s : Int), at' ≤ a → a ≤ at' + 2 → EvP (fun k => ZP k a s code b30 b31 o4 b50 b51 (o6 ++ [x]) v4) (fun z => ∃ a s l, z = (a, s, code, b30, b31, o4, b50, b51, l) ∧ l.length = 18 ∧ at' ≤ a ∧ a ≤ at' + 2 * ((d + 1 : Nat) : Int)) := fun x a s h1 h2 => by
      refine (ZqA code b30 b31 b50 b51 v4 o4 d (o6 ++ [x]) a s (by simp; omega) (hc.to (by omega) (by omega))).mono (fun z hz => ?_)
      obtain ⟨a2, s2, l, e, k1, k2, k3⟩ := hz
      exact ⟨a2, s2, l, e, k1, by omega, by omega⟩
    simp only [ZP, hlt, decide_true, if_true]
    refine EvP.ite (fun _ => ?_) (fun _ => ?_)
    · refine EvP.bind (ZfM 2 (hc.to (by omega) (by omega)) (by omega)) (fun z hz => ?_)
      exact EvP.guard (by simp only [List.length_cons, List.length_nil]; omega) (step _ _ _ (by omega) (by omega))
    · exact EvP.guard (by simp only [List.length_cons, List.length_nil]; omega) (step _ _ _ (by omega) (by omega))
theorem ZDB (h : Cur code at' 1700) : EvP (fun k => Z6r k (code, at', seed)) (fun r => at' ≤ r.2.1 ∧ r.2.1 ≤ at' + 1700 ∧ r.1.2.2.length ≤ 91) := by
 refine EvP.succ ?_
 simp only [Z6r]
 refine EvP.bind (ZpS 6 (h.to (by omega) (by omega))) (fun z0 h0 => ?_)
 refine EvP.ite (fun _ => ?_) (fun _ => ?_)
 ·refine EvP.bind (ZfM 2 (h.to (by omega) (by omega)) (by omega)) (fun z1 h1 => ?_)
  refine EvP.bind (ZqA code 0 0 3 6 _ [] 18 [] _ _ (by simp) (h.to (by omega) (by omega))) (fun z hz => ?_)
  obtain ⟨a, s, l, rfl, h2, h3, h4⟩ := hz
  exact EvP.some ⟨by dsimp only; omega, by dsimp only; omega, by dsimp only; omega⟩
 ·refine EvP.bind (ZFg (h.to (by omega) (by omega))) (fun z4 h4 => ?_)
  exact EvP.some ⟨by dsimp only; omega, by dsimp only; omega, h4.2.2⟩
theorem Zq2 (code : List Int) (b30 b31 b50 b51 : Int) (o4 : List CellD) : ∀ (d i : Nat) (o6 : List CellD) (at' seed : Int), i + d = 12 → 1 ≤ d → o6.length = 12 → Cur code at' (4 * d) →
    EvP (fun k => Z3q k at' seed code b30 b31 o4 b50 b51 o6 (i : Int)) (fun z => ∃ a s l, z = (a, s, code, b30, b31, o4, b50, b51, l) ∧ l.length = 12 ∧ at' ≤ a ∧ a ≤ at' + 4 * d)
  | 0, i, o6, at', seed, h, h1, hl, hc => by omega
  | d + 1, i, o6, at', seed, h, h1, hl, hc => by
    refine EvP.succ ?_
    simp only [Z3q]
    refine EvP.bind (ZfM 2 (hc.to (by omega) (by omega)) (by omega)) (fun z1 hz1 => ?_)
    have w : wrap64 (10 + z1.1) = 10 + z1.1 := w64 (by omega) (by omega)
    have w2 : wrap64 ((i : Int) + 1) = ((i + 1 : Nat) : Int) := by rw [w64 (by omega) (by omega)]; omega
    rw [w]
    refine EvP.ite (fun g => ?_) (fun _ => EvP.some ⟨_, _, o6, rfl, hl, by omega, by omega⟩)
    simp only [decide_eq_true_eq] at g
    refine EvP.bind (Q1 := fun z => ∃ a s l, z = (a, s, code, b30, b31, o4, b50, b51, l, (i : Int)) ∧ l.length = 12 ∧ at' ≤ a ∧ a ≤ at' + 4) ?_ (fun z hz => ?_)
    · simp only [Z1z]
      refine EvP.bind (ZfM 2 (hc.to (by omega) (by omega)) (by omega)) (fun y hy => ?_)
      exact EvP.guard (by omega) (EvP.guard (by omega) (EvP.some ⟨_, _, _, rfl, by rw [List.length_set]; exact hl, by omega, by omega⟩))
    · obtain ⟨a, s, l, rfl, k1, k2, k3⟩ := hz
      dsimp only
      rw [w2]
      refine (Zq2 code b30 b31 b50 b51 o4 d (i + 1) l a s (by omega) (by omega) k1 (hc.to (by omega) (by omega))).mono (fun z hz => ?_)
      obtain ⟨a2, s2, l2, e, g1, g2, g3⟩ := hz
      exact ⟨a2, s2, l2, e, g1, by omega, by omega⟩
theorem Zqr (code : List Int) (n : Nat) (hn : n ≤ 100) (b30 b31 b50 b51 : Int) (o4 : List CellD) : ∀ (d i : Nat) (o6 : List CellD) (at' seed : Int), i + d = n → o6.length = n → Cur code at' (4 * d) →
    EvP (fun k => ZO k at' seed code b30 b31 o4 b50 b51 o6 (n : Int) (i : Int)) (fun z => ∃ a s l, z = (a, s, code, b30, b31, o4, b50, b51, l) ∧ l.length = n ∧ at' ≤ a ∧ a ≤ at' + 4 * d)
  | 0, i, o6, at', seed, h, hl, hc => by
    refine EvP.succ ?_
    have hlt : ¬ (i : Int) < (n : Int) := by omega
    simp only [ZO, hlt, decide_false, Bool.false_eq_true, if_false]
    exact EvP.some ⟨at', seed, o6, rfl, hl, by omega, by omega⟩
  | d + 1, i, o6, at', seed, h, hl, hc => by
    refine EvP.succ ?_
    have hlt : (i : Int) < (n : Int) := by omega
    have w2 : wrap64 ((i : Int) + 1) = ((i + 1 : Nat) : Int) := by rw [w64 (by omega) (by omega)]; omega
    have step : ∀ (l : List CellD) (a s : Int), l.length = n → at' ≤ a → a ≤ at' + 4 → EvP (fun k => ZO k a s code b30 b31 o4 b50 b51 l (n : Int) ((i + 1 : Nat) : Int)) (fun z => ∃ a s l, z = (a, s, code, b30, b31, o4, b50, b51, l) ∧ l.length = n ∧ at' ≤ a ∧ a ≤ at' + 4 * ((d + 1 : Nat) : Int)) := fun l a s k1 k2 k3 => by
      refine (Zqr code n hn b30 b31 b50 b51 o4 d (i + 1) l a s (by omega) k1 (hc.to (by omega) (by omega))).mono (fun z hz => ?_)
      obtain ⟨a2, s2, l2, e, g1, g2, g3⟩ := hz
      exact ⟨a2, s2, l2, e, g1, by omega, by omega⟩
    simp only [ZO, hlt, decide_true, if_true]
    refine EvP.bind (ZpS 4 (hc.to (by omega) (by omega))) (fun z1 hz1 => ?_)
    refine EvP.ite (fun _ => ?_) (fun _ => ?_)
    · refine EvP.bind (Q1 := fun z => ∃ a s l, z = (a, s, code, b30, b31, o4, b50, b51, l, (n : Int), (i : Int)) ∧ l.length = n ∧ at' ≤ a ∧ a ≤ at' + 4) ?_ (fun z hz => ?_)
      · simp only [Z1j]
        refine EvP.bind (ZDN [6, 7, 3] (by simp) (hc.to (by omega) (by omega))) (fun y hy => ?_)
        exact EvP.guard (by omega) (EvP.guard (by omega) (EvP.some ⟨_, _, _, rfl, by rw [List.length_set]; exact hl, by omega, by omega⟩))
      · obtain ⟨a, s, l, rfl, k1, k2, k3⟩ := hz
        dsimp only
        rw [w2]
        exact step l a s k1 k2 k3
    · rw [w2]
      exact step o6 _ _ hl (by omega) (by omega)
theorem Zwh (h : Cur code at' 2000) : EvP (fun k => Z4g k (code, at', seed)) (fun r => at' ≤ r.2.1 ∧ r.2.1 ≤ at' + 2000 ∧ r.1.2.2.length ≤ 91) := by
 refine EvP.succ ?_
 simp only [Z4g]
 refine EvP.bind (ZpS 20 (h.to (by omega) (by omega))) (fun z0 h0 => ?_)
 refine EvP.ite (fun _ => ?_) (fun _ => ?_)
 ·refine EvP.bind (Zq2 code 0 0 3 4 [] 12 0 (List.replicate (Int.toNat 12) (0, 0)) _ _ (by omega) (by omega) (by rw [List.length_replicate]; rfl) (h.to (by omega) (by omega))) (fun z hz => ?_)
  obtain ⟨a, s, l, rfl, k1, k2, k3⟩ := hz
  exact EvP.some ⟨by dsimp only; omega, by dsimp only; omega, by dsimp only; omega⟩
 ·refine EvP.bind (ZpS 12 (h.to (by omega) (by omega))) (fun z7 h7 => ?_)
  refine EvP.ite (fun _ => ?_) (fun _ => ?_)
  ·exact EvP.bind (ZDB (h.to (by omega) (by omega))) (fun z8 h8 => EvP.some ⟨by dsimp only; omega, by dsimp only; omega, h8.2.2⟩)
  ·refine EvP.bind (ZfM 4 (h.to (by omega) (by omega)) (by omega)) (fun z9 h9 => ?_)
   refine EvP.bind (ZfM 3 (h.to (by omega) (by omega)) (by omega)) (fun z10 h10 => ?_)
   have w1 : wrap64 (1 + z9.1) = 1 + z9.1 := w64 (by omega) (by omega)
   have w2 : wrap64 (1 + z10.1) = 1 + z10.1 := w64 (by omega) (by omega)
   have hp : 0 ≤ (1 + z9.1) * (1 + z10.1) ∧ (1 + z9.1) * (1 + z10.1) ≤ 12 := by
    constructor
    ·exact Int.mul_nonneg (by omega) (by omega)
    ·have h1 : (1 + z9.1) * (1 + z10.1) ≤ 4 * (1 + z10.1) := Int.mul_le_mul_of_nonneg_right (by omega) (by omega)
     omega
   rw [w1, w2]
   generalize hq : (1 + z9.1) * (1 + z10.1) = q at hp
   refine EvP.bind (ZEM (1 + z9.1) (1 + z10.1) q.toNat (by rw [hq, w64 (by omega) (by omega)]; omega) (by omega) (h.to (by omega) (by omega))) (fun z11 h11 => ?_)
   refine EvP.bind (Zqr code z11.1.2.2.length (by omega) 0 0 z11.1.1 z11.1.2.1 [] z11.1.2.2.length 0 z11.1.2.2 z11.2.1 z11.2.2 (by omega) rfl (h.to (by omega) (by omega))) (fun z hz => ?_)
   obtain ⟨a, s, l, rfl, k1, k2, k3⟩ := hz
   exact EvP.some ⟨by dsimp only; omega, by dsimp only; omega, by dsimp only; omega⟩
end
theorem Zs0 (code : List Int) (h : Cur code 0 6000) : EvP (fun k => Z5G k code) (fun r => r.1.2.2.length ≤ 91) := by
 refine EvP.succ ?_
 simp only [Z5G]
 refine EvP.bind (Zwh (h.to (by omega) (by omega))) (fun z0 h0 => ?_)
 refine EvP.bind (Q1 := fun y => y.2.2.1.length ≤ 91) ?_ (fun y hy => EvP.some hy)
 simp only [Z1l]
 exact EvP.bind (ZEq _ (h.to (by omega) (by omega))) (fun y hy => EvP.some h0.2.2)
theorem ZgF (code : List Int) (b10 b11 : Int) (o2 : List CellD) (b40 b41 : Int) (o5 : List CellD) (n : Int) : ∀ (d : Nat) (o6 : List Int) (at' seed : Int), n ≤ ((o6.length + d : Nat) : Int) → o6.length + d ≤ 21 → Cur code at' (2 * d) →
    EvP (fun k => Z1U k b10 b11 o2 code at' seed b40 b41 o5 o6 n) (fun z => ∃ a s l, z = (b10, b11, o2, code, a, s, b40, b41, o5, l, n) ∧ n ≤ (l.length : Int) ∧ l.length ≤ 21 ∧ at' ≤ a ∧ a ≤ at' + 2 * d)
  | 0, o6, at', seed, h, hl, hc => by
    refine EvP.succ ?_
    have hlt : ¬ (o6.length : Int) < n := by omega
    simp only [Z1U, hlt, decide_false, Bool.false_eq_true, if_false]
    exact EvP.some ⟨at', seed, o6, rfl, by omega, by omega, by omega, by omega⟩
  | d + 1, o6, at', seed, h, hl, hc => by
    refine EvP.succ ?_
    simp only [Z1U, decide_eq_true_eq]
    refine EvP.ite (fun hlt => ?_) (fun hlt => EvP.some ⟨at', seed, o6, rfl, by omega, by omega, by omega, by omega⟩)
    refine EvP.bind (ZFA _ _) (fun m hm => ?_)
    refine EvP.bind (ZfM m (hc.to (by omega) (by omega)) (by omega)) (fun y hy => ?_)
    refine EvP.guard (by simp only [List.length_cons, List.length_nil]; omega) ?_
    refine (ZgF code b10 b11 o2 b40 b41 o5 n d (o6 ++ [y.1]) y.2.1 y.2.2 (by simp; omega) (by simp; omega) (hc.to (by omega) (by omega))).mono (fun z hz => ?_)
    obtain ⟨a2, s2, l2, e, g1, g2, g3, g4⟩ := hz
    exact ⟨a2, s2, l2, e, g1, g2, by omega, by omega⟩
theorem ZCp (b : BoardD) (G K : List Int) : ∀ (t : List Int) (o : List CellD), (runsOf b G K t o).2.length = o.length
 | [], o => rfl
 | c :: t, o => by
  simp only [runsOf]
  rw [ZCp b G K t]
  exact Zlu b G K _ _ _ _ _
theorem Zv4 (code : List Int) (h : Cur code 0 6000) : EvP (fun k => Z6w k code) (fun r => r.1.2.2.length ≤ 91 ∧ r.2.length ≤ 21) := by
 refine EvP.succ ?_
 simp only [Z6w]
 refine EvP.bind (Zwh (h.to (by omega) (by omega))) (fun z0 h0 => ?_)
 obtain ⟨b, a0, s0⟩ := z0
 simp only at h0
 refine EvP.bind (ZfM 6 (h.to (by dsimp only; omega) (by dsimp only; omega)) (by omega)) (fun z1 h1 => ?_)
 dsimp only at h1
 refine EvP.bind (ZpS 20 (h.to (by omega) (by omega))) (fun z2 h2 => ?_)
 refine EvP.bind (Q1 := fun z => ∃ a s n : Int, z = (0, 0, [], code, a, s, b.1, b.2.1, b.2.2, [], n) ∧ n ≤ 21 ∧ 0 ≤ a ∧ a ≤ 2010) ?_ (fun z hz => ?_)
 ·simp only [Z7q]
  refine EvP.ite (fun _ => ?_) (fun _ => EvP.some ⟨z2.2.1, z2.2.2, z1.1, rfl, by omega, by omega, by omega⟩)
  refine EvP.bind (ZfM 2 (h.to (by omega) (by omega)) (by omega)) (fun z3 h3 => EvP.some ⟨z3.2.1, z3.2.2, wrap64 (20 + z3.1), rfl, ?_, by omega, by omega⟩)
  rw [w64 (by omega) (by omega)]
  omega
 obtain ⟨a4, s4, n, rfl, n1, n2, n3⟩ := hz
 dsimp only
 refine EvP.bind (ZgF code 0 0 [] b.1 b.2.1 b.2.2 n 21 [] a4 s4 (by simpa using n1) (by simp) (h.to (by omega) (by omega))) (fun z hz => ?_)
 obtain ⟨a5, s5, l, rfl, l1, l2, g1, g2⟩ := hz
 dsimp only
 have tail : ∀ (l : List Int) (a s : Int), l.length ≤ 21 → 0 ≤ a → a ≤ 3000 → EvP (fun k => Option.bind (Z4o k (b.1, b.2.1, b.2.2) l) fun z10 => if z10 = true then Option.bind (Zc k (code, a, s) 2) fun z11 => if z11.1 = true then Option.bind (Z8u k (b.1, b.2.1, b.2.2) l) fun z12 => some ((z12.2.1, z12.2.2.1, z12.2.2.2), l) else some ((b.1, b.2.1, b.2.2), l) else some ((b.1, b.2.1, b.2.2), l)) (fun r => r.1.2.2.length ≤ 91 ∧ r.2.length ≤ 21) := by
  intro l a s hl k1 k2
  refine EvP.bind (EvP.ev (Q := fun v => v = entriesOK b l) (ZxQ b l (by omega) (by omega)) rfl) (fun v hv => ?_)
  subst hv
  cases hok : entriesOK b l with
  | false => simp only [Bool.false_eq_true, if_false]; exact EvP.some ⟨h0.2.2, hl⟩
  | true =>
   obtain ⟨hb, ht, hc⟩ := Zyk hok
   simp only [if_true]
   refine EvP.bind (ZpS 2 (h.to (by omega) (by omega))) (fun z11 h11 => ?_)
   refine EvP.ite (fun _ => ?_) (fun _ => EvP.some ⟨h0.2.2, hl⟩)
   refine EvP.bind (EvP.ev (Q := fun v => v.2.2.2.length ≤ 91) (ZBZ b hb l (by omega) hc) ?_) (fun v hv => EvP.some ⟨hv, hl⟩)
   dsimp only
   rw [ZCp]
   exact h0.2.2
 refine EvP.ite (fun hn => ?_) (fun _ => tail l a5 s5 l2 (by omega) (by omega))
 simp only [decide_eq_true_eq] at hn
 refine EvP.bind (ZpS 24 (h.to (by omega) (by omega))) (fun z8 h8 => ?_)
 refine EvP.ite (fun _ => ?_) (fun _ => tail l _ _ l2 (by omega) (by omega))
 refine EvP.bind (ZDN _ (by simp) (h.to (by omega) (by omega))) (fun z9 h9 => ?_)
 refine EvP.guard (by omega) ?_
 exact tail _ _ _ (by rw [List.length_set]; exact l2) (by omega) (by omega)
end Go.Proofs.Ytglkedenkcpcbaa.Vs

set_option linter.unusedVariables false
set_option linter.unusedSimpArgs false
namespace Go.Proofs.Ytglkedenkcpcbaa.Vs
open Go.RowKit
def partAt (L : List CellD) (m : Int) : Int := (List.getD L m.toNat (0, 0)).1
def grpAt (G : List Int) (m : Int) : Nat := (List.getD G m.toNat 0).toNat
def sameU (L : List CellD) (G : List Int) (i m : Int) : Prop := i = m ∨ (partAt L i = 6 ∧ partAt L m = 6 ∧ grpAt G i = grpAt G m)
structure UnitsAre (L : List CellD) (G : List Int) (p : Nat) (N : List Int) (o : List (List Int)) : Prop where
 cover : ∀ m : Nat, m < p → turning (List.getD L m (0, 0)) = true → ∃ u ∈ o, (m : Int) ∈ u
 same : ∀ u ∈ o, ∀ i ∈ u, ∀ m ∈ u, sameU L G i m
 gear : ∀ m : Nat, m < p → partAt L m = 6 → 0 ≤ List.getD N (grpAt G m) 0 ∧ (m : Int) ∈ List.getD o (List.getD N (grpAt G m) 0).toNat []
 nums : ∀ g : Nat, g < N.length → 0 ≤ List.getD N g 0 → (List.getD N g 0).toNat < o.length ∧ List.getD o (List.getD N g 0).toNat [] ≠ [] ∧ ∀ i ∈ List.getD o (List.getD N g 0).toNat [], partAt L i = 6 ∧ grpAt G i = g
theorem ZbM {o : List (List Int)} {x : List Int} {k : Nat} (h : k < o.length) : List.getD (o ++ [x]) k [] = List.getD o k [] := by
 simp [List.getD, List.getElem?_append_left h]
theorem ZvZ {o : List (List Int)} {x : List Int} : List.getD (o ++ [x]) o.length [] = x := by simp [List.getD]
theorem ZAz {o : List (List Int)} {k : Nat} (h : k < o.length) : List.getD o k [] ∈ o := by
 rw [List.getD, List.getElem?_eq_getElem h]
 exact List.getElem_mem h
theorem UnitsAre.skip {L : List CellD} {G : List Int} {p : Nat} {N : List Int} {o : List (List Int)} (h : UnitsAre L G p N o) (ht : turning (List.getD L p (0, 0)) = false) : UnitsAre L G (p + 1) N o := by
 have h6 : partAt L p ≠ 6 := by
  intro h6
  unfold partAt at h6
  rw [Int.toNat_natCast] at h6
  unfold turning at ht
  rw [h6] at ht
  simp at ht
 refine ⟨fun m hm hmt => ?_, h.same, fun m hm h6m => ?_, h.nums⟩
 ·rcases Nat.lt_or_eq_of_le (Nat.le_of_lt_succ hm) with h1 | h1
  ·exact h.cover m h1 hmt
  ·rw [h1, ht] at hmt; cases hmt
 ·rcases Nat.lt_or_eq_of_le (Nat.le_of_lt_succ hm) with h1 | h1
  ·exact h.gear m h1 h6m
  ·rw [h1] at h6m; exact (h6 h6m).elim
theorem UnitsAre.lone {L : List CellD} {G : List Int} {p : Nat} {N : List Int} {o : List (List Int)} (h : UnitsAre L G p N o) (hN : ∀ m : Nat, m < p → partAt L m = 6 → grpAt G m < N.length) (h3 : partAt L p = 3) : UnitsAre L G (p + 1) N (o ++ [[(p : Int)]]) := by
 refine ⟨fun m hm hmt => ?_, fun u hu i hi m hm => ?_, fun m hm h6m => ?_, fun g hg h0 => ?_⟩
 ·rcases Nat.lt_or_eq_of_le (Nat.le_of_lt_succ hm) with h1 | h1
  ·obtain ⟨u, hu, hmu⟩ := h.cover m h1 hmt
   exact ⟨u, List.mem_append_left _ hu, hmu⟩
  ·exact ⟨[(p : Int)], by simp, by rw [h1]; simp⟩
 ·rcases List.mem_append.1 hu with hu | hu
  ·exact h.same u hu i hi m hm
  ·rw [List.mem_singleton.1 hu] at hi hm
   exact .inl ((List.mem_singleton.1 hi).trans (List.mem_singleton.1 hm).symm)
 ·rcases Nat.lt_or_eq_of_le (Nat.le_of_lt_succ hm) with h1 | h1
  ·obtain ⟨a, c⟩ := h.gear m h1 h6m
   obtain ⟨d, _, _⟩ := h.nums _ (hN m h1 h6m) a
   exact ⟨a, by rw [ZbM d]; exact c⟩
  ·rw [h1, h3] at h6m; cases h6m
 ·obtain ⟨a, c, d⟩ := h.nums g hg h0
  exact ⟨by rw [List.length_append, List.length_singleton]; omega, by rw [ZbM a]; exact c, by rw [ZbM a]; exact d⟩
theorem UnitsAre.fresh {L : List CellD} {G : List Int} {p : Nat} {N : List Int} {o : List (List Int)} (h : UnitsAre L G p N o) (hN : ∀ m : Nat, m < p + 1 → partAt L m = 6 → grpAt G m < N.length) (h6 : partAt L p = 6) (hneg : List.getD N (grpAt G p) 0 < 0) : UnitsAre L G (p + 1) (List.set N (grpAt G p) (o.length : Int)) (o ++ [[(p : Int)]]) := by
 have hgp := hN p (by omega) h6
 have setD : ∀ g : Nat, List.getD (List.set N (grpAt G p) (o.length : Int)) g 0 = if g = grpAt G p then (o.length : Int) else List.getD N g 0 := by
  intro g
  simp only [List.getD, List.getElem?_set]
  by_cases hg : g = grpAt G p
  ·subst hg; simp [hgp]
  ·have : ¬ grpAt G p = g := fun h => hg h.symm
   simp [hg, this]
 refine ⟨fun m hm hmt => ?_, fun u hu i hi m hm => ?_, fun m hm h6m => ?_, fun g hg h0 => ?_⟩
 ·rcases Nat.lt_or_eq_of_le (Nat.le_of_lt_succ hm) with h1 | h1
  ·obtain ⟨u, hu, hmu⟩ := h.cover m h1 hmt
   exact ⟨u, List.mem_append_left _ hu, hmu⟩
  ·exact ⟨[(p : Int)], by simp, by rw [h1]; simp⟩
 ·rcases List.mem_append.1 hu with hu | hu
  ·exact h.same u hu i hi m hm
  ·rw [List.mem_singleton.1 hu] at hi hm
   exact .inl ((List.mem_singleton.1 hi).trans (List.mem_singleton.1 hm).symm)
 ·rw [setD]
  rcases Nat.lt_or_eq_of_le (Nat.le_of_lt_succ hm) with h1 | h1
  ·obtain ⟨a, c⟩ := h.gear m h1 h6m
   have hne : ¬ grpAt G m = grpAt G p := fun he => by rw [he] at a; omega
   rw [if_neg hne]
   obtain ⟨d, _, _⟩ := h.nums _ (hN m (by omega) h6m) a
   exact ⟨a, by rw [ZbM d]; exact c⟩
  ·subst h1
   rw [if_pos rfl, Int.toNat_natCast, ZvZ]
   exact ⟨by omega, by simp⟩
 ·rw [setD] at h0 ⊢
  rw [List.length_set] at hg
  by_cases he : g = grpAt G p
  ·rw [if_pos he, Int.toNat_natCast, ZvZ]
   refine ⟨by simp, by simp, fun i hi => ?_⟩
   rw [List.mem_singleton.1 hi]
   exact ⟨h6, he.symm⟩
  ·rw [if_neg he] at h0 ⊢
   obtain ⟨a, c, d⟩ := h.nums g hg h0
   exact ⟨by rw [List.length_append, List.length_singleton]; omega, by rw [ZbM a]; exact c, by rw [ZbM a]; exact d⟩
theorem ZdY {o : List (List Int)} {k j : Nat} {x : List Int} (hk : k < o.length) : List.getD (List.set o k x) j [] = if j = k then x else List.getD o j [] := by
 simp only [List.getD, List.getElem?_set]
 by_cases h : j = k
 ·subst h; simp [hk]
 ·have : ¬ k = j := fun h2 => h h2.symm
  simp [h, this]
theorem UnitsAre.join {L : List CellD} {G : List Int} {p : Nat} {N : List Int} {o : List (List Int)} (h : UnitsAre L G p N o) (hN : ∀ m : Nat, m < p + 1 → partAt L m = 6 → grpAt G m < N.length) (h6 : partAt L p = 6) (hpos : 0 ≤ List.getD N (grpAt G p) 0) :
    UnitsAre L G (p + 1) N (List.set o (List.getD N (grpAt G p) 0).toNat (List.getD o (List.getD N (grpAt G p) 0).toNat [] ++ [(p : Int)])) := by
  obtain ⟨hk, hne, hmem⟩ := h.nums _ (hN p (by omega) h6) hpos
  generalize hK : (List.getD N (grpAt G p) 0).toNat = k at *
  have grow : ∀ (j : Nat) (i : Int), i ∈ List.getD o j [] → i ∈ List.getD (List.set o k (List.getD o k [] ++ [(p : Int)])) j [] := by
    intro j i hi
    rw [ZdY hk]
    split
    · rename_i he
      rw [he] at hi
      exact List.mem_append_left _ hi
    · exact hi
  refine ⟨fun m hm hmt => ?_, fun u hu i hi m hm => ?_, fun m hm h6m => ?_, fun g hg h0 => ?_⟩
  · have hself : (p : Int) ∈ List.getD (List.set o k (List.getD o k [] ++ [(p : Int)])) k [] := by rw [ZdY hk, if_pos rfl]; simp
    rcases Nat.lt_or_eq_of_le (Nat.le_of_lt_succ hm) with h1 | h1
    · obtain ⟨u, hu, hmu⟩ := h.cover m h1 hmt
      obtain ⟨j, hj⟩ := List.getElem?_of_mem hu
      have hjl := (List.getElem?_eq_some_iff.1 hj).1
      have e : List.getD o j [] = u := by rw [List.getD, hj]; rfl
      exact ⟨_, ZAz (k := j) (by rw [List.length_set]; exact hjl), grow j _ (by rw [e]; exact hmu)⟩
    · rw [h1]
      exact ⟨_, ZAz (k := k) (by rw [List.length_set]; exact hk), hself⟩
  · rcases List.mem_or_eq_of_mem_set hu with hu | rfl
    · exact h.same u hu i hi m hm
    · have g6 : ∀ i ∈ List.getD o k [] ++ [(p : Int)], partAt L i = 6 ∧ grpAt G i = grpAt G p := by
        intro i hi
        rcases List.mem_append.1 hi with hi | hi
        · exact hmem i hi
        · rw [List.mem_singleton.1 hi]; exact ⟨h6, rfl⟩
      exact .inr ⟨(g6 i hi).1, (g6 m hm).1, (g6 i hi).2.trans (g6 m hm).2.symm⟩
  · rcases Nat.lt_or_eq_of_le (Nat.le_of_lt_succ hm) with h1 | h1
    · obtain ⟨a, c⟩ := h.gear m h1 h6m
      exact ⟨a, grow _ _ c⟩
    · subst h1
      refine ⟨hpos, ?_⟩
      rw [hK, ZdY hk, if_pos rfl]
      simp
  · obtain ⟨a, c, d⟩ := h.nums g hg h0
    rw [List.length_set]
    refine ⟨a, ?_, fun i hi => ?_⟩
    · rw [ZdY hk]
      split
      · simp
      · exact c
    · rw [ZdY hk] at hi
      split at hi
      · rename_i he
        rcases List.mem_append.1 hi with hi | hi
        · exact d i (by rw [he]; exact hi)
        · rw [List.mem_singleton.1 hi]
          obtain ⟨y, hy⟩ := List.exists_mem_of_ne_nil _ hne
          have e1 := (hmem y hy).2
          have e2 := (d y (by rw [he]; exact hy)).2
          exact ⟨h6, e1.symm.trans e2⟩
      · exact d i hi
theorem Zwg (b : BoardD) : ∀ (r pre : List CellD) (N : List Int) (o : List (List Int)), pre ++ r = b.2.2 → N.length = b.2.2.length → UnitsAre b.2.2 (groupsOf b) pre.length N o →
    ∃ N', UnitsAre b.2.2 (groupsOf b) b.2.2.length N' (unitsGo (groupsOf b) pre.length r N o) ∧ N'.length = b.2.2.length
  | [], pre, N, o, hp, hN, h => by
    rw [List.append_nil] at hp
    subst hp
    exact ⟨N, h, hN⟩
  | x :: r, pre, N, o, hp, hN, h => by
    have hlt : pre.length < b.2.2.length := by rw [← hp]; simp
    have hx : List.getD b.2.2 pre.length (0, 0) = x := by rw [← hp]; exact Z7 _ _ _ _
    have hpx : partAt b.2.2 (pre.length : Int) = x.1 := by unfold partAt; rw [Int.toNat_natCast, hx]
    have hcast : ((pre ++ [x]).length : Int) = (pre.length : Int) + 1 := by simp
    have hcastN : (pre ++ [x]).length = pre.length + 1 := by simp
    have hp' : (pre ++ [x]) ++ r = b.2.2 := by rw [← hp]; simp
    have ih := fun N o h1 h2 => Zwg b r (pre ++ [x]) N o hp' h1 h2
    rw [hcast, hcastN] at ih
    have hG : ∀ m : Nat, m < pre.length + 1 → partAt b.2.2 m = 6 → grpAt (groupsOf b) m < N.length := by
      intro m hm h6
      have hml : m < b.2.2.length := by omega
      have hg : geared (List.getD b.2.2 m (0, 0)) = true := by
        unfold partAt at h6
        rw [Int.toNat_natCast] at h6
        unfold geared
        rw [h6]
        rfl
      have h1 := Z8V b hml hg
      have h2 := Zcs b _ (ZcL (l := groupsOf b) (i := m) (by rw [Z1W]; exact hml) 0)
      unfold grpAt
      rw [Int.toNat_natCast, hN]
      omega
    have hgrp : (List.getD (groupsOf b) pre.length 0).toNat = grpAt (groupsOf b) (pre.length : Int) := by unfold grpAt; rw [Int.toNat_natCast]
    simp only [unitsGo, Int.toNat_natCast, hgrp]
    split
    · rename_i h3
      exact ih _ _ hN (h.lone (fun m hm => hG m (by omega)) (hpx.trans h3))
    · rename_i h3
      split
      · rename_i h6
        split
        · rename_i hneg
          exact ih _ _ (by simpa using hN) (h.fresh hG (hpx.trans h6) hneg)
        · rename_i hneg
          exact ih _ _ hN (h.join hG (hpx.trans h6) (by omega))
      · rename_i h6
        exact ih _ _ hN (h.skip (by rw [hx]; simp [turning, h3, h6]))
theorem ZEL (b : BoardD) : ∃ N, UnitsAre b.2.2 (groupsOf b) b.2.2.length N (unitsP b) ∧ N.length = b.2.2.length := by
 refine Zwg b b.2.2 [] (List.replicate b.2.2.length (-1)) [] rfl (by simp) ⟨fun m hm => by simp at hm, fun u hu => by simp at hu, fun m hm => by simp at hm, fun g hg h0 => ?_⟩
 exfalso
 simp at hg
 simp [List.getD, hg] at h0
theorem ZBS (b : BoardD) {a : Nat} (ha : a < b.2.2.length) (ht : turning (List.getD b.2.2 a (0, 0)) = true) : ∃ u ∈ unitsP b, (a : Int) ∈ u ∧ ∀ i : Nat, i < b.2.2.length → ((i : Int) ∈ u ↔ sameU b.2.2 (groupsOf b) i a) := by
 obtain ⟨N, h, hNl⟩ := ZEL b
 obtain ⟨u, hu, hau⟩ := h.cover a ha ht
 refine ⟨u, hu, hau, fun i hi => ⟨fun hiu => h.same u hu _ hiu _ hau, fun hs => ?_⟩⟩
 rcases hs with he | ⟨h1, h2, h3⟩
 ·rw [he]; exact hau
 ·obtain ⟨a1, a2⟩ := h.gear i hi h1
  obtain ⟨c1, c2⟩ := h.gear a ha h2
  rw [h3] at a1 a2
  obtain ⟨f, hf⟩ := (Zbi b).1.no
  obtain ⟨k, hk⟩ := List.getElem?_of_mem hu
  have e1 := hf k u hk _ hau
  have hgl : grpAt (groupsOf b) (a : Int) < N.length := by
   have hg : geared (List.getD b.2.2 a (0, 0)) = true := by
    unfold partAt at h2
    rw [Int.toNat_natCast] at h2
    unfold geared
    rw [h2]
    rfl
   have h1 := Z8V b ha hg
   have h2 := Zcs b _ (ZcL (l := groupsOf b) (i := a) (by rw [Z1W]; exact ha) 0)
   unfold grpAt
   rw [Int.toNat_natCast, hNl]
   omega
  obtain ⟨d1, _, _⟩ := h.nums _ hgl c1
  have hgetK : ∀ K : Nat, K < (unitsP b).length → (unitsP b)[K]? = some (List.getD (unitsP b) K []) := by
   intro K hK
   rw [List.getD, List.getElem?_eq_getElem hK]; rfl
  have hget := hgetK _ d1
  have e2 := hf _ _ hget _ c2
  have : k = (List.getD N (grpAt (groupsOf b) (a : Int)) 0).toNat := e1.symm.trans e2
  rw [this] at hk
  have : u = List.getD (unitsP b) (List.getD N (grpAt (groupsOf b) (a : Int)) 0).toNat [] := by
   rw [hget] at hk
   exact (Option.some.inj hk).symm
  rw [this]
  exact a2
end Go.Proofs.Ytglkedenkcpcbaa.Vs

set_option linter.unusedVariables false
set_option linter.unusedSimpArgs false
namespace Go.Proofs.Ytglkedenkcpcbaa.Vs
open Go.RowKit
theorem ZF6 {o : List CellD} {i : Nat} (h : i < o.length) : o[i]? = some (cellAt o (i : Int)) := by
 simp [cellAt, List.getD, List.getElem?_eq_getElem h]
theorem ZAm {o L : List CellD} (h : o.map Prod.fst = L.map Prod.fst) (m : Int) : (cellAt o m).1 = partAt L m := ZlQ h _
theorem ZDj (b : BoardD) {o : List CellD} (hp : o.map Prod.fst = b.2.2.map Prod.fst) {a : Nat} (ha : a < b.2.2.length) (ht : turning (List.getD o a (0, 0)) = true) :
    ∃ u ∈ unitsP b, stepAt (groupsOf b) (kindsB b []) a o = turnU u o := by
  have hlen := ZaP hp
  have hpa : (List.getD o a (0, 0)).1 = partAt b.2.2 (a : Int) := by
    have := ZAm hp (a : Int)
    unfold cellAt at this
    rw [Int.toNat_natCast] at this
    exact this
  have htL : turning (List.getD b.2.2 a (0, 0)) = true := by
    unfold turning at ht ⊢
    rw [hpa] at ht
    unfold partAt at ht
    rw [Int.toNat_natCast] at ht
    exact ht
  obtain ⟨u, hu, hau, hall⟩ := ZBS b ha htL
  have U := (Zbi b).1.units
  refine ⟨u, hu, Zsc (by rw [Zd5, Z6M]) (fun m h0 h1 => ?_)⟩
  rw [Zd5] at h1
  obtain ⟨i, rfl⟩ : ∃ i : Nat, m = (i : Int) := ⟨m.toNat, by omega⟩
  have hi : i < o.length := by omega
  rw [Z4X u o i (fun j hj => by have := U.on u hu j hj; omega) (U.once u hu) h0]
  have e : cellAt (stepAt (groupsOf b) (kindsB b []) a o) (i : Int) = if (i = a ∨ ((List.getD o a (0, 0)).1 = 6 ∧ (cellAt o (i : Int)).1 = 6 ∧ List.getD (groupsOf b) i 0 = List.getD (groupsOf b) a 0)) then flipC (cellAt o (i : Int)) else cellAt o (i : Int) := by
    unfold stepAt
    rw [if_pos ht]
    unfold turnAt
    have := ZcK (groupsOf b) (kindsB b []) a (List.getD o a (0, 0)).1 o 0 i
    rw [ZF6 hi, Option.map_some, Nat.zero_add] at this
    have hk := ZiY b i
    have k01 : ¬ (0 : Int) = 1 := by decide
    simp only [hk, k01, not_false_eq_true, and_true, ne_eq] at this
    unfold cellAt at this ⊢
    simp only [List.getD, Int.toNat_natCast] at this ⊢
    rw [this]
    rfl
  rw [e]
  have hiff : (i = a ∨ ((List.getD o a (0, 0)).1 = 6 ∧ (cellAt o (i : Int)).1 = 6 ∧ List.getD (groupsOf b) i 0 = List.getD (groupsOf b) a 0)) ↔ (i : Int) ∈ u := by
    rw [hall i (by omega)]
    rw [ZAm hp, hpa]
    unfold sameU
    have nn : ∀ j : Nat, j < b.2.2.length → partAt b.2.2 (j : Int) = 6 → 0 ≤ List.getD (groupsOf b) j 0 := by
      intro j hj h6
      refine Z8V b hj ?_
      unfold partAt at h6
      rw [Int.toNat_natCast] at h6
      unfold geared
      rw [h6]
      rfl
    unfold grpAt
    simp only [Int.toNat_natCast]
    constructor
    · rintro (h | ⟨h2, h3, h4⟩)
      · left; omega
      · right; exact ⟨h3, h2, by rw [h4]⟩
    · rintro (h | ⟨h2, h3, h4⟩)
      · left; omega
      · right
        have := nn i (by omega) h2
        have := nn a ha h3
        exact ⟨h3, h2, by omega⟩
  by_cases hm : (i : Int) ∈ u
  · rw [if_pos hm, if_pos (hiff.2 hm)]
  · rw [if_neg hm, if_neg (fun h => hm (hiff.1 h))]
structure InSt (b : BoardD) (o : List CellD) : Prop where
 parts : o.map Prod.fst = b.2.2.map Prod.fst
 cells : ∀ x ∈ o, cellOK x = true
 whole : setGo (unitsP b) (bitsP o (unitsP b)) b.2.2 = o
theorem Zy5 {b : BoardD} {u v : List Int} (hu : u ∈ unitsP b) (hv : v ∈ unitsP b) {m : Int} (h1 : m ∈ u) (h2 : m ∈ v) : u = v := by
 obtain ⟨f, hf⟩ := (Zbi b).1.no
 obtain ⟨k, hk⟩ := List.getElem?_of_mem hu
 obtain ⟨j, hj⟩ := List.getElem?_of_mem hv
 have e1 := hf k u hk m h1
 have e2 := hf j v hj m h2
 have : k = j := by omega
 rw [this, hj] at hk
 exact (Option.some.inj hk).symm
theorem InSt.step {b : BoardD} (hb : boardOK b = true) {o : List CellD} (h : InSt b o) (a : Nat) : InSt b (stepAt (groupsOf b) (kindsB b []) a o) := by
 have hlen := ZaP h.parts
 by_cases ht : turning (List.getD o a (0, 0)) = true
 ·have ha : a < b.2.2.length := by
   rcases Nat.lt_or_ge a o.length with h1 | h1
   ·omega
   ·exfalso
    have : List.getD o a (0, 0) = (0, 0) := by simp [List.getD, List.getElem?_eq_none h1]
    rw [this] at ht
    simp [turning] at ht
  refine ⟨(ZtL _ _ _ _).trans h.parts, Zlq _ _ h.cells, ?_⟩
  obtain ⟨u, hu, he⟩ := ZDj b h.parts ha ht
  rw [he]
  have U := (Zbi b).1.units
  have Uo : ∀ w ∈ unitsP b, ∀ j ∈ w, 0 ≤ j ∧ j < (o.length : Int) := fun w hw j hj => by have := U.on w hw j hj; omega
  refine Zsc (by rw [ZaV, Z6M]; omega) (fun m h0 h1 => ?_)
  rw [ZaV] at h1
  rw [Z4X u o m (fun j hj => Uo u hu j hj) (U.once u hu) h0]
  have ho : ∀ m : Int, cellAt o m = cellAt (setGo (unitsP b) (bitsP o (unitsP b)) b.2.2) m := fun m => by rw [h.whole]
  rcases ZDL (unitsP b) m with hm | ⟨k, v, hv, hm⟩
  ·rw [Z9k _ _ _ _ U h0 hm, if_neg (hm u hu), ho, Z9k _ _ _ _ U h0 hm]
  ·have hvm := List.mem_of_getElem? hv
   have bit : ∀ o' : List CellD, (bitsP o' (unitsP b))[k]? = some (bitOf o' v) := fun o' => by unfold bitsP; rw [List.getElem?_map, hv]; rfl
   rw [ZcA _ _ _ _ k v _ U hv (bit _) hm, ho m, ZcA _ _ _ _ k v _ U hv (bit _) hm]
   have hin := ZeD (U.some v hvm)
   have hon := Uo v hvm _ hin
   have hbo : isBit (bitOf o v) := ZgR (h.cells _ (Z8c hon.1 hon.2 (0, 0)))
   have hon2 := U.on v hvm _ hin
   have hbL : isBit (bitOf b.2.2 v) := ZgR ((Zn hb).2.2.2.2.2 _ (Z8c hon2.1 hon2.2 (0, 0)))
   by_cases hmu : m ∈ u
   ·have huv : v = u := Zy5 hvm hu hm hmu
    subst huv
    rw [if_pos hmu]
    have hbt : bitOf (turnU v o) v = 1 - bitOf o v := by
     unfold bitOf
     rw [Z4X v o _ (fun j hj => Uo v hvm j hj) (U.once v hvm) hon.1, if_pos hin]
     rfl
    rw [hbt]
    generalize bitOf o v = x at hbo ⊢
    generalize bitOf b.2.2 v = y at hbL ⊢
    rcases hbo with rfl | rfl <;> rcases hbL with rfl | rfl <;> simp [ZAs]
   ·rw [if_neg hmu]
    have hnot : List.getD v 0 0 ∉ u := fun hh => hmu (by rw [← Zy5 hvm hu hin hh]; exact hm)
    have hbt : bitOf (turnU u o) v = bitOf o v := by
     unfold bitOf
     rw [Z4X u o _ (fun j hj => Uo u hu j hj) (U.once u hu) hon.1, if_neg hnot]
    rw [hbt]
 ·have : stepAt (groupsOf b) (kindsB b []) a o = o := by unfold stepAt; rw [if_neg ht]
  rw [this]
  exact h
theorem InSt.fallL {b : BoardD} (hb : boardOK b = true) : ∀ (n : Nat) (row col side : Int) (o : List CellD), InSt b o → InSt b (fallEnd b (Vs.fallL b (groupsOf b) (kindsB b []) n row col side o)).2
 | 0, _, _, _, o, h => h
 | n + 1, row, col, side, o, h => by
  unfold Vs.fallL
  dsimp only
  repeat' split
  all_goals first | exact h | exact InSt.fallL hb n _ _ _ _ (h.step hb _) | exact h.step hb _
theorem InSt.fall {b : BoardD} (hb : boardOK b = true) {o : List CellD} (h : InSt b o) (c : Int) : InSt b (fallOf b (groupsOf b) (kindsB b []) c o).2 := InSt.fallL hb _ _ _ _ _ h
theorem InSt.state (b : BoardD) (hb : boardOK b = true) (n : Int) : InSt b (stateN b n) := by
 have h := ZaG b hb n
 refine ⟨h.2, h.1, ?_⟩
 unfold stateN
 rw [Zz5 (Zbi b).1.units (Z3S _ _) (ZhC _ _) (fun c hc => ZgR ((Zn hb).2.2.2.2.2 c hc))]
theorem InSt.bits {b : BoardD} {o : List CellD} (h : InSt b o) : ∀ x ∈ bitsP o (unitsP b), isBit x := by
 intro x hx
 obtain ⟨u, hu, rfl⟩ := List.mem_map.1 hx
 have U := (Zbi b).1.units
 have hon := U.on u hu _ (ZeD (U.some u hu))
 have hlen := ZaP h.parts
 exact ZgR (h.cells _ (Z8c hon.1 (by omega) (0, 0)))
theorem InSt.number {b : BoardD} {o : List CellD} (h : InSt b o) : stateN b (numP (bitsP o (unitsP b))) = o := by
 unfold stateN
 have := ZpA (bitsP o (unitsP b)) h.bits
 rw [show (bitsP o (unitsP b)).length = (unitsP b).length by simp [bitsP]] at this
 rw [this]
 exact h.whole
theorem InSt.inj {b : BoardD} {o o' : List CellD} (h : InSt b o) (h' : InSt b o') (he : numP (bitsP o (unitsP b)) = numP (bitsP o' (unitsP b))) : o = o' := by
 rw [← h.number, ← h'.number, he]
theorem Zw5 (b : BoardD) (hb : boardOK b = true) (c n : Int) : afterN b c n = stateN b (nextN b c n) := ((InSt.state b hb n).fall hb c).number.symm
end Go.Proofs.Ytglkedenkcpcbaa.Vs

set_option linter.unusedVariables false
set_option linter.unusedSimpArgs false
namespace Go.Proofs.Ytglkedenkcpcbaa.Vs
open Go.RowKit
def befs (to : Int) : List Int → Int → List Int
 | [], _ => []
 | x :: r, m => (if x = to then [m] else []) ++ befs to r (m + 1)
theorem ZnK (to : Int) : ∀ (l : List Int) (m : Int), ∀ n ∈ befs to l m, m ≤ n ∧ n < m + (l.length : Int)
 | [], m, n, h => by cases h
 | x :: r, m, n, h => by
  simp only [befs, List.mem_append] at h
  simp only [List.length_cons]
  rcases h with h | h
  ·split at h
   ·rw [List.mem_singleton.1 h]; omega
   ·cases h
  ·have := ZnK to r (m + 1) n h; omega
theorem ZpK (to : Int) : ∀ (l : List Int) (m : Int), (befs to l m).length ≤ l.length
 | [], m => Nat.le_refl _
 | x :: r, m => by
  have := ZpK to r (m + 1)
  simp only [befs, List.length_append, List.length_cons]
  split <;> simp <;> omega
theorem ZiK (to : Int) : ∀ (r pre w : List Int), w.length ≤ pre.length → (pre ++ r).length ≤ 1000000 → Ev (fun k => Z3Q k w to (pre ++ r) ((pre ++ r).length : Int) (pre.length : Int)) (w ++ befs to r pre.length)
 | [], pre, w, hw, hl => by
  refine Ev.succ ?_
  simp only [Z3Q, Zm, decide_false, Bool.false_eq_true, if_false]
  exact (Ev.some _).congr (by simp [befs])
 | x :: r, pre, w, hw, hl => by
  have hwl : w.length + 1 ≤ 140737488355328 / 8 := by simp at hl; omega
  have hcast : ((pre ++ [x]).length : Int) = (pre.length : Int) + 1 := by simp
  have ih := fun w' hw' => ZiK to r (pre ++ [x]) w' hw' (by simpa using hl)
  rw [← Z4, hcast] at ih
  refine Ev.succ ?_
  simp only [Z3Q, Zg, Zp, decide_true, if_true, Int.toNat_natCast, Z7, List.length_singleton, hwl, decide_eq_true_eq]
  rw [Zb pre x r (by omega), hcast]
  by_cases hx : x = to
  ·simp only [if_pos hx, if_true]
   refine (ih (w ++ [(pre.length : Int)]) (by simp; omega)).congr ?_
   simp [befs, hx]
  ·simp only [if_neg hx]
   refine (ih w (by simp; omega)).congr ?_
   simp [befs, hx]
theorem Zci (next : List Int) (to : Int) (hl : next.length ≤ 1000000) : Ev (fun k => Z57 k next to) (befs to next 0) := by
 refine Ev.succ ?_
 simp only [Z57]
 exact Ev.bind (ZiK to next [] [] (Nat.le_refl _) (by simpa using hl)) (Ev.some _)
def inState (b : BoardD) (n : Int) : BoardD := (b.1, b.2.1, stateN b n)
theorem ZD1 {n u : Nat} (h : n < 2 ^ u) : (n : Int) < 2 ^ u := by rw [← Z7s]; exact Int.ofNat_lt.2 h
theorem Zf5 (b : BoardD) (hb : boardOK b = true) (hu : (unitsP b).length ≤ 10) (to : Int) : ∀ (r pre : List Int) (w : List BoardD), w.length ≤ pre.length → (pre ++ r).length = 2 ^ (unitsP b).length → Ev (fun k => Z1V k b.1 b.2.1 b.2.2 w [pre ++ r] to 0 ((pre ++ r).length : Int) (pre.length : Int)) (w ++ (befs to r pre.length).map (inState b))
 | [], pre, w, hw, hl => by
  refine Ev.succ ?_
  simp only [Z1V, Zm, decide_false, Bool.false_eq_true, if_false]
  exact (Ev.some _).congr (by simp [befs])
 | x :: r, pre, w, hw, hl => by
  have hp := Z7F hu
  have hpl : pre.length < 2 ^ (unitsP b).length := by rw [← hl]; simp
  have hl2 : (pre ++ x :: r).length ≤ 1000 * 1000 := by omega
  have hwl : w.length + 1 ≤ 140737488355328 / 40 := by omega
  have hcast : ((pre ++ [x]).length : Int) = (pre.length : Int) + 1 := by simp
  have hg : List.getD [pre ++ x :: r] (Int.toNat 0) [] = pre ++ x :: r := rfl
  have hlt := ZD1 hpl
  have ih := fun w' hw' => Zf5 b hb hu to r (pre ++ [x]) w' hw' (by simpa using hl)
  rw [← Z4, hcast] at ih
  refine Ev.succ ?_
  simp only [Z1V, hg, Zg, Zp, decide_true, if_true, Int.toNat_natCast, Z7, decide_eq_true_eq]
  rw [Zb pre x r (by omega), hcast]
  by_cases hx : x = to
  ·simp only [if_pos hx]
   refine Ev.bind (ZgH b hb (by omega) (pre.length : Int) (Int.natCast_nonneg _) hlt) ?_
   simp only [List.length_singleton, hwl, if_true]
   refine (ih (w ++ [inState b pre.length]) (by simp; omega)).congr ?_
   simp [befs, hx]
  ·simp only [if_neg hx]
   refine (ih w (by simp; omega)).congr ?_
   simp [befs, hx]
def beforeN (b : BoardD) (c : Int) : List Int := befs (numB b) (nextL b c) 0
theorem ZAy (b : BoardD) (c : Int) : ∀ n ∈ beforeN b c, 0 ≤ n ∧ n < 2 ^ (unitsP b).length := by
 intro n hn
 have := ZnK (numB b) (nextL b c) 0 n hn
 rw [ZaT, Z7s] at this
 omega
def Z3B (b : BoardD) (c : Int) : List BoardD × Bool := if backOK b c then ((beforeN b c).map (inState b), true) else ([], false)
theorem Zgt (b : BoardD) (c : Int) (h0 : b.2.2.length ≤ 9223372036854775806) : Ev (fun k => Z5O k b c) (Z3B b c) := by
 refine Ev.succ ?_
 simp only [Z5O]
 unfold Z3B
 refine Ev.bind (Zg1 b c h0) ?_
 cases g0 : backOK b c with
 | false => simp only [Bool.not_false, if_true, Bool.false_eq_true, if_false]; exact Ev.some _
 | true =>
  obtain ⟨hb, k1, k2, hu⟩ := Zam g0
  simp only [Bool.not_true, Bool.false_eq_true, if_false, if_true]
  refine Ev.bind (ZhY b hb) (Ev.bind (a := numB b) (Zc2 _ (ZeR (Z51 hb) (ZX b)) (by rw [ZaU]; omega)) ?_)
  refine Ev.bind (Z8C b hb hu [c] (fun x hx => by rw [List.mem_singleton.1 hx]; exact ⟨k1, k2⟩) (by simp)) ?_
  have hl : (0 : Int) < ((List.map (nextL b) [c]).length : Int) := by simp
  have hg : List.getD (List.map (nextL b) [c]) (Int.toNat 0) [] = nextL b c := rfl
  simp only [hl, if_true, hg]
  have h := Zf5 b hb hu (numB b) (nextL b c) [] [] (Nat.le_refl _) (by rw [List.nil_append, ZaT])
  exact Ev.bind h (Ev.some _)
def noB : BoardD := (0, 0, [])
def ZhJ (b : BoardD) (c : Int) : BoardD × Bool := match beforeN b c with | [n] => (inState b n, true) | _ => (noB, false)
def Z8n (b : BoardD) (c : Int) : BoardD × Bool := if backOK b c then ZhJ b c else (noB, false)
theorem ZvQ (b : BoardD) (c : Int) (h0 : b.2.2.length ≤ 9223372036854775806) : Ev (fun k => Za0 k b c) (Z8n b c) := by
 refine Ev.succ ?_
 simp only [Za0]
 refine Ev.bind (Zgt b c h0) ?_
 unfold Z3B Z8n
 cases g0 : backOK b c with
 | false => simp only [Bool.not_false, if_true, Bool.false_eq_true, if_false]; exact Ev.some _
 | true =>
  simp only [if_true, Bool.not_true, Bool.false_eq_true, if_false]
  unfold ZhJ
  match hm : beforeN b c with
  | [] => simp only [List.map_nil, List.length_nil]; exact Ev.some _
  | [n] => simp only [List.map_cons, List.map_nil, List.length_singleton]; exact Ev.some _
  | n :: n' :: r =>
   have h1 : (((List.map (inState b) (n :: n' :: r)).length : Nat) : Int) ≠ 1 := by simp; omega
   simp only [ne_eq] at h1
   simp only [h1, ne_eq, not_false_eq_true, decide_true, if_true]
   exact Ev.some _
theorem Zql (b : BoardD) (hb : boardOK b = true) (hu : (unitsP b).length ≤ 10) (c : Int) (k1 : 0 ≤ c) (k2 : c < b.2.1) : Ev (fun k => Z7C k b c) (ZhJ b c) := by
 have hs := Z4T b hu c
 have hp := Z7F hu
 refine Ev.succ ?_
 simp only [Z7C]
 refine Ev.bind (Zev b hb hu c k1 k2) (Ev.bind (a := numB b) (Zcl b hb (by omega)) (Ev.bind (a := beforeN b c) (Zci _ _ (by omega)) ?_))
 have hin := ZAy b c
 unfold ZhJ
 match hm : beforeN b c, hin with
 | [], hin => simp only [List.length_nil]; exact Ev.some _
 | [n], hin =>
  obtain ⟨n0, n1⟩ := hin n (List.mem_singleton.2 rfl)
  have hn40 : n < 1099511627776 := by rw [← Z7s] at n1; exact Int.lt_of_lt_of_le n1 (by omega)
  have hsi := ZmH b hb (by omega) n n0 hn40
  have hg : List.getD [n] (Int.toNat 0) 0 = n := rfl
  simp only [List.length_singleton, hg]
  exact Ev.bind hsi (Ev.some _)
 | n :: n' :: r, hin =>
  have h1 : (((n :: n' :: r).length : Nat) : Int) ≠ 1 := by simp; omega
  simp only [ne_eq] at h1
  simp only [h1, ne_eq, not_false_eq_true, decide_true, if_true]
  exact Ev.some _
theorem Zvl (b : BoardD) (c : Int) (h0 : b.2.2.length ≤ 9223372036854775806) : Ev (fun k => Z9Y k b c) (Z8n b c) := by
 refine Ev.succ ?_
 simp only [Z9Y]
 unfold Z8n
 refine Ev.bind (ZcP b c h0) ?_
 cases g0 : backOK b c with
 | false => simp only [Bool.not_false, if_true, Bool.false_eq_true, if_false]; exact Ev.some _
 | true =>
  obtain ⟨hb, k1, k2, hu⟩ := Zam g0
  simp only [Bool.not_true, Bool.false_eq_true, if_false, if_true]
  exact Ev.bind (Zql b hb hu c k1 k2) (Ev.some _)
theorem ZFj (b : BoardD) (hl : b.2.2.length ≤ 1048576) (c : Int) : (Z8n b c).1.2.2.length ≤ 1048576 := by
 unfold Z8n ZhJ
 split
 ·split
  ·simp only [inState, Z7Y]; exact hl
  ·simp [noB]
 ·simp [noB]
end Go.Proofs.Ytglkedenkcpcbaa.Vs

set_option linter.unusedVariables false
set_option linter.unusedSimpArgs false
namespace Go.Proofs.Ytglkedenkcpcbaa.Vs
open Go.RowKit
def undoP (b : BoardD) : List Int → Int → Option Int
 | [], i => some i
 | c :: r, i => match befs i (nextL b c) 0 with | [n] => undoP b r n | _ => none
def scan (to : Int) : List Int → Int → Int → Option Int
 | [], _, v => some v
 | x :: r, m, v => if x = to then (if v ≥ 0 then none else scan to r (m + 1) m) else scan to r (m + 1) v
theorem ZAk (to : Int) : ∀ (l : List Int) (m v : Int), 0 ≤ v → scan to l m v = if befs to l m = [] then some v else none
 | [], m, v, hv => by simp [scan, befs]
 | x :: r, m, v, hv => by
  simp only [scan, befs]
  by_cases hx : x = to
  ·simp [hx, hv]
  ·simp only [hx, if_false, List.nil_append]
   exact ZAk to r (m + 1) v hv
theorem ZAo (to : Int) : ∀ (l : List Int) (m : Int), 0 ≤ m → scan to l m (-1) = match befs to l m with | [] => some (-1) | [n] => some n | _ => none
 | [], m, hm => by simp [scan, befs]
 | x :: r, m, hm => by
  simp only [scan, befs]
  by_cases hx : x = to
  ·simp only [hx, if_true, List.singleton_append]
   rw [if_neg (by omega), ZAk to r (m + 1) m hm]
   cases hb : befs to r (m + 1) with
   | nil => simp
   | cons y s => simp
  ·simp only [hx, if_false, List.nil_append]
   exact ZAo to r (m + 1) (by omega)
theorem Zgd (b : BoardD) (c1 c2 : Int) (c3 : List CellD) (t : List Int) : ∀ (r pre : List Int), (pre ++ r).length ≤ 1000000 → Ev (fun k => Z3I k b.1 b.2.1 b.2.2 c1 c2 c3 t (pre ++ r) ((pre ++ r).length : Int) (pre.length : Int)) (if r.all (fun n => decide (0 ≤ n ∧ n ≤ b.2.1 - 1)) then LR.go (b.1, b.2.1, b.2.2, c1, c2, c3, t) else LR.ret (noB, false))
 | [], pre, hl => by
  refine Ev.succ ?_
  simp only [Z3I, Zm, decide_false, Bool.false_eq_true, if_false, List.all_nil, if_true]
  exact Ev.some _
 | x :: r, pre, hl => by
  have ih := Zgd b c1 c2 c3 t r (pre ++ [x]) (by simpa using hl)
  rw [← Z4] at ih
  refine Ev.succ ?_
  simp only [Z3I, Zg, Zp, decide_true, if_true, Int.toNat_natCast, Z7]
  rw [Zb pre x r (by omega)]
  by_cases h1 : x < 0
  ·have : ¬ (0 ≤ x ∧ x ≤ b.2.1 - 1) := by omega
   simp only [h1, decide_true, if_true, List.all_cons, this, decide_false, Bool.false_and, Bool.false_eq_true, if_false]
   exact Ev.some _
  ·by_cases h2 : x ≥ b.2.1
   ·have : ¬ (0 ≤ x ∧ x ≤ b.2.1 - 1) := by omega
    simp only [h1, h2, decide_true, if_true, List.all_cons, this, decide_false, Bool.false_and, Bool.false_eq_true, if_false]
    exact Ev.some _
   ·have : 0 ≤ x ∧ x ≤ b.2.1 - 1 := by omega
    simp only [h1, h2, this, and_self, decide_true, List.all_cons, Bool.true_and, decide_false, Bool.false_eq_true, if_false]
    exact ih
theorem Zg2 (b1 b2 : Int) (b3 : List CellD) (c1 c2 : Int) (c3 : List CellD) (o4 : List (List Int)) (to v10 : Int) (i : Nat) (l : List Int) (hg : List.getD o4 i [] = l) (hl : l.length ≤ 1000000) : ∀ (r pre : List Int) (v : Int), pre ++ r = l → Ev (fun k => Z2i k b1 b2 b3 c1 c2 c3 o4 to v10 v (i : Int) (l.length : Int) (pre.length : Int)) (match scan to r pre.length v with | some x => LR.go (b1, b2, b3, c1, c2, c3, o4, v10, x) | none => LR.ret (noB, false))
 | [], pre, v, hp => by
  have hn : ¬ (pre.length : Int) < (l.length : Int) := by rw [← hp]; exact Zm pre
  refine Ev.succ ?_
  simp only [Z2i, hn, decide_false, Bool.false_eq_true, if_false, scan]
  exact Ev.some _
 | x :: r, pre, v, hp => by
  have hlt : (pre.length : Int) < (l.length : Int) := by rw [← hp]; exact Zg pre x r
  have hx : List.getD l pre.length 0 = x := by rw [← hp]; exact Z7 _ _ _ _
  have hcast : ((pre ++ [x]).length : Int) = (pre.length : Int) + 1 := by simp
  have ih := fun v' => Zg2 b1 b2 b3 c1 c2 c3 o4 to v10 i l hg hl r (pre ++ [x]) v' (by rw [← hp]; simp)
  rw [hcast] at ih
  refine Ev.succ ?_
  simp only [Z2i, Int.toNat_natCast, hg, hlt, Zp, decide_true, if_true, hx, scan, decide_eq_true_eq]
  rw [Zb pre x r (by rw [hp]; omega), hcast]
  by_cases hxt : x = to
  ·simp only [hxt, if_true]
   by_cases hv : v ≥ 0
   ·simp only [hv, if_true]; exact Ev.some _
   ·simp only [hv, if_false]; exact ih _
  ·simp only [hxt, if_false]; exact ih _
theorem Zge (b : BoardD) (hu : (unitsP b).length ≤ 10) (c1 c2 : Int) (c3 : List CellD) : ∀ (r done : List Int) (i : Int), (r.reverse ++ done).length ≤ 1000 → 0 ≤ i → Ev (fun k => Z3D k b.1 b.2.1 b.2.2 c1 c2 c3 ((r.reverse ++ done).map (nextL b)) i ((r.length : Int) - 1)) (match undoP b r i with | some n => LR.go (b.1, b.2.1, b.2.2, c1, c2, c3, n) | none => LR.ret (noB, false))
 | [], done, i, hl, hi => by
  refine Ev.succ ?_
  have : ¬ (((([] : List Int).length : Nat) : Int) - 1 ≥ 0) := by simp
  simp only [Z3D, this, decide_false, Bool.false_eq_true, if_false, undoP]
  exact Ev.some _
 | c :: r, done, i, hl, hi => by
  have hs := Z4T b hu c
  have e1 : (((c :: r).length : Nat) : Int) - 1 = (r.length : Int) := by simp
  have hge : (r.length : Int) ≥ 0 := Int.natCast_nonneg _
  have hsh : (c :: r).reverse ++ done = r.reverse ++ c :: done := by simp
  have hlen : (r.length : Int) < ((List.map (nextL b) (r.reverse ++ c :: done)).length : Int) := by simp; omega
  have hg : List.getD (List.map (nextL b) (r.reverse ++ c :: done)) r.length [] = nextL b c := by
   rw [List.map_append, List.map_cons]
   simp
  have h4 := Zg2 b.1 b.2.1 b.2.2 c1 c2 c3 (List.map (nextL b) (r.reverse ++ c :: done)) i (r.length : Int) r.length (nextL b c) hg (by omega) (nextL b c) [] (-1) rfl
  have hz : ((([] : List Int).length : Nat) : Int) = 0 := rfl
  rw [hz, ZAo i (nextL b c) 0 (Int.le_refl 0)] at h4
  have hin := ZnK i (nextL b c) 0
  have hll : r.length ≤ 1000 := by rw [hsh] at hl; simp at hl; omega
  rw [e1, hsh]
  refine Ev.succ ?_
  simp only [Z3D, hge, decide_true, if_true, hlen, Int.toNat_natCast, hg]
  refine Ev.bind h4 ?_
  simp only [undoP]
  match hm : befs i (nextL b c) 0, hin with
  | [], hin =>
   refine Ev.go ?_
   simp only [show ((-1 : Int) < 0) by omega, decide_true, if_true]
   exact Ev.some _
  | [n], hin =>
   obtain ⟨n0, _⟩ := hin n (List.mem_singleton.2 rfl)
   have hn : ¬ n < 0 := by omega
   refine Ev.go ?_
   simp only [hn, decide_false, Bool.false_eq_true, if_false]
   rw [w64 (n := (r.length : Int) - 1) (by omega) (by omega)]
   exact Zge b hu c1 c2 c3 r (c :: done) n (by rw [hsh] at hl; exact hl) n0
  | n :: n' :: s, hin => exact Ev.ret (Ev.some _)
theorem ZfR (b : BoardD) (hb : boardOK b = true) (hu : (unitsP b).length ≤ 10) (d1 d2 : Int) (d3 : List CellD) : ∀ (r done : List Int) (i : Int), colsOK b r → (r.reverse ++ done).length ≤ 1000 → 0 ≤ i → i < 2 ^ (unitsP b).length → Ev (fun k => Z3z k d1 d2 d3 b.1 b.2.1 (stateN b i) (r.reverse ++ done) ((r.length : Int) - 1)) (match undoP b r i with | some n => LR.go (d1, d2, d3, inState b n) | none => LR.ret (noB, false))
 | [], done, i, hc, hl, hi, hi2 => by
  refine Ev.succ ?_
  have : ¬ (((([] : List Int).length : Nat) : Int) - 1 ≥ 0) := by simp
  simp only [Z3z, this, decide_false, Bool.false_eq_true, if_false, undoP]
  exact Ev.some _
 | c :: r, done, i, hc, hl, hi, hi2 => by
  obtain ⟨k1, k2⟩ := hc c (List.mem_cons_self ..)
  have e1 : (((c :: r).length : Nat) : Int) - 1 = (r.length : Int) := by simp
  have hge : (r.length : Int) ≥ 0 := Int.natCast_nonneg _
  have hsh : (c :: r).reverse ++ done = r.reverse ++ c :: done := by simp
  have hlen : (r.length : Int) < ((r.reverse ++ c :: done).length : Int) := by simp; omega
  have hg : List.getD (r.reverse ++ c :: done) r.length 0 = c := by
   simp
  have hll : r.length ≤ 1000 := by rw [hsh] at hl; simp at hl; omega
  have hon := Zql (inState b i) (Zla b hb i) (by rw [show unitsP (inState b i) = unitsP b from ZcI b hb i]; exact hu) c k1 k2
  have hbe : beforeN (inState b i) c = befs i (nextL b c) 0 := by
   unfold beforeN
   rw [show nextL (inState b i) c = nextL b c from ZD8 b hb c i, show numB (inState b i) = i from ZDi b hb i hi hi2]
  have hin := ZnK i (nextL b c) 0
  rw [ZaT, Z7s] at hin
  rw [e1, hsh]
  unfold ZhJ at hon
  rw [hbe] at hon
  refine Ev.succ ?_
  simp only [Z3z, hge, decide_true, if_true, Z31, hlen, Int.toNat_natCast, hg, undoP]
  refine Ev.bind (Ev.bind hon (Ev.some _)) ?_
  match hm : befs i (nextL b c) 0, hin with
  | [], hin => simp only [Bool.not_false, if_true]; exact Ev.some _
  | [n], hin =>
   obtain ⟨n0, n1⟩ := hin n (List.mem_singleton.2 rfl)
   simp only [Bool.not_true, Bool.false_eq_true, if_false, inState]
   rw [w64 (n := (r.length : Int) - 1) (by omega) (by omega), Zqk b hb]
   exact ZfR b hb hu d1 d2 d3 r (c :: done) n (fun y hy => hc y (List.mem_cons_of_mem _ hy)) (by rw [hsh] at hl; exact hl) n0 (by omega)
  | n :: n' :: s, hin => simp only [Bool.not_false, if_true]; exact Ev.some _
theorem ZCe (b : BoardD) : ∀ (r : List Int) (i n : Int), 0 ≤ i → i < 2 ^ (unitsP b).length → undoP b r i = some n → 0 ≤ n ∧ n < 2 ^ (unitsP b).length
 | [], i, n, h0, h1, h => by
  simp only [undoP] at h
  injection h with h
  subst h
  exact ⟨h0, h1⟩
 | c :: r, i, n, h0, h1, h => by
  simp only [undoP] at h
  split at h
  ·rename_i m hm
   have hin := ZnK i (nextL b c) 0 m (by rw [hm]; simp)
   rw [ZaT, Z7s] at hin
   exact ZCe b r m n hin.1 (by omega) h
  ·cases h
def undoOK (b : BoardD) (t : List Int) : Bool := boardOK b && decide ((unitsP b).length ≤ 10) && decide (t.length ≤ 20) && t.all (fun n => decide (0 ≤ n ∧ n ≤ b.2.1 - 1))
def Z7u (b : BoardD) (t : List Int) : BoardD × Bool := if undoOK b t then (match undoP b t.reverse (numB b) with | some n => (inState b n, true) | none => (noB, false)) else (noB, false)
theorem Zu8 (b : BoardD) (t : List Int) (h0 : b.2.2.length ≤ 9223372036854775806) (h1 : t.length ≤ 9223372036854775806) : Ev (fun k => Z9c k b t) (Z7u b t) := by
 refine Ev.succ ?_
 simp only [Z9c]
 unfold Z7u undoOK
 refine Ev.bind (Zaz b h0) ?_
 cases hb : boardOK b with
 | false => simp only [Bool.not_false, if_true, Bool.false_eq_true, if_false, Bool.false_and]; exact Ev.some _
 | true =>
  simp only [Bool.not_true, Bool.false_eq_true, if_false, Bool.true_and]
  refine Ev.bind (ZaO b hb) ?_
  by_cases hu : (unitsP b).length ≤ 10
  ·have hu' : ¬ ((unitsP b).length : Int) > 10 := by omega
   simp only [hu, hu', decide_true, decide_false, Bool.true_and, Bool.false_eq_true, if_false]
   by_cases ht : t.length ≤ 20
   ·have ht' : ¬ (t.length : Int) > 20 := by omega
    simp only [ht, ht', decide_true, decide_false, Bool.true_and, Bool.false_eq_true, if_false]
    refine Ev.bind (Zgd b 0 0 [] t t [] (by simp; omega)) ?_
    cases ha : t.all (fun n => decide (0 ≤ n ∧ n ≤ b.2.1 - 1)) with
    | false => simp only [Bool.false_eq_true, if_false]; exact Ev.ret (Ev.some _)
    | true =>
     simp only [if_true]
     have hc : colsOK b t := fun c hc => by
      have := List.all_eq_true.1 ha c hc
      simp only [decide_eq_true_eq] at this
      omega
     have hra := Zj5 b hb
     refine Ev.go ?_
     refine Ev.bind (Z8C b hb hu t hc (by omega)) ?_
     refine Ev.bind (ZhY b hb) (Ev.bind (a := numB b) (Zc2 _ (ZeR (Z51 hb) (ZX b)) (by rw [ZaU]; omega)) ?_)
     have h2 := Zge b hu 0 0 [] t.reverse [] (numB b) (by simp; omega) hra.1
     simp only [List.reverse_reverse, List.append_nil, List.length_reverse] at h2
     simp only
     rw [w64 (n := (t.length : Int) - 1) (by omega) (by omega)]
     refine Ev.bind h2 ?_
     cases hd : undoP b t.reverse (numB b) with
     | none => exact Ev.ret (Ev.some _)
     | some n =>
      have hn := ZCe b _ _ _ hra.1 hra.2 hd
      exact Ev.go (Ev.bind (ZgH b hb (by omega) n hn.1 hn.2) (Ev.some _))
   ·have ht' : (t.length : Int) > 20 := by omega
    simp only [ht, ht', decide_true, decide_false, Bool.false_and, Bool.false_eq_true, if_false, if_true]; exact Ev.some _
  ·have hu' : ((unitsP b).length : Int) > 10 := by omega
   simp only [hu, hu', decide_true, decide_false, Bool.false_and, Bool.false_eq_true, if_false, if_true]; exact Ev.some _
theorem Ztf (b : BoardD) (t : List Int) (h0 : b.2.2.length ≤ 9223372036854775806) (h1 : t.length ≤ 9223372036854775806) : Ev (fun k => Z9w k b t) (Z7u b t) := by
 refine Ev.succ ?_
 simp only [Z9w]
 unfold Z7u undoOK
 refine Ev.bind (ZcP b 0 h0) ?_
 have hbk : backOK b 0 = (boardOK b && decide ((unitsP b).length ≤ 10)) := by
  unfold backOK
  cases hb : boardOK b with
  | false => rfl
  | true =>
   have := Zn hb
   have h2 : (0 : Int) ≤ 0 ∧ (0 : Int) < b.2.1 := by omega
   simp only [h2, and_self, decide_true, Bool.true_and]
 rw [hbk]
 cases hb : boardOK b with
 | false => simp only [Bool.not_false, if_true, Bool.false_eq_true, if_false, Bool.false_and]; exact Ev.some _
 | true =>
  simp only [Bool.true_and]
  by_cases hu : (unitsP b).length ≤ 10
  ·simp only [hu, decide_true, Bool.true_and, Bool.not_true, Bool.false_eq_true, if_false]
   by_cases ht : t.length ≤ 20
   ·have ht' : ¬ (t.length : Int) > 20 := by omega
    have hcol := (Zn hb).2.2
    simp only [ht, ht', decide_true, decide_false, Bool.true_and, Bool.false_eq_true, if_false]
    rw [w64 (n := b.2.1 - 1) (by omega) (by omega)]
    refine Ev.bind (ZrY t 0 (b.2.1 - 1) h1) ?_
    cases ha : t.all (fun n => decide (0 ≤ n ∧ n ≤ b.2.1 - 1)) with
    | false => simp only [Bool.not_false, if_true, Bool.false_eq_true, if_false]; exact Ev.some _
    | true =>
     simp only [Bool.not_true, Bool.false_eq_true, if_false, if_true]
     have hc : colsOK b t := fun c hc => by
      have := List.all_eq_true.1 ha c hc
      simp only [decide_eq_true_eq] at this
      omega
     have hra := Zj5 b hb
     obtain ⟨g1, g2, g3, g4, g5, g6⟩ := Zn hb
     have hpp := Zu g1 g2 g3 g4
     refine Ev.bind (Zfr b (by omega)) ?_
     have h2 := ZfR b hb hu 0 0 [] t.reverse [] (numB b) (fun c hx => hc c (List.mem_reverse.1 hx)) (by simp; omega) hra.1 hra.2
     rw [Zmo b hb] at h2
     simp only [List.reverse_reverse, List.append_nil, List.length_reverse] at h2
     rw [w64 (n := (t.length : Int) - 1) (by omega) (by omega)]
     refine Ev.bind h2 ?_
     cases hd : undoP b t.reverse (numB b) with
     | none => exact Ev.ret (Ev.some _)
     | some n => exact Ev.go (Ev.some _)
   ·have ht' : (t.length : Int) > 20 := by omega
    simp only [ht, ht', decide_true, decide_false, Bool.false_and, Bool.false_eq_true, if_false, if_true]; exact Ev.some _
  ·simp only [hu, decide_false, Bool.false_and, Bool.not_false, if_true, Bool.false_eq_true, if_false]; exact Ev.some _
theorem ZEX (b : BoardD) (hl : b.2.2.length ≤ 1048576) (t : List Int) : (Z7u b t).1.2.2.length ≤ 1048576 := by
 unfold Z7u
 split
 ·split
  ·simp only [inState, Z7Y]; exact hl
  ·simp [noB]
 ·simp [noB]
end Go.Proofs.Ytglkedenkcpcbaa.Vs

set_option linter.unusedVariables false
set_option linter.unusedSimpArgs false
namespace Go.Proofs.Ytglkedenkcpcbaa.Vs
open Go.RowKit
def sumN (f : Nat → Nat) : Nat → Nat
 | 0 => 0
 | n + 1 => sumN f n + f n
theorem ZCN (f g : Nat → Nat) : ∀ n, sumN (fun i => f i + g i) n = sumN f n + sumN g n
 | 0 => rfl
 | n + 1 => by
  simp only [sumN, ZCN f g n]
  omega
theorem ZCq (m : Nat) : ∀ n, sumN (fun i => if i = m then 1 else 0) n = if m < n then 1 else 0
 | 0 => by simp [sumN]
 | n + 1 => by
  simp only [sumN, ZCq m n]
  by_cases h1 : m < n
  ·have : ¬ n = m := by omega
   have h2 : m < n + 1 := by omega
   simp [h1, h2, this]
  ·by_cases h2 : n = m
   ·have h3 : m < n + 1 := by omega
    simp [h2]
   ·have h3 : ¬ m < n + 1 := by omega
    simp [h1, h2, h3]
theorem Zye {f g : Nat → Nat} : ∀ n, (∀ i, i < n → f i = g i) → sumN f n = sumN g n
 | 0, _ => rfl
 | n + 1, h => by
  simp only [sumN]
  rw [Zye n (fun i hi => h i (by omega)), h n (by omega)]
theorem ZDJ {f : Nat → Nat} : ∀ n, (∀ i, i < n → 1 ≤ f i) → n ≤ sumN f n
 | 0, _ => Nat.le_refl _
 | n + 1, h => by
  have := ZDJ n (fun i hi => h i (by omega))
  have := h n (by omega)
  simp only [sumN]
  omega
theorem ZAc {f : Nat → Nat} : ∀ n, (∀ i, i < n → 1 ≤ f i) → sumN f n = n → ∀ i, i < n → f i = 1
 | 0, _, _, i, hi => by omega
 | n + 1, h, hs, i, hi => by
  have h1 := ZDJ n (fun i hi => h i (by omega))
  have h2 := h n (by omega)
  simp only [sumN] at hs
  rcases Nat.lt_or_eq_of_le (Nat.le_of_lt_succ hi) with h3 | h3
  ·exact ZAc n (fun i hi => h i (by omega)) (by omega) i h3
  ·rw [h3]; omega
theorem ZC4 (N : Nat) : ∀ (l : List Int) (m : Int), (∀ x ∈ l, 0 ≤ x ∧ x < (N : Int)) → sumN (fun n => (befs (n : Int) l m).length) N = l.length
 | [], m, h => by
  have : ∀ n, sumN (fun _ => 0) n = 0 := by
   intro n
   induction n with
   | zero => rfl
   | succ n ih => simp only [sumN, ih]
  simpa [befs] using this N
 | x :: r, m, h => by
  have ih := ZC4 N r (m + 1) (fun y hy => h y (List.mem_cons_of_mem _ hy))
  obtain ⟨h0, h1⟩ := h x (List.mem_cons_self ..)
  have e : ∀ n : Nat, (befs (n : Int) (x :: r) m).length = (if n = x.toNat then 1 else 0) + (befs (n : Int) r (m + 1)).length := by
   intro n
   simp only [befs, List.length_append]
   by_cases hn : n = x.toNat
   ·have hx : x = (n : Int) := by omega
    rw [if_pos hx, if_pos hn]
    rfl
   ·have hx : ¬ x = (n : Int) := fun he => hn (by omega)
    rw [if_neg hx, if_neg hn]
    rfl
  rw [Zye N (fun i _ => e i), ZCN, ih, ZCq, if_pos (by omega)]
  simp
  omega
theorem ZFh {l : List Int} (h : inside l) : (∀ n : Nat, n < l.length → (befs (n : Int) l 0).length = 1) ↔ ∀ n : Nat, n < l.length → befs (n : Int) l 0 ≠ [] := by
 constructor
 ·intro h1 n hn he
  have := h1 n hn
  rw [he] at this
  simp at this
 ·intro h1
  refine ZAc l.length (fun i hi => ?_) (ZC4 l.length l 0 h)
  exact List.length_pos_iff.2 (h1 i hi)
theorem ZxN (to : Int) : ∀ (l : List Int) (m n : Int), n ∈ befs to l m ↔ ∃ i : Nat, i < l.length ∧ n = m + (i : Int) ∧ List.getD l i 0 = to
 | [], m, n => by simp [befs]
 | x :: r, m, n => by
  have ih := ZxN to r (m + 1) n
  simp only [befs, List.mem_append, ih]
  constructor
  ·rintro (h | ⟨i, h1, h2, h3⟩)
   ·split at h
    ·rename_i hx
     exact ⟨0, by simp, by rw [List.mem_singleton.1 h]; simp, by rw [List.getD_cons_zero]; exact hx⟩
    ·cases h
   ·exact ⟨i + 1, by simp; omega, by omega, by rw [List.getD_cons_succ]; exact h3⟩
  ·rintro ⟨i, h1, h2, h3⟩
   cases i with
   | zero =>
    left
    rw [List.getD_cons_zero] at h3
    rw [if_pos h3]
    simp at h2
    simp [h2]
   | succ i =>
    right
    rw [List.getD_cons_succ] at h3
    exact ⟨i, by simp at h1; omega, by omega, h3⟩
end Go.Proofs.Ytglkedenkcpcbaa.Vs

set_option linter.unusedVariables false
set_option linter.unusedSimpArgs false
namespace Go.Proofs.Ytglkedenkcpcbaa.Vs
open Go.RowKit
theorem Zhl {b : BoardD} (hb : boardOK b = true) : b.2.2.length ≤ 90 := by
 obtain ⟨g1, g2, g3, g4, g5, g6⟩ := Zn hb
 have hpp := Zu g1 g2 g3 g4
 omega
end Go.Proofs.Ytglkedenkcpcbaa.Vs

set_option linter.unusedVariables false
set_option linter.unusedSimpArgs false
namespace Go.Proofs.Ytglkedenkcpcbaa.Vs
open Go.RowKit
def afterB (b : BoardD) (c : Int) : BoardD := (faRunOf b [] c).2
theorem ZBT (b : BoardD) (hb : boardOK b = true) : inState b (numB b) = b := by
 unfold inState
 rw [Zmo b hb]
theorem ZEw (b : BoardD) (hb : boardOK b = true) (n c : Int) : afterB (inState b n) c = inState b (nextN b c n) := by
 unfold afterB faRunOf inState
 rw [← Zw5 b hb]
 show (b.1, b.2.1, (fallOf (b.1, b.2.1, stateN b n) (groupsOf (b.1, b.2.1, stateN b n)) (kindsB (b.1, b.2.1, stateN b n) []) c (stateN b n)).2) = _
 rw [Zea b hb, Ze4 (b := (b.1, b.2.1, stateN b n)) (b' := b) rfl (Z7Y b n), ZdM (b := (b.1, b.2.1, stateN b n)) (b' := b) rfl rfl]
 rfl
theorem ZFd (b : BoardD) (c : Int) {n : Nat} (h : n < 2 ^ (unitsP b).length) : List.getD (nextL b c) n 0 = nextN b c (n : Int) := by
 unfold nextL
 simp [List.getD, List.getElem?_map, List.getElem?_range h]
theorem Zt1 (b : BoardD) (c to n : Int) (h : n ∈ befs to (nextL b c) 0) : 0 ≤ n ∧ n < 2 ^ (unitsP b).length ∧ nextN b c n = to := by
 obtain ⟨i, h1, h2, h3⟩ := (ZxN to _ 0 n).1 h
 rw [ZaT] at h1
 have e : n = (i : Int) := by omega
 subst e
 rw [ZFd b c h1] at h3
 refine ⟨by omega, ?_, h3⟩
 rw [← Z7s]
 exact Int.ofNat_lt.2 h1
theorem ZBY (b : BoardD) (hb : boardOK b = true) (c : Int) {n : Int} (h : n ∈ beforeN b c) : afterB (inState b n) c = b := by
 rw [ZEw b hb, (Zt1 b c (numB b) n h).2.2, ZBT b hb]
def stepsN (b : BoardD) (t : List Int) (n : Int) : Int := t.foldl (fun m c => nextN b c m) n
theorem ZyP (b : BoardD) (hb : boardOK b = true) : ∀ (t : List Int) (n : Int), (runsOf b (groupsOf b) (kindsB b []) t (stateN b n)).2 = stateN b (stepsN b t n)
 | [], n => rfl
 | c :: t, n => by
  show (runsOf b (groupsOf b) (kindsB b []) t (fallOf b (groupsOf b) (kindsB b []) c (stateN b n)).2).2 = _
  have e : (fallOf b (groupsOf b) (kindsB b []) c (stateN b n)).2 = stateN b (nextN b c n) := Zw5 b hb c n
  rw [e, ZyP b hb t]
  rfl
theorem ZFl (b : BoardD) (hb : boardOK b = true) (n : Int) (t : List Int) : (runsOf (inState b n) (groupsOf (inState b n)) (kindsB (inState b n) []) t (stateN b n)).2 = stateN b (stepsN b t n) := by
 have e1 : groupsOf (inState b n) = groupsOf b := Zea b hb n
 have e2 : kindsB (inState b n) [] = kindsB b [] := Ze4 (b := (b.1, b.2.1, stateN b n)) (b' := b) rfl (Z7Y b n) []
 have e3 : ∀ (t : List Int) (o : List CellD), runsOf (inState b n) (groupsOf b) (kindsB b []) t o = runsOf b (groupsOf b) (kindsB b []) t o := by
  intro t
  induction t with
  | nil => intro o; rfl
  | cons c t ih =>
   intro o
   simp only [runsOf]
   rw [ZdM (b := inState b n) (b' := b) rfl rfl, ih]
 rw [e1, e2, e3]
 exact ZyP b hb t n
theorem ZAn (b : BoardD) : ∀ (r : List Int) (i n : Int), undoP b r i = some n → stepsN b r.reverse n = i
 | [], i, n, h => by
  simp only [undoP, Option.some.injEq] at h
  simp [stepsN, h]
 | c :: r, i, n, h => by
  simp only [undoP] at h
  split at h
  ·rename_i k hk
   have ih := ZAn b r k n h
   have hl := (Zt1 b c i k (by rw [hk]; exact List.mem_cons_self ..)).2.2
   unfold stepsN at ih ⊢
   rw [List.reverse_cons, List.foldl_append, ih]
   exact hl
  ·cases h
end Go.Proofs.Ytglkedenkcpcbaa.Vs

set_option linter.unusedVariables false
set_option linter.unusedSimpArgs false
namespace Go.Proofs.Ytglkedenkcpcbaa.Vs
open Go.RowKit
theorem Zwe (to : Int) : ∀ (l s : List Int) (m : Int), befs to (l ++ s) m = befs to l m ++ befs to s (m + (l.length : Int))
 | [], s, m => by simp [befs]
 | x :: l, s, m => by
  have ih := Zwe to l s (m + 1)
  have e : m + 1 + (l.length : Int) = m + ((x :: l).length : Int) := by simp only [List.length_cons]; omega
  rw [e] at ih
  simp only [List.cons_append, befs, ih, List.append_assoc]
def timesOf (N : Nat) (l : List Int) : List Int := (List.range N).map fun (n : Nat) => ((befs (n : Int) l 0).length : Int)
theorem Z3w (N : Nat) (l : List Int) : (timesOf N l).length = N := by simp [timesOf]
theorem Zd3 {N n : Nat} (l : List Int) (h : n < N) : List.getD (timesOf N l) n 0 = ((befs (n : Int) l 0).length : Int) := by
 simp [timesOf, List.getD, List.getElem?_map, List.getElem?_range h]
theorem ZEa {N : Nat} (l : List Int) {x : Int} (h0 : 0 ≤ x) (h1 : x < (N : Int)) : List.set (timesOf N l) x.toNat (List.getD (timesOf N l) x.toNat 0 + 1) = timesOf N (l ++ [x]) := by
 obtain ⟨m, rfl⟩ : ∃ m : Nat, x = (m : Int) := ⟨x.toNat, by omega⟩
 have hm : m < N := by omega
 rw [Int.toNat_natCast, Zd3 l hm]
 refine List.ext_getElem (by simp [Z3w]) (fun i h2 h3 => ?_)
 rw [Z3w] at h3
 rw [List.getElem_set]
 simp only [timesOf, List.getElem_map, List.getElem_range, Zwe]
 by_cases h : m = i
 ·subst h; simp [befs]
 ·have : ¬ (m : Int) = (i : Int) := by omega
  simp [befs, h, this]
def runsB (next : List Int) : Bool := (timesOf next.length next).all fun x => decide (x = 1)
def firstL (next : List Int) : List Int := befs 0 (timesOf next.length next) 0
theorem Zsy {next : List Int} (n : Int) : n ∈ firstL next ↔ 0 ≤ n ∧ n < (next.length : Int) ∧ befs n next 0 = [] := by
 unfold firstL
 rw [ZxN]
 constructor
 ·rintro ⟨i, h1, h2, h3⟩
  rw [Z3w] at h1
  rw [Zd3 _ h1] at h3
  obtain rfl : n = (i : Int) := by omega
  exact ⟨by omega, by omega, List.eq_nil_of_length_eq_zero (by omega)⟩
 ·rintro ⟨h1, h2, h3⟩
  refine ⟨n.toNat, by rw [Z3w]; omega, by omega, ?_⟩
  rw [Zd3 _ (by omega), show ((n.toNat : Nat) : Int) = n by omega, h3]
  rfl
theorem ZEh {next : List Int} (h : inside next) : runsB next = decide ((firstL next).length = 0) := by
 rw [Bool.eq_iff_iff, decide_eq_true_eq]
 unfold runsB
 rw [List.all_eq_true]
 have e1 : (∀ x ∈ timesOf next.length next, decide (x = 1) = true) ↔ ∀ n : Nat, n < next.length → (befs (n : Int) next 0).length = 1 := by
  constructor
  ·intro h1 n hn
   have := h1 ((befs (n : Int) next 0).length : Int) (List.mem_map.2 ⟨n, List.mem_range.2 hn, rfl⟩)
   simp only [decide_eq_true_eq] at this
   omega
  ·intro h1 x hx
   obtain ⟨n, hn, rfl⟩ := List.mem_map.1 hx
   have := h1 n (List.mem_range.1 hn)
   simp only [decide_eq_true_eq]
   omega
 rw [e1, ZFh h]
 constructor
 ·intro h1
  refine Nat.eq_zero_of_not_pos (fun hp => ?_)
  obtain ⟨n, hn⟩ := List.length_pos_iff_exists_mem.1 hp
  obtain ⟨n0, n1, n2⟩ := (Zsy n).1 hn
  refine h1 n.toNat (by omega) ?_
  rw [show ((n.toNat : Nat) : Int) = n by omega]
  exact n2
 ·intro h1 n hn he
  have : (n : Int) ∈ firstL next := (Zsy _).2 ⟨by omega, by omega, he⟩
  rw [List.eq_nil_of_length_eq_zero h1] at this
  cases this
theorem ZAl (next : List Int) : (firstL next).length ≤ next.length := by
 have := ZpK 0 (timesOf next.length next) 0
 rw [Z3w] at this
 exact this
theorem ZCR (b : BoardD) (hb : boardOK b = true) (c : Int) : numB b ∈ firstL (nextL b c) ↔ beforeN b c = [] := by
 have hr := Zj5 b hb
 rw [Zsy, ZaT, Z7s]
 unfold beforeN
 constructor
 ·exact fun h => h.2.2
 ·exact fun h => ⟨hr.1, hr.2, h⟩
theorem Zf6 (N : Nat) (hN : N ≤ 1000000) : ∀ (r pre : List Int), (∀ x ∈ r, 0 ≤ x ∧ x < (N : Int)) → (pre ++ r).length = N → Ev (fun k => Z39 k (timesOf N pre) (pre ++ r) ((pre ++ r).length : Int) (pre.length : Int)) (timesOf N (pre ++ r))
 | [], pre, hr, hl => by
  refine Ev.succ ?_
  simp only [Z39, List.append_nil, Int.lt_irrefl, decide_false, Bool.false_eq_true, if_false]
  exact Ev.some _
 | x :: r, pre, hr, hl => by
  obtain ⟨x0, x1⟩ := hr x (List.mem_cons_self ..)
  have ih := Zf6 N hN r (pre ++ [x]) (fun y hy => hr y (List.mem_cons_of_mem _ hy)) (by simpa using hl)
  have hx : x < ((timesOf N pre).length : Int) := by rw [Z3w]; exact x1
  have hg : List.getD (timesOf N pre) x.toNat 0 = ((befs x pre 0).length : Int) := by
   rw [Zd3 pre (by omega), show ((x.toNat : Nat) : Int) = x by omega]
  have hb := ZpK x pre 0
  have hpl : pre.length ≤ N := by rw [← hl]; simp
  have w : wrap64 (List.getD (timesOf N pre) x.toNat 0 + 1) = List.getD (timesOf N pre) x.toNat 0 + 1 := w64 (by omega) (by omega)
  refine Ev.succ ?_
  simp only [Z39, Zg, Zp, decide_true, if_true, Int.toNat_natCast, Z7, x0, hx, w]
  rw [ZEa pre x0 x1, Zb pre x r (by omega)]
  rw [← Z4] at ih
  exact ih
theorem Zgu (next : List Int) (h : inside next) (hl : next.length ≤ 1000000) : Ev (fun k => Z5K k next) (timesOf next.length next) := by
 have h2 : next.length * 8 ≤ 281474976710656 := by omega
 have h0 := Zf6 next.length hl next [] h (by simp)
 have e : timesOf next.length [] = List.replicate next.length 0 := by
  refine List.ext_getElem (by simp [timesOf]) (fun i h1 h2 => ?_)
  simp [timesOf, befs]
 rw [e] at h0
 refine Ev.succ ?_
 simp only [Z5K, Int.toNat_natCast, h2, if_true]
 exact Ev.bind h0 (Ev.some _)
theorem Zfe : ∀ (r pre : List Int), (pre ++ r).length ≤ 1000000 → Ev (fun k => Z37 k (pre ++ r) ((pre ++ r).length : Int) (pre.length : Int)) (if r.all (fun x => decide (x = 1)) = true then LR.go () else LR.ret (false, true))
 | [], pre, hl => by
  refine Ev.succ ?_
  simp only [Z37, Zm, decide_false, Bool.false_eq_true, if_false, List.all_nil, if_true]
  exact Ev.some _
 | x :: r, pre, hl => by
  have ih := Zfe r (pre ++ [x]) (by simpa using hl)
  refine Ev.succ ?_
  simp only [Z37, Zg, Zp, decide_true, if_true, Int.toNat_natCast, Z7]
  rw [Zb pre x r (by omega)]
  rw [← Z4] at ih
  by_cases h : x = 1
  ·simp only [h, ne_eq, not_true_eq_false, decide_false, Bool.false_eq_true, if_false]
   rw [h] at ih
   refine ih.congr ?_
   simp
  ·simp only [h, ne_eq, not_false_eq_true, decide_true, if_true]
   refine Ev.of ?_
   simp [h]
theorem Zf0 (next : List Int) (hl : next.length ≤ 1000000) : ∀ (r pre : List Int), pre ++ r = timesOf next.length next → Ev (fun k => Z3d k next (next.length : Int) (pre.length : Int)) (if r.all (fun x => decide (x = 1)) = true then LR.go () else LR.ret (false, true))
 | [], pre, he => by
  have hn : pre.length = next.length := by rw [← Z3w next.length next, ← he]; simp
  have hlt : ¬ (pre.length : Int) < (next.length : Int) := by omega
  refine Ev.succ ?_
  simp only [Z3d, hlt, decide_false, Bool.false_eq_true, if_false, List.all_nil, if_true]
  exact Ev.some _
 | x :: r, pre, he => by
  have hn : pre.length + (r.length + 1) = next.length := by rw [← Z3w next.length next, ← he]; simp
  have hlt : (pre.length : Int) < (next.length : Int) := by omega
  have hx : ((befs (pre.length : Int) next 0).length : Int) = x := by
   rw [← Zd3 next (show pre.length < next.length by omega), ← he, Z7]
  have ih := Zf0 next hl r (pre ++ [x]) (by simpa using he)
  have w : wrap64 ((pre.length : Int) + 1) = ((pre ++ [x]).length : Int) := by rw [w64 (by omega) (by omega)]; simp
  refine Ev.succ ?_
  simp only [Z3d, hlt, decide_true, if_true, w]
  refine Ev.bind (Zci next (pre.length : Int) hl) ?_
  rw [hx]
  by_cases h : x = 1
  ·simp only [h, ne_eq, not_true_eq_false, decide_false, Bool.false_eq_true, if_false]
   rw [h] at ih
   refine ih.congr ?_
   simp
  ·simp only [h, ne_eq, not_false_eq_true, decide_true, if_true]
   refine Ev.of ?_
   simp [h]
def Zan (b : BoardD) (c : Int) : Bool × Bool := if backOK b c then (runsB (nextL b c), true) else (false, false)
theorem Zrt (b : BoardD) (c : Int) (h0 : b.2.2.length ≤ 9223372036854775806) : Ev (fun k => Z8J k b c) (Zan b c) := by
 refine Ev.succ ?_
 simp only [Z8J]
 unfold Zan
 refine Ev.bind (Zg1 b c h0) ?_
 cases g0 : backOK b c with
 | false => simp only [Bool.not_false, if_true, Bool.false_eq_true, if_false]; exact Ev.some _
 | true =>
  obtain ⟨hb, k1, k2, hu⟩ := Zam g0
  have hs := Z4T b hu c
  simp only [Bool.not_true, Bool.false_eq_true, if_false, if_true]
  refine Ev.bind (Z8C b hb hu [c] (fun x hx => by rw [List.mem_singleton.1 hx]; exact ⟨k1, k2⟩) (by simp)) ?_
  have hl : (0 : Int) < ((List.map (nextL b) [c]).length : Int) := by simp
  have hg : List.getD (List.map (nextL b) [c]) (Int.toNat 0) [] = nextL b c := rfl
  simp only [hl, if_true, hg]
  refine Ev.bind (Zgu (nextL b c) (Zkc b hb c) (by omega)) ?_
  have h := Zfe (timesOf (nextL b c).length (nextL b c)) [] (by rw [List.nil_append, Z3w]; omega)
  refine Ev.bind h ?_
  unfold runsB
  by_cases ha : (timesOf (nextL b c).length (nextL b c)).all (fun x => decide (x = 1)) = true
  ·rw [if_pos ha, ha]; exact Ev.go (Ev.some _)
  ·rw [if_neg ha, Bool.eq_false_iff.2 ha]; exact Ev.ret (Ev.some _)
theorem Zra (b : BoardD) (c : Int) (h0 : b.2.2.length ≤ 9223372036854775806) : Ev (fun k => Z8z k b c) (Zan b c) := by
 refine Ev.succ ?_
 simp only [Z8z]
 unfold Zan
 refine Ev.bind (ZcP b c h0) ?_
 cases g0 : backOK b c with
 | false => simp only [Bool.not_false, if_true, Bool.false_eq_true, if_false]; exact Ev.some _
 | true =>
  obtain ⟨hb, k1, k2, hu⟩ := Zam g0
  have hs := Z4T b hu c
  simp only [Bool.not_true, Bool.false_eq_true, if_false, if_true]
  refine Ev.bind (Zev b hb hu c k1 k2) ?_
  have h := Zf0 (nextL b c) (by omega) (timesOf (nextL b c).length (nextL b c)) [] (by simp)
  refine Ev.bind h ?_
  unfold runsB
  by_cases ha : (timesOf (nextL b c).length (nextL b c)).all (fun x => decide (x = 1)) = true
  ·rw [if_pos ha, ha]; exact Ev.go (Ev.some _)
  ·rw [if_neg ha, Bool.eq_false_iff.2 ha]; exact Ev.ret (Ev.some _)
theorem ZfL : ∀ (r pre w : List Int), w.length ≤ pre.length → (pre ++ r).length ≤ 1000000 → Ev (fun k => Z2e k w (pre ++ r) ((pre ++ r).length : Int) (pre.length : Int)) (w ++ befs 0 r pre.length)
 | [], pre, w, hw, hl => by
  refine Ev.succ ?_
  simp only [Z2e, Zm, decide_false, Bool.false_eq_true, if_false]
  exact (Ev.some _).congr (by simp [befs])
 | x :: r, pre, w, hw, hl => by
  have ih := fun w' hw' => ZfL r (pre ++ [x]) w' hw' (by simpa using hl)
  have hcast : ((pre ++ [x]).length : Int) = (pre.length : Int) + 1 := by simp
  have hwl : w.length + 1 ≤ 140737488355328 / 8 := by simp at hl; omega
  refine Ev.succ ?_
  simp only [Z2e, Zg, Zp, decide_true, if_true, Int.toNat_natCast, Z7, List.length_singleton, hwl]
  rw [Zb pre x r (by omega)]
  rw [← Z4, hcast] at ih
  rw [hcast]
  by_cases hx : x = 0
  ·simp only [hx, decide_true, if_true]
   rw [hx] at ih
   refine (ih (w ++ [(pre.length : Int)]) (by simp; omega)).congr ?_
   simp [befs]
  ·simp only [hx, decide_false, Bool.false_eq_true, if_false]
   refine (ih w (by simp; omega)).congr ?_
   simp [befs, hx]
theorem Zfp (next : List Int) (hl : next.length ≤ 1000000) : ∀ (r pre w : List Int), pre ++ r = timesOf next.length next → w.length ≤ pre.length → Ev (fun k => Z2g k next w (next.length : Int) (pre.length : Int)) (w ++ befs 0 r pre.length)
 | [], pre, w, he, hw => by
  have hn : pre.length = next.length := by rw [← Z3w next.length next, ← he]; simp
  have hlt : ¬ (pre.length : Int) < (next.length : Int) := by omega
  refine Ev.succ ?_
  simp only [Z2g, hlt, decide_false, Bool.false_eq_true, if_false]
  exact (Ev.some _).congr (by simp [befs])
 | x :: r, pre, w, he, hw => by
  have hn : pre.length + (r.length + 1) = next.length := by rw [← Z3w next.length next, ← he]; simp
  have hlt : (pre.length : Int) < (next.length : Int) := by omega
  have hx : ((befs (pre.length : Int) next 0).length : Int) = x := by
   rw [← Zd3 next (show pre.length < next.length by omega), ← he, Z7]
  have ih := fun w' hw' => Zfp next hl r (pre ++ [x]) w' (by simpa using he) hw'
  have hcast : ((pre ++ [x]).length : Int) = (pre.length : Int) + 1 := by simp
  have hwl : w.length + 1 ≤ 140737488355328 / 8 := by omega
  have w1 : wrap64 ((pre.length : Int) + 1) = (pre.length : Int) + 1 := w64 (by omega) (by omega)
  refine Ev.succ ?_
  simp only [Z2g, hlt, decide_true, if_true, w1, List.length_singleton, hwl]
  refine Ev.bind (Zci next (pre.length : Int) hl) ?_
  rw [hx]
  rw [hcast] at ih
  by_cases hx0 : x = 0
  ·simp only [hx0, decide_true, if_true]
   refine (ih (w ++ [(pre.length : Int)]) (by simp; omega)).congr ?_
   simp [befs]
  ·simp only [hx0, decide_false, Bool.false_eq_true, if_false]
   refine (ih w (by simp; omega)).congr ?_
   simp [befs, hx0]
def Z7w (b : BoardD) (c : Int) : List Int × Bool := if backOK b c then (firstL (nextL b c), true) else ([], false)
theorem ZsX (b : BoardD) (c : Int) (h0 : b.2.2.length ≤ 9223372036854775806) : Ev (fun k => Z9t k b c) (Z7w b c) := by
 refine Ev.succ ?_
 simp only [Z9t]
 unfold Z7w
 refine Ev.bind (Zg1 b c h0) ?_
 cases g0 : backOK b c with
 | false => simp only [Bool.not_false, if_true, Bool.false_eq_true, if_false]; exact Ev.some _
 | true =>
  obtain ⟨hb, k1, k2, hu⟩ := Zam g0
  have hs := Z4T b hu c
  simp only [Bool.not_true, Bool.false_eq_true, if_false, if_true]
  refine Ev.bind (Z8C b hb hu [c] (fun x hx => by rw [List.mem_singleton.1 hx]; exact ⟨k1, k2⟩) (by simp)) ?_
  have hl : (0 : Int) < ((List.map (nextL b) [c]).length : Int) := by simp
  have hg : List.getD (List.map (nextL b) [c]) (Int.toNat 0) [] = nextL b c := rfl
  simp only [hl, if_true, hg]
  refine Ev.bind (Zgu (nextL b c) (Zkc b hb c) (by omega)) ?_
  have h := ZfL (timesOf (nextL b c).length (nextL b c)) [] [] (Nat.le_refl _) (by rw [List.nil_append, Z3w]; omega)
  exact Ev.bind h (Ev.some _)
theorem ZtB (b : BoardD) (c : Int) (h0 : b.2.2.length ≤ 9223372036854775806) : Ev (fun k => Z9A k b c) (Z7w b c) := by
 refine Ev.succ ?_
 simp only [Z9A]
 unfold Z7w
 refine Ev.bind (ZcP b c h0) ?_
 cases g0 : backOK b c with
 | false => simp only [Bool.not_false, if_true, Bool.false_eq_true, if_false]; exact Ev.some _
 | true =>
  obtain ⟨hb, k1, k2, hu⟩ := Zam g0
  have hs := Z4T b hu c
  simp only [Bool.not_true, Bool.false_eq_true, if_false, if_true]
  refine Ev.bind (Zev b hb hu c k1 k2) ?_
  have h := Zfp (nextL b c) (by omega) (timesOf (nextL b c).length (nextL b c)) [] [] (by simp) (Nat.le_refl _)
  exact Ev.bind h (Ev.some _)
theorem Zt2 (b : BoardD) (hb : boardOK b = true) (hu : (unitsP b).length ≤ 16) : Ev (fun k => Z96 k b) (numB b, true) := by
 have hl := Zhl hb
 have hn : ¬ ((bitsP b.2.2 (unitsP b)).length : Int) > 16 := by rw [ZaU]; omega
 refine Ev.succ ?_
 simp only [Z96]
 refine Ev.bind (Zaz b (by omega)) ?_
 simp only [hb, Bool.not_true, Bool.false_eq_true, if_false]
 refine Ev.bind (ZhY b hb) ?_
 simp only [hn, decide_false, Bool.false_eq_true, if_false]
 exact Ev.bind (a := numB b) (Zc2 _ (ZeR (Z51 hb) (ZX b)) (by rw [ZaU]; omega)) (Ev.some _)
theorem ZsC (b : BoardD) (hb : boardOK b = true) (hu : (unitsP b).length ≤ 16) : Ev (fun k => Z9y k b) (numB b, true) := by
 have hl := Zhl hb
 have hn : ((unitsP b).length : Int) ≤ 16 := by omega
 have hs : Ev (fun k => Zdd k b) true := by
  refine Ev.succ ?_
  simp only [Zdd]
  refine Ev.bind (ZhX b (by omega)) ?_
  simp only [hb, if_true]
  refine Ev.bind (Z8a b hb) ?_
  simp only [hn, decide_true]
  exact Ev.some _
 refine Ev.succ ?_
 simp only [Z9y]
 refine Ev.bind hs ?_
 simp only [Bool.not_true, Bool.false_eq_true, if_false]
 exact Ev.bind (a := numB b) (Zcl b hb (by omega)) (Ev.some _)
theorem ZuS (b : BoardD) (hb : boardOK b = true) (c : Int) (hc : 0 ≤ c) (hc2 : c < b.2.1) : Ev (fun k => Zaf k b c) (afterB b c, true) := by
 have hl := Zhl hb
 obtain ⟨p, hdrop⟩ := Zne b hb (groupsOf b) (Z1W b) c hc hc2 b.2.2 rfl (Zn hb).2.2.2.2.2
 refine Ev.succ ?_
 simp only [Zaf]
 refine Ev.bind (ZiA b c (by omega)) ?_
 simp only [hb, hc, hc2, and_self, decide_true, Bool.true_and, Bool.not_true, Bool.false_eq_true, if_false]
 refine Ev.bind (Zb5 b (by omega)) (Ev.bind (Z8M b hb) (Ev.bind hdrop ?_))
 exact Ev.some _
theorem Zzl (b : BoardD) (t : List Int) (hok : entriesOK b t = true) : Ev (fun k => Zay k b t) ((runsOf b (groupsOf b) (kindsB b []) t b.2.2).1, (b.1, b.2.1, (runsOf b (groupsOf b) (kindsB b []) t b.2.2).2), true) := by
 obtain ⟨hb, ht, hc⟩ := Zyk hok
 have hl := Zhl hb
 refine Ev.succ ?_
 simp only [Zay]
 refine Ev.bind (a := entriesOK b t) (ZrV b t (by omega) (by omega)) ?_
 simp only [hok, Bool.not_true, Bool.false_eq_true, if_false]
 exact Ev.bind (ZzY b hb t (by omega) hc) (Ev.some _)
end Go.Proofs.Ytglkedenkcpcbaa.Vs

set_option linter.unusedVariables false
set_option linter.unusedSimpArgs false
namespace Go.Proofs.Ytglkedenkcpcbaa.Vs
open Go.RowKit
theorem ZEm (p q : List Int) : ∃ v, Ev (fun k => Zfo k p q) v := by
 cases h : gtS (p.length : Int) 1048576 with
 | true => exact ⟨true, Ev.succ (by simp only [Zfo, h, if_true]; exact Ev.some _)⟩
 | false => exact ⟨_, Ev.succ (by simp only [Zfo, h, Bool.false_eq_true, if_false]; exact Ev.some _)⟩
theorem ZiQ : ∀ (r s pre q : List Int), r.length = s.length → pre.length = q.length → (pre ++ r).length ≤ 1000000 → Ev (fun k => Z5m k (pre ++ r) (q ++ s) ((pre ++ r).length : Int) (pre.length : Int)) (if r = s then LR.go () else LR.ret false)
 | [], s, pre, q, h, hq, hl => by
  obtain rfl : s = [] := List.eq_nil_of_length_eq_zero h.symm
  refine Ev.succ ?_
  simp only [Z5m, Zm, decide_false, Bool.false_eq_true, if_false, if_true]
  exact Ev.some _
 | x :: r, [], pre, q, h, hq, hl => by simp at h
 | x :: r, y :: s, pre, q, h, hq, hl => by
  have ih := ZiQ r s (pre ++ [x]) (q ++ [y]) (by simpa using h) (by simpa using hq) (by simpa using hl)
  have l2 : (pre.length : Int) < ((q ++ y :: s).length : Int) := by rw [hq]; exact Zg _ _ _
  have g2 : List.getD (q ++ y :: s) pre.length 0 = y := by rw [hq]; exact Z7 _ _ _ _
  refine Ev.succ ?_
  simp only [Z5m, Zg, Zp, l2, decide_true, if_true, Int.toNat_natCast, Z7, g2]
  rw [Zb pre x r (by omega)]
  rw [← Z4, ← Z4] at ih
  refine Ev.ite (fun hh => ?_) (fun hh => ?_)
  ·simp only [decide_eq_true_eq] at hh
   rw [if_neg (fun he => hh (List.cons.inj he).1)]
   exact Ev.some _
  ·simp only [decide_eq_true_eq, Decidable.not_not] at hh
   refine ih.congr ?_
   simp [hh]
theorem Zyq (a c : List Int) (ha : a.length ≤ 1000000) : Ev (fun k => Zc8 k a c) (decide (a = c)) := by
 refine Ev.succ ?_
 simp only [Zc8]
 refine Ev.ite (fun h => ?_) (fun h => ?_)
 ·simp only [decide_eq_true_eq] at h
  rw [decide_eq_false (fun he => h (by rw [he]))]
  exact Ev.some _
 ·simp only [decide_eq_true_eq, Decidable.not_not] at h
  refine Ev.bind (ZiQ a c [] [] (by omega) rfl (by simpa using ha)) ?_
  by_cases he : a = c
  ·rw [if_pos he, decide_eq_true he]; exact Ev.go (Ev.some _)
  ·rw [if_neg he, decide_eq_false he]; exact Ev.ret (Ev.some _)
theorem ZFa (x y : Int × Int) : (decide (x.1 = y.1) && (decide (x.2 = y.2) && true)) = decide (x = y) := by
 rw [Bool.eq_iff_iff]
 simp [Prod.ext_iff]
theorem Zgg (a1 a2 c1 c2 : Int) : ∀ (r s pre q : List CellD), r.length = s.length → pre.length = q.length → (pre ++ r).length ≤ 2000000 → Ev (fun k => Z49 k a1 a2 (pre ++ r) c1 c2 (q ++ s) ((pre ++ r).length : Int) (pre.length : Int)) (if r = s then LR.go () else LR.ret false)
 | [], s, pre, q, h, hq, hl => by
  obtain rfl : s = [] := List.eq_nil_of_length_eq_zero h.symm
  refine Ev.succ ?_
  simp only [Z49, Zm, decide_false, Bool.false_eq_true, if_false, if_true]
  exact Ev.some _
 | x :: r, [], pre, q, h, hq, hl => by simp at h
 | x :: r, y :: s, pre, q, h, hq, hl => by
  have ih := Zgg a1 a2 c1 c2 r s (pre ++ [x]) (q ++ [y]) (by simpa using h) (by simpa using hq) (by simpa using hl)
  have l2 : (pre.length : Int) < ((q ++ y :: s).length : Int) := by rw [hq]; exact Zg _ _ _
  have g2 : List.getD (q ++ y :: s) pre.length (0, 0) = y := by rw [hq]; exact Z7 _ _ _ _
  refine Ev.succ ?_
  simp only [Z49, Zg, Zp, l2, decide_true, if_true, Int.toNat_natCast, Z7, g2, ZFa]
  rw [Zb pre x r (by omega)]
  rw [← Z4, ← Z4] at ih
  by_cases hh : x = y
  ·simp only [hh, decide_true, Bool.not_true, Bool.false_eq_true, if_false]
   rw [hh] at ih
   refine ih.congr ?_
   simp
  ·simp only [hh, decide_false, Bool.not_false, if_true]
   rw [if_neg (fun he => hh (List.cons.inj he).1)]
   exact Ev.some _
theorem Z7O (a c : BoardD) (ha : a.2.2.length ≤ 2000000) : Ev (fun k => Z2M k a c) (decide (a = c)) := by
 refine Ev.succ ?_
 simp only [Z2M]
 refine Ev.ite (fun h => ?_) (fun h1 => Ev.ite (fun h => ?_) (fun h2 => Ev.ite (fun h => ?_) (fun h3 => ?_)))
 ·simp only [decide_eq_true_eq] at h
  rw [decide_eq_false (fun he => h (by rw [he]))]
  exact Ev.some _
 ·simp only [decide_eq_true_eq] at h
  rw [decide_eq_false (fun he => h (by rw [he]))]
  exact Ev.some _
 ·simp only [decide_eq_true_eq] at h
  rw [decide_eq_false (fun he => h (by rw [he]))]
  exact Ev.some _
 ·simp only [decide_eq_true_eq, Decidable.not_not] at h1 h2 h3
  refine Ev.bind (Zgg a.1 a.2.1 c.1 c.2.1 a.2.2 c.2.2 [] [] (by omega) rfl (by simpa using ha)) ?_
  by_cases he : a.2.2 = c.2.2
  ·have : a = c := Prod.ext h1 (Prod.ext h2 he)
   rw [if_pos he, decide_eq_true this]; exact Ev.go (Ev.some _)
  ·rw [if_neg he, decide_eq_false (fun e => he (by rw [e]))]; exact Ev.ret (Ev.some _)
theorem ZfI : ∀ (r pre : List BoardD), (pre ++ r).length ≤ 1000000 → (∀ x ∈ r, x.2.2.length ≤ 1000000) → Ev (fun k => Z3A k (pre ++ r) (pre ++ r) ((pre ++ r).length : Int) (pre.length : Int)) (LR.go ())
 | [], pre, hl, hx => by
  refine Ev.succ ?_
  simp only [Z3A, Zm, decide_false, Bool.false_eq_true, if_false]
  exact Ev.some _
 | x :: r, pre, hl, hx => by
  have ih := ZfI r (pre ++ [x]) (by simpa using hl) (fun y hy => hx y (List.mem_cons_of_mem _ hy))
  refine Ev.succ ?_
  simp only [Z3A, Zg, Zp, decide_true, if_true, Int.toNat_natCast, Z7]
  rw [Zb pre x r (by omega)]
  rw [← Z4] at ih
  refine Ev.bind (Z7O x x (by have := hx x (List.mem_cons_self ..); omega)) ?_
  simp only [decide_true, Bool.not_true, Bool.false_eq_true, if_false]
  exact ih
theorem Zt3 (l : List BoardD) (hl : l.length ≤ 1000000) (hx : ∀ x ∈ l, x.2.2.length ≤ 1000000) : Ev (fun k => Z9r k l l) true := by
 refine Ev.succ ?_
 simp only [Z9r, ne_eq, not_true_eq_false, decide_false, Bool.false_eq_true, if_false]
 exact Ev.bind (ZfI l [] (by simpa using hl) hx) (Ev.go (Ev.some _))
theorem Zsk (x : Int) : ∀ (r pre : List Int), (pre ++ r).length ≤ 1000000 → Ev (fun k => ZaI k x (pre ++ r) ((pre ++ r).length : Int) (pre.length : Int)) (if x ∈ r then LR.ret true else LR.go ())
 | [], pre, hl => by
  refine Ev.succ ?_
  simp only [ZaI, Zm, decide_false, Bool.false_eq_true, if_false, List.not_mem_nil]
  exact Ev.some _
 | y :: r, pre, hl => by
  have ih := Zsk x r (pre ++ [y]) (by simpa using hl)
  refine Ev.succ ?_
  simp only [ZaI, Zg, Zp, decide_true, if_true, Int.toNat_natCast, Z7]
  rw [Zb pre y r (by omega)]
  rw [← Z4] at ih
  by_cases h : y = x
  ·simp only [h, decide_true, if_true, List.mem_cons, true_or]; exact Ev.some _
  ·have h' : ¬ x = y := fun e => h e.symm
   simp only [h, decide_false, Bool.false_eq_true, if_false]
   refine ih.congr ?_
   simp [h']
theorem ZEs (l : List Int) (x : Int) (hl : l.length ≤ 1000000) : Ev (fun k => Zjh k l x) (decide (x ∈ l)) := by
 refine Ev.succ ?_
 simp only [Zjh]
 refine Ev.bind (Zsk x l [] (by simpa using hl)) ?_
 by_cases h : x ∈ l
 ·rw [if_pos h, decide_eq_true h]; exact Ev.ret (Ev.some _)
 ·rw [if_neg h, decide_eq_false h]; exact Ev.go (Ev.some _)
end Go.Proofs.Ytglkedenkcpcbaa.Vs

set_option linter.unusedVariables false
set_option linter.unusedSimpArgs false
namespace Go.Proofs.Ytglkedenkcpcbaa.Vs
open Go.RowKit
theorem Zfb (b : BoardD) (hb : boardOK b = true) (hu : (unitsP b).length ≤ 10) : ∀ (r pre : List Int) (w : List BoardD), (∀ n ∈ r, 0 ≤ n ∧ n < 2 ^ (unitsP b).length) → w.length ≤ pre.length → (pre ++ r).length ≤ 1000000 → Ev (fun k => Z3a k b.1 b.2.1 b.2.2 w (pre ++ r) ((pre ++ r).length : Int) (pre.length : Int)) (w ++ r.map (inState b))
 | [], pre, w, hr, hw, hl => by
  refine Ev.succ ?_
  simp only [Z3a, Zm, decide_false, Bool.false_eq_true, if_false]
  exact (Ev.some _).congr (by simp)
 | n :: r, pre, w, hr, hw, hl => by
  obtain ⟨n0, n1⟩ := hr n (List.mem_cons_self ..)
  have hp := Z7F hu
  have hn40 : n < 1099511627776 := by rw [← Z7s] at n1; exact Int.lt_of_lt_of_le n1 (by omega)
  have hwl : w.length + 1 ≤ 140737488355328 / 40 := by simp at hl; omega
  have ih := Zfb b hb hu r (pre ++ [n]) (w ++ [inState b n]) (fun m hm => hr m (List.mem_cons_of_mem _ hm)) (by simp; omega) (by simpa using hl)
  rw [← Z4] at ih
  refine Ev.succ ?_
  simp only [Z3a, Zg, Zp, decide_true, if_true, Int.toNat_natCast, Z7]
  refine Ev.bind (ZmH b hb (by omega) n n0 hn40) ?_
  simp only [List.length_singleton, hwl, if_true]
  rw [Zb pre n r (by omega)]
  refine ih.congr ?_
  simp
theorem ZpP (b : BoardD) (hu : (unitsP b).length ≤ 10) (c : Int) : (beforeN b c).length ≤ 1024 := by
 have h1 := ZpK (numB b) (nextL b c) 0
 have h2 := Z4T b hu c
 unfold beforeN
 omega
theorem Zrp (b : BoardD) (c : Int) (h0 : b.2.2.length ≤ 9223372036854775806) : Ev (fun k => Z8D k b c) (Z3B b c) := by
 refine Ev.succ ?_
 simp only [Z8D]
 unfold Z3B
 refine Ev.bind (ZcP b c h0) ?_
 cases g0 : backOK b c with
 | false => simp only [Bool.not_false, if_true, Bool.false_eq_true, if_false]; exact Ev.some _
 | true =>
  obtain ⟨hb, k1, k2, hu⟩ := Zam g0
  have hs := Z4T b hu c
  have hbl := ZpP b hu c
  simp only [Bool.not_true, Bool.false_eq_true, if_false, if_true]
  refine Ev.bind (Zev b hb hu c k1 k2) (Ev.bind (a := numB b) (Zcl b hb (by omega)) (Ev.bind (a := beforeN b c) (Zci _ _ (by omega)) ?_))
  exact Ev.bind (Zfb b hb hu (beforeN b c) [] [] (ZAy b c) (Nat.le_refl _) (by simp; omega)) (Ev.some _)
theorem ZE4 (b : BoardD) (c : Int) : (Z3B b c).1.length ≤ 1024 ∧ ∀ x ∈ (Z3B b c).1, x.2.2.length ≤ 90 := by
 unfold Z3B
 split
 ·rename_i h
  obtain ⟨hb, k1, k2, hu⟩ := Zam h
  obtain ⟨g1, g2, g3, g4, g5, g6⟩ := Zn hb
  have hpp := Zu g1 g2 g3 g4
  refine ⟨by simpa using ZpP b hu c, fun x hx => ?_⟩
  obtain ⟨n, hn, rfl⟩ := List.mem_map.1 hx
  simp only [inState, Z7Y]
  omega
 ·simp
end Go.Proofs.Ytglkedenkcpcbaa.Vs

set_option linter.unusedVariables false
set_option linter.unusedSimpArgs false
namespace Go.Proofs.Ytglkedenkcpcbaa.Vs
open Go.RowKit
theorem Zod (b : BoardD) (hlb : b.2.2.length ≤ 1000) (v1 : List Int) (c : Int) : ∀ (r pre : List BoardD), (∀ x ∈ r, boardOK x = true ∧ 0 ≤ c ∧ c < x.2.1 ∧ afterB x c = b) → (pre ++ r).length ≤ 1000000 → Ev (fun k => Z4b k b.1 b.2.1 b.2.2 (pre ++ r) v1 c ((pre ++ r).length : Int) (pre.length : Int)) (LR.go v1)
 | [], pre, hr, hl => by
  refine Ev.succ ?_
  simp only [Z4b, Zm, decide_false, Bool.false_eq_true, if_false]
  exact Ev.some _
 | x :: r, pre, hr, hl => by
  have ih := Zod b hlb v1 c r (pre ++ [x]) (fun y hy => hr y (List.mem_cons_of_mem _ hy)) (by simpa using hl)
  obtain ⟨hx, c0, c1, ha⟩ := hr x (List.mem_cons_self ..)
  have e := ZuS x hx c c0 c1
  rw [ha] at e
  refine Ev.succ ?_
  simp only [Z4b, Zg, Zp, decide_true, if_true, Int.toNat_natCast, Z7]
  rw [Zb pre x r (by omega)]
  rw [← Z4] at ih
  refine Ev.bind e ?_
  simp only [Bool.not_true, Bool.false_eq_true, if_false]
  refine Ev.bind (Z7O b b (by omega)) ?_
  simp only [decide_true, Bool.not_true, Bool.false_eq_true, if_false]
  exact ih
theorem ZeP : Ev (fun k => Z4K k) true := by
 simp only [Z4K]
 exact Ev.some _
theorem ZFn {b : BoardD} {t : List Int} (h : undoOK b t = true) : boardOK b = true ∧ (unitsP b).length ≤ 10 ∧ t.length ≤ 20 ∧ ∀ n ∈ t, 0 ≤ n ∧ n < b.2.1 := by
 unfold undoOK at h
 simp only [Bool.and_eq_true, decide_eq_true_eq, List.all_eq_true] at h
 obtain ⟨⟨⟨h1, h2⟩, h3⟩, h4⟩ := h
 exact ⟨h1, h2, h3, fun n hn => by have := h4 n hn; omega⟩
theorem ZCO {b : BoardD} {t : List Int} (h : undoOK b t = true) {n : Int} (hn : undoP b t.reverse (numB b) = some n) : Ev (fun k => Zay k (inState b n) t) ((runsOf (inState b n) (groupsOf (inState b n)) (kindsB (inState b n) []) t (stateN b n)).1, b, true) := by
 obtain ⟨hb, hu, ht, hc⟩ := ZFn h
 have hok : entriesOK (inState b n) t = true := by
  unfold entriesOK
  rw [show boardOK (inState b n) = true from Zla b hb n]
  simp only [Bool.true_and, Bool.and_eq_true, decide_eq_true_eq, List.all_eq_true]
  exact ⟨by omega, fun c hcm => hc c hcm⟩
 have e := Zzl (inState b n) t hok
 have hs := ZAn b t.reverse (numB b) n hn
 rw [List.reverse_reverse] at hs
 have hr := ZFl b hb n t
 rw [hs, Zmo b hb] at hr
 have hr2 : (runsOf (inState b n) (groupsOf (inState b n)) (kindsB (inState b n) []) t (inState b n).2.2).2 = b.2.2 := hr
 rw [hr2] at e
 exact e
theorem ZjN (p1 : List Int) (c1 : Cur p1 0 6000) : Ev (fun k => Z4y k p1) true := by
 obtain ⟨⟨u, t⟩, e0, g1, g2⟩ := Zv4 p1 c1
 simp only at g1 g2
 simp only [Z4y]
 have hul := ZEX u (by omega) t
 refine Ev.bind e0 (Ev.bind (Zu8 u t (by omega) (by omega)) (Ev.bind (Ztf u t (by omega) (by omega)) ?_))
 simp only [beq_self_eq_true, Bool.not_true, Bool.false_eq_true, if_false]
 refine Ev.bind (Z7O _ _ (by dsimp only; omega)) ?_
 simp only [decide_true, Bool.not_true, Bool.false_eq_true, if_false]
 unfold Z7u
 cases hok : undoOK u t with
 | false =>
  simp only [Bool.false_eq_true, if_false]
  exact Ev.bind ZeP (Ev.some _)
 | true =>
  simp only [if_true]
  cases hn : undoP u t.reverse (numB u) with
  | none =>
   simp only [Bool.false_eq_true, if_false]
   exact Ev.bind ZeP (Ev.some _)
  | some n =>
   simp only [if_true]
   refine Ev.bind (ZCO hok hn) ?_
   simp only [Bool.not_true, Bool.false_eq_true, if_false]
   refine Ev.bind (Z7O _ _ (by dsimp only; omega)) ?_
   simp only [decide_true, Bool.not_true, Bool.false_eq_true, if_false]
   exact Ev.bind ZeP (Ev.some _)
theorem Zxs (b : BoardD) (c : Int) (g0 : backOK b c = true) (p1 : List Int) (c1 : Cur p1 0 6000) : Ev (fun k => Z1c k b.1 b.2.1 b.2.2 ((beforeN b c).map (inState b)) (firstL (nextL b c)) p1 c true) true := by
 obtain ⟨hb, k1, k2, hu⟩ := Zam g0
 have hs := Z4T b hu c
 have hf := ZAl (nextL b c)
 have hl := Zhl hb
 have hbl := ZpP b hu c
 simp only [Z1c, if_true]
 refine Ev.bind (Zt2 b hb (by omega)) (Ev.bind (ZsC b hb (by omega)) ?_)
 simp only [Bool.not_true, Bool.false_eq_true, if_false, ne_eq, not_true_eq_false, decide_false]
 refine Ev.bind (ZEs (firstL (nextL b c)) (numB b) (by omega)) ?_
 have e : decide ((((beforeN b c).map (inState b)).length : Int) = 0) = decide (numB b ∈ firstL (nextL b c)) := by
  rw [decide_eq_decide, ZCR b hb c, List.length_map]
  constructor
  ·intro h; exact List.eq_nil_of_length_eq_zero (by omega)
  ·intro h; rw [h]; rfl
 simp only [e, beq_self_eq_true, Bool.not_true, Bool.false_eq_true, if_false]
 have h0 := Zod b (by omega) p1 c ((beforeN b c).map (inState b)) [] (fun x hx => by
  obtain ⟨n, hn, rfl⟩ := List.mem_map.1 hx
  exact ⟨Zla b hb n, k1, k2, ZBY b hb c hn⟩) (by rw [List.nil_append, List.length_map]; omega)
 simp only [List.nil_append, List.length_nil, Int.natCast_zero] at h0
 refine Ev.bind h0 ?_
 exact Ev.go (Ev.bind (ZjN p1 c1) (Ev.some _))
theorem ZEZ (b : BoardD) (c : Int) : (ZhJ b c).2 = decide (((beforeN b c).length : Int) = 1) := by
 unfold ZhJ
 match beforeN b c with
 | [] => rfl
 | [n] => rfl
 | n :: m :: s =>
  simp only [List.length_cons]
  rw [eq_comm, decide_eq_false_iff_not]
  omega
theorem Zzs (p0 p1 : List Int) (h0 : p0.length ≤ 9223372036854775807) (b0 : ∀ x ∈ p0, 0 ≤ x ∧ x ≤ 255) (h1 : p1.length ≤ 9223372036854775807) (b1 : ∀ x ∈ p1, 0 ≤ x ∧ x ≤ 255) : Ev (fun k => ZdF k p0 p1) true := by
 have c0 : Cur p0 0 6000 := ⟨b0, h0, by omega, by omega⟩
 have c1 : Cur p1 0 6000 := ⟨b1, h1, by omega, by omega⟩
 obtain ⟨v, hv⟩ := ZEm p0 p1
 refine Ev.succ ?_
 simp only [ZdF]
 refine Ev.bind hv ?_
 refine Ev.ite (fun _ => Ev.some _) (fun _ => ?_)
 obtain ⟨⟨b, c⟩, e0, g1⟩ := Zs0 p0 c0
 simp only at g1
 have hol := ZFj b (by omega) c
 have hbs := ZE4 b c
 refine Ev.bind e0 (Ev.bind (Zgt b c (by omega)) (Ev.bind (Zrp b c (by omega)) (Ev.bind (ZvQ b c (by omega)) (Ev.bind (Zvl b c (by omega)) (Ev.bind (Zrt b c (by omega)) (Ev.bind (Zra b c (by omega)) (Ev.bind (a := true) ?_ (Ev.some _))))))))
 simp only [ZaB]
 refine Ev.bind (ZsX b c (by omega)) (Ev.bind (ZtB b c (by omega)) ?_)
 simp only [beq_self_eq_true, Bool.not_true, Bool.false_eq_true, if_false]
 refine Ev.bind (Zt3 _ (by omega) (fun x hx => by have := hbs.2 x hx; omega)) ?_
 simp only [Bool.not_true, Bool.false_eq_true, if_false]
 refine Ev.bind (Z7O _ _ (by dsimp only; omega)) ?_
 simp only [decide_true, Bool.not_true, Bool.false_eq_true, if_false]
 have hfl : (Z7w b c).1.length ≤ 1000000 := by
  unfold Z7w
  cases g0 : backOK b c with
  | false => simp
  | true =>
   obtain ⟨hb, k1, k2, hu⟩ := Zam g0
   have hs := Z4T b hu c
   have hf := ZAl (nextL b c)
   simp only [if_true]
   omega
 refine Ev.bind (Zyq _ _ hfl) ?_
 simp only [decide_true, Bool.not_true, Bool.false_eq_true, if_false]
 unfold Z3B Z8n Zan Z7w
 cases g0 : backOK b c with
 | false =>
  simp only [Bool.false_eq_true, if_false, beq_self_eq_true, Bool.not_true]
  simp only [Z1c, Bool.false_eq_true, if_false]
  exact Ev.bind (Ev.bind (ZjN p1 c1) (Ev.some _)) (Ev.some _)
 | true =>
  obtain ⟨hb, k1, k2, hu⟩ := Zam g0
  have er : runsB (nextL b c) = decide (((firstL (nextL b c)).length : Int) = 0) := by
   rw [ZEh (Zkc b hb c), decide_eq_decide]
   omega
  simp only [if_true, ZEZ, List.length_map, er, beq_self_eq_true, Bool.not_true, Bool.false_eq_true, if_false]
  exact Ev.bind (Zxs b c g0 p1 c1) (Ev.some _)
end Go.Proofs.Ytglkedenkcpcbaa.Vs
