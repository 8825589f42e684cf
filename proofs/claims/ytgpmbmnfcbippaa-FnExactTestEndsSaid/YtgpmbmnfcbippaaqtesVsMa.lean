/- Regions whose order is drawn: every order leads to a result that was told. -/
import Derived.Test.YtgpmbmnfcbippaaqtesVsM
set_option linter.unusedVariables false
set_option linter.unusedSimpArgs false
namespace Go.Proofs.Ytgpmbmnfcbippaa.Vs
open Go.RowKit

/-! ### Whatever order is picked: what is quiet leaves what was there as it was -/
section
variable {P : Program} {ops : Array Oper} {Q : Exit → Act → World → Prop} {md : Region.Mode} {qt : Nat → Bool}
def wpAnyR (P : Program) (md : Region.Mode) (ops : Array Oper) (Q : Exit → Act → World → Prop) (qt : Nat → Bool) : Nat → Array Bool → Act → World → Prop
  | 0, listed, a, w => Region.ready md ops listed = [] ∧ Q .normal a w
  | fuel + 1, listed, a, w =>
    (Region.ready md ops listed = [] → Q .normal a w) ∧
    ∀ i ∈ Region.ready md ops listed, wpOp P ops Q i (fun a' w' => (qt i = true → Same w w') ∧ wpAnyR P md ops Q qt fuel (listed.setIfInBounds i true) a' w') a w
theorem wpAny_of_listed : ∀ (fuel : Nat) (listed : Array Bool) (a : Act) (w : World), wpAnyR P md ops Q qt fuel listed a w → wpAny P md ops Q fuel listed a w
  | 0, _, _, _, h => h
  | fuel + 1, _, _, _, h => ⟨h.1, fun i hi => wpOp_mono (fun a' w' h' => wpAny_of_listed fuel _ a' w' h'.2) (h.2 i hi)⟩
theorem Same.trans {w w1 w2 : World} (h : Same w w1) (h2 : Same w1 w2) : Same w w2 := Chg.trans h h2 (fun _ hf => hf.elim)
/-- What has come up came up behind all that it waits for. -/
structure Shut (md : Region.Mode) (ops : Array Oper) (l : Array Bool) : Prop where
  size : l.size = ops.size
  at_ : ∀ (j : Nat) o, ops[j]? = some o → l.getD j false = true → ∀ e ∈ o.after, Region.binds md e = true → l.getD e.on false = true
theorem getD_set_false {l : Array Bool} {i j : Nat} (h : (l.setIfInBounds i true).getD j false = true) : j = i ∨ l.getD j false = true := by
  by_cases hij : i = j
  · exact .inl hij.symm
  · rw [getD_set_ne false hij] at h
    exact .inr h
theorem Shut.set {l : Array Bool} {i : Nat} (h : Shut md ops l) (hi : i ∈ Region.ready md ops l) : Shut md ops (l.setIfInBounds i true) := by
  obtain ⟨_, oi, hoi, hall⟩ := mem_ready.1 hi
  refine ⟨by simp [h.size], fun j o ho hj e he hb => getD_set_true ?_⟩
  rcases getD_set_false hj with rfl | hj
  · rw [hoi] at ho
    injection ho with ho
    subst ho
    exact hall e he hb
  · exact h.at_ j o ho hj e he hb
theorem wpAnyR_first {i : Nat} {oi : Oper} {v : Value} {ld : Bool} (hi : ops[i]? = some oi) (hsel : ∀ (j : Nat) (o : Oper) cs b, ops[j]? = some o → o.op ≠ .select cs b)
    (hQ : ∀ c a w, Q (.panic c) (a.put oi.dst v) w → Q (.panic c) a w) :
    ∀ (fuel : Nat) (listed : Array Bool) (a : Act) (w : World), Shut md ops listed →
      (∀ l j, Shut md ops l → (∀ k, listed.getD k false = true → l.getD k false = true) → l.getD i true = false → j ∈ Region.ready md ops l → j ≠ i → ld = true → qt j = true) →
      (∀ j oj, ops[j]? = some oj → j ≠ i → listed.getD j true = false → (∀ e ∈ oj.after, Region.binds md e = true → e.on ≠ i) → oi.apart ops oj = true) →
      i ∈ Region.ready md ops listed → YieldsIf P ops (fun w' => ld = true → Same w w') oi v a →
      wpAnyR P md ops Q qt fuel (listed.setIfInBounds i true) (a.put oi.dst v) w → wpAnyR P md ops Q qt (fuel + 1) listed a w := by
  intro fuel
  induction fuel with
  | zero =>
    intro listed a w hG _ _ hr hy H
    refine ⟨fun h => (by rw [h] at hr; cases hr), fun j hj => ?_⟩
    by_cases hji : j = i
    · subst hji; exact hy.wpOp hi (fun _ => .refl w) ⟨fun _ => .refl w, H⟩
    · have := ready_mono hj hji
      rw [H.1] at this
      cases this
  | succ fuel ih =>
    intro listed a w hG hqt hfree hr hy H
    refine ⟨fun h => (by rw [h] at hr; cases hr), fun j hj => ?_⟩
    by_cases hji : j = i
    · subst hji; exact hy.wpOp hi (fun _ => .refl w) ⟨fun _ => .refl w, H⟩
    · have h1 := H.2 j (ready_mono hj hji)
      obtain ⟨hjun, oj, hoj, hall⟩ := mem_ready.1 hj
      have hnot : ∀ e ∈ oj.after, Region.binds md e = true → e.on ≠ i := fun e he hb heq => by
        have h1 := hall e he hb
        have h0 := (mem_ready.1 hr).1
        rw [heq] at h1
        rcases Nat.lt_or_ge i listed.size with h' | h'
        · simp [h'] at h0 h1; rw [h0] at h1; cases h1
        · simp [Array.getElem?_eq_none h'] at h1
      have h2 := wpOp_putIf hoj (hfree j oj hoj hji hjun hnot) (fun cs b => hsel i oi cs b hi) (fun cs b => hsel j oj cs b hoj) hQ hy h1
      have hfree' : ∀ k ok, ops[k]? = some ok → k ≠ i → (listed.setIfInBounds j true).getD k true = false →
          (∀ e ∈ ok.after, Region.binds md e = true → e.on ≠ i) → oi.apart ops ok = true := fun k ok hk hki hun hno => by
        refine hfree k ok hk hki ?_ hno
        by_cases hjk : j = k
        · subst hjk; exact hjun
        · rw [getD_set_ne true hjk] at hun; exact hun
      refine wpOp_mono (fun a' w' h3 => ?_) h2
      have hcomm : (listed.setIfInBounds i true).setIfInBounds j true = (listed.setIfInBounds j true).setIfInBounds i true := Array.setIfInBounds_comm _ _ (Ne.symm hji)
      have hq : ld = true → qt j = true := hqt listed j hG (fun _ hk => hk) (mem_ready.1 hr).1 hj hji
      refine ⟨h3.2.1, ih (listed.setIfInBounds j true) a' w' (hG.set hj) (fun l j' hl hsub => hqt l j' hl (fun k hk => hsub k (getD_set_true hk))) hfree' (ready_mono hr (Ne.symm hji)) ?_ ?_⟩
      · exact h3.1.imp (fun ⟨x, y⟩ => ⟨x, fun w'' hw => y w'' (fun hld => (h3.2.1 (hq hld)).trans (hw hld))⟩) id
      · rw [← hcomm]
        exact h3.2.2
/-- Which of the operations wait for number i, at some steps' distance. -/
def marksTo (md : Region.Mode) (i : Nat) : List Oper → List Bool → List Bool
  | [], acc => acc
  | o :: r, acc => marksTo md i r (acc ++ [o.after.toList.any fun e => Region.binds md e && (e.on == i || acc.getD e.on false)])
def waits (md : Region.Mode) (ops : Array Oper) (j i : Nat) : Bool := (marksTo md i ops.toList []).getD j false
theorem marksTo_sound {l : Array Bool} (h : Shut md ops l) {i : Nat} : ∀ (r : List Oper) (acc : List Bool), ops.toList.drop acc.length = r → (∀ j, acc.getD j false = true → l.getD j false = true → l.getD i false = true) →
    ∀ j, (marksTo md i r acc).getD j false = true → l.getD j false = true → l.getD i false = true
  | [], acc, _, ha, j, hj, hl => ha j hj hl
  | o :: r, acc, hr, ha, j, hj, hl => by
    have ho : ops[acc.length]? = some o := by
      rw [← Array.getElem?_toList]
      have := congrArg (fun x => x[0]?) hr
      simpa using this
    refine marksTo_sound h r _ ?_ ?_ j hj hl
    · have := congrArg List.tail hr
      rw [List.tail_drop] at this
      rw [List.length_append]
      exact this
    · intro j' hj' hl'
      simp only [List.getD_eq_getElem?_getD] at hj'
      rcases Nat.lt_or_ge j' acc.length with h1 | h1
      · rw [List.getElem?_append_left h1] at hj'
        exact ha j' (by simpa [List.getD_eq_getElem?_getD] using hj') hl'
      · rw [List.getElem?_append_right h1] at hj'
        rcases Nat.eq_or_lt_of_le h1 with h2 | h2
        · subst h2
          simp only [Nat.sub_self, List.getElem?_cons_zero, Option.getD_some] at hj'
          obtain ⟨e, he, h3⟩ := List.any_eq_true.1 hj'
          simp only [Bool.and_eq_true, Bool.or_eq_true, beq_iff_eq] at h3
          have h4 := h.at_ _ o ho hl' e (by simpa using he) h3.1
          rcases h3.2 with h5 | h5
          · rw [← h5]; exact h4
          · exact ha _ h5 h4
        · rw [List.getElem?_eq_none (by simp; omega)] at hj'
          cases hj'
theorem waits_listed {l : Array Bool} (h : Shut md ops l) {i j : Nat} (h1 : waits md ops j i = true) (hj : l.getD j false = true) : l.getD i false = true :=
  marksTo_sound h ops.toList [] (by simp) (fun j hj => by simp at hj) j h1 hj
end

/-! ### The machine -/
def mayWrite (G : Env) (o : Oper) : Bool := !(pureOp o.op || stillOp G o.op)
/-- Number i may be taken first. -/
def loadFirst (G : Env) (ops : Array Oper) (listed : Array Bool) (i : Nat) : Bool := (List.range ops.size).all fun j => match ops[j]? with
  | some oj => !mayWrite G oj || (!listed.getD j false && waits .any ops j i)
  | none => true
def canTake (G : Env) (ops : Array Oper) (listed : Array Bool) (i : Nat) : Bool := match ops[i]? with
  | some o => pureOp o.op && Region.free .any ops listed i && (!isLoad o.op || loadFirst G ops listed i)
  | none => false
def nextTake (G : Env) (ops : Array Oper) (listed : Array Bool) : Option Nat := (Region.ready .any ops listed).find? (canTake G ops listed)
section
variable {γ : Type}
def joinL (x y : Option (List γ)) : Option (List γ) := match x, y with
  | some a, some b => some (a ++ b)
  | _, _ => none
def wayOf (f : Nat → Option (List γ)) : List Nat → Option (List γ)
  | [] => none
  | [i] => f i
  | i :: j :: l => joinL (f i) (wayOf f (j :: l))
def execT (G : Env) (step : {δ : Type} → Oper → St → (St → Option δ) → Option δ) (ops : Array Oper) : Nat → Array Bool → St → (St → Option γ) → Option (List γ)
  | 0, listed, st, K => match Region.ready .any ops listed with
    | [] => match K st with
      | some r => some [r]
      | none => none
    | _ => none
  | n + 1, listed, st, K => match nextTake G ops listed with
    | some i => match ops[i]? with
      | some o => execOps step ops [o] st fun st1 => execT G step ops n (listed.setIfInBounds i true) st1 K
      | none => none
    | none => match Region.ready .any ops listed with
      | [] => match K st with
        | some r => some [r]
        | none => none
      | rs => wayOf (fun i => match ops[i]? with
        | some o => execOps step ops [o] st fun st1 => execT G step ops n (listed.setIfInBounds i true) st1 K
        | none => none) rs
end
/-! In one order, where that is as good as any. -/
def needMask (o : Oper) : Nat := o.after.toList.foldl (fun m e => if Region.binds .any e then m ||| (1 <<< e.on) else m) 0
/-- Those that may come up, those that only look first. -/
def nextOrd (listed : Nat) : List (Nat × Nat × Bool) → Option Nat → Option Nat
  | [], d => d
  | (i, m, p) :: l, d => if !listed.testBit i && (m &&& listed) == m then (if p then some i else nextOrd listed l (d.or (some i))) else nextOrd listed l d
def ordGo (l : List (Nat × Nat × Bool)) : Nat → Nat → List Nat
  | 0, _ => []
  | n + 1, listed => match nextOrd listed l none with
    | some i => i :: ordGo l n (listed ||| (1 <<< i))
    | none => []
def numbered : Nat → List Oper → List (Nat × Nat × Bool)
  | _, [] => []
  | i, o :: l => (i, needMask o, pureOp o.op) :: numbered (i + 1) l
def drawOrd (ops : Array Oper) : List Nat := ordGo (numbered 0 ops.toList) ops.size 0
def takeAt (G : Env) (ops : Array Oper) (i : Nat) (o : Oper) (rest : List Nat) : Bool := pureOp o.op &&
  (rest.all fun j => match ops[j]? with
    | some oj => oj.after.any (fun e => Region.binds .any e && e.on == i) || o.apart ops oj
    | none => true) &&
  (!isLoad o.op || (List.range ops.size).all fun j => match ops[j]? with
    | some oj => !mayWrite G oj || (rest.contains j && waits .any ops j i)
    | none => true)
def aloneAt (ops : Array Oper) (i : Nat) (rest : List Nat) : Bool := rest.all fun j => match ops[j]? with
  | some oj => oj.after.toList.any fun e => Region.binds .any e && (i :: rest).contains e.on
  | none => true
def ordOK (G : Env) (ops : Array Oper) : List Nat → Bool
  | [] => true
  | i :: rest => (match ops[i]? with
    | some o => !rest.contains i && (o.after.toList.all fun e => !Region.binds .any e || (decide (e.on < ops.size) && !(i :: rest).contains e.on)) && (takeAt G ops i o rest || aloneAt ops i rest)
    | none => false) && ordOK G ops rest
def drawOK (G : Env) (ops : Array Oper) : Bool := Region.noSelect ops && (List.range ops.size).all (drawOrd ops).contains && ordOK G ops (drawOrd ops)
def pickOps (ops : Array Oper) : List Nat → List Oper
  | [] => []
  | i :: r => match ops[i]? with
    | some o => o :: pickOps ops r
    | none => pickOps ops r
section
variable {P : Program} {w w1 w0 : World} {S0 : Own} {st : St} {μ : List ORec} {a : Act}
theorem wayOf_mem {γ : Type} {f : Nat → Option (List γ)} : ∀ {rs : List Nat} {zs : List γ}, wayOf f rs = some zs → ∀ i ∈ rs, ∃ xs, f i = some xs ∧ ∀ x ∈ xs, x ∈ zs
  | [], _, h, _, hi => by cases hi
  | [j], zs, h, i, hi => by
    rw [List.mem_singleton.1 hi]
    exact ⟨zs, h, fun x hx => hx⟩
  | j :: j' :: l, zs, h, i, hi => by
    simp only [wayOf, joinL] at h
    split at h
    · rename_i x y hx hy
      injection h with h
      subst h
      rcases List.mem_cons.1 hi with rfl | hi
      · exact ⟨x, hx, fun z hz => List.mem_append.2 (.inl hz)⟩
      · obtain ⟨xs, h1, h2⟩ := wayOf_mem hy i hi
        exact ⟨xs, h1, fun z hz => List.mem_append.2 (.inr (h2 z hz))⟩
    · cases h
/-- One operation of a region, with its guard. -/
theorem one_op {γ : Type} {step : Oper → St → (St → Option γ) → Option γ} {ops : Array Oper} {o : Oper} {K : St → Option γ} {r : γ} (h : Rel w0 S0 st μ a w) (hk : execOps step ops [o] st K = some r) :
    (Region.wanted o (yielded ops a.tmps) = true ∧ ∃ st2, Rel w0 S0 st2 μ a w ∧ step o st2 K = some r) ∨ (Region.wanted o (yielded ops a.tmps) = false ∧ ∃ st2, Rel w0 S0 st2 μ (a.put o.dst undef) w ∧ K st2 = some r) := by
  simp only [execOps] at hk
  split at hk
  · rename_i hg
    exact .inl ⟨by unfold Region.wanted; rw [hg], st, h, hk⟩
  · rename_i j want hg
    have hwant : ∀ y, yielded ops a.tmps j = y → Region.wanted o (yielded ops a.tmps) = (y == some want) := by
      intro y hy
      unfold Region.wanted
      rw [hg]
      simp only [hy]
    split at hk
    · cases hk
    · rename_i d hd
      split at hk
      · rename_i b hb
        have hlt := (List.getElem?_eq_some_iff.1 hb).1
        have hv : a.tmps.getD d undef = .bool b := (h.tv d _ hb).1
        have hy := yielded_at hd h hlt
        rw [hv] at hy
        have hre : Rel w0 S0 (st.put (some d) (.sv (.at (.bool b)))) μ a w := h.retell (t := d) (x := .sv (.at (.bool b))) (by rw [hv]; exact ⟨rfl, .inr rfl⟩)
        split at hk
        · rename_i hbt
          subst hbt
          split at hk
          · rename_i hw; subst hw
            exact .inl ⟨by rw [hwant _ hy]; rfl, _, hre, hk⟩
          · rename_i hw
            exact .inr ⟨by rw [hwant _ hy]; cases want <;> simp_all, _, hre.put o.dst undef_tr, hk⟩
        · rename_i hbf
          have hbf : b = false := by simpa using hbf
          subst hbf
          split at hk
          · rename_i hw; subst hw
            exact .inr ⟨by rw [hwant _ hy]; rfl, _, hre.put o.dst undef_tr, hk⟩
          · rename_i hw
            exact .inl ⟨by rw [hwant _ hy]; cases want <;> simp_all, _, hre, hk⟩
      · rename_i hb
        have hlt := (List.getElem?_eq_some_iff.1 hb).1
        obtain ⟨vs, hv, hl, _⟩ := h.tv d _ hb
        obtain rfl : vs = [] := List.eq_nil_of_length_eq_zero hl
        have hy := yielded_at hd h hlt
        rw [hv] at hy
        exact .inr ⟨by rw [hwant _ hy]; rfl, _, h.put o.dst undef_tr, hk⟩
      · cases hk
def quietAt (G : Env) (ops : Array Oper) (j : Nat) : Bool := match ops[j]? with
  | some o => !mayWrite G o
  | none => true
theorem take_quiet {G : Env} {ops : Array Oper} {listed : Array Bool} {i : Nat} {o : Oper} (hload : (!isLoad o.op) = true ∨ loadFirst G ops listed i = true) : ∀ l j, Shut .any ops l → (∀ k, listed.getD k false = true → l.getD k false = true) → l.getD i true = false → j ∈ Region.ready .any ops l → j ≠ i → isLoad o.op = true → quietAt G ops j = true := by
  intro l j hl hsub hli hj hji hld
  unfold quietAt
  split
  · rename_i oj hoj
    cases hwj : mayWrite G oj with
    | false => rfl
    | true =>
      rcases hload with hload | hload
      · rw [hld] at hload; cases hload
      · have hj2 := List.all_eq_true.1 (by unfold loadFirst at hload; exact hload) j (List.mem_range.2 (Array.getElem?_eq_some_iff.1 hoj).1)
        simp only [hoj, hwj, Bool.not_true, Bool.false_or, Bool.and_eq_true] at hj2
        have h1 := waits_listed (hl.set hj) hj2.2 (by
          have hjs : j < l.size := by rw [hl.size]; exact (Array.getElem?_eq_some_iff.1 hoj).1
          simp [hjs])
        rw [getD_set_ne false hji] at h1
        rcases Nat.lt_or_ge i l.size with h2 | h2
        · simp [h2] at h1 hli; rw [h1] at hli; cases hli
        · simp [Array.getElem?_eq_none h2] at h1
  · rfl
theorem execT_sound {γ : Type} {T : TT} {G : Env} {mvs : List Tmp} {k : Nat} {ops : Array Oper} {K : St → Option γ} {Q : Exit → Act → World → Prop} (hT : TTok P T) (hG : EnvOK P k G) (hno : Region.noSelect ops = true) (hQp : ∀ c a w, ¬ Q (.panic c) a w) :
    ∀ (n : Nat) (listed : Array Bool) (st : St) (μ : List ORec) (a : Act) (w : World) (zs : List γ), Shut .any ops listed → Rel w0 S0 st μ a w → execT G (stepOp T G mvs k) ops n listed st K = some zs → (∀ z ∈ zs, ∀ a w, Nx w0 S0 K z a w → Q .normal a w) →
      wpAnyR P .any ops Q (quietAt G ops) n listed a w := by
  intro n
  induction n with
  | zero =>
    intro listed st μ a w zs hS h hk hQ
    simp only [execT] at hk
    split at hk
    · rename_i hr
      split at hk
      · rename_i r hr1
        injection hk with hk
        subst hk
        exact ⟨hr, hQ r (List.mem_singleton.2 rfl) a w ⟨st, μ, h, hr1⟩⟩
      · cases hk
    · cases hk
  | succ n ih =>
    intro listed st μ a w zs hS h hk hQ
    simp only [execT] at hk
    split at hk
    · rename_i i hi
      have hc := List.find?_some hi
      split at hk
      · rename_i o ho
        simp only [canTake, ho, Bool.and_eq_true, Bool.or_eq_true] at hc
        obtain ⟨⟨hpure, hfree⟩, hload⟩ := hc
        have hready' : i ∈ Region.ready .any ops listed := List.mem_of_find?_eq_some hi
        have hqt := take_quiet (i := i) (o := o) hload
        rcases one_op h hk with ⟨hw, st2, h2, hk2⟩ | ⟨hw, st2, h2, hk2⟩
        · obtain ⟨v, hrun, st', μ', h', hk'⟩ := stepOp_went hT h2 hpure hk2
          exact wpAnyR_first (v := v) ho (Region.noSelect_spec hno) (fun c a w hq => absurd hq (hQp c _ w)) n listed a w hS hqt (Region.free_spec ho hfree) hready' (.inl ⟨hw, hrun⟩) (ih _ st' μ' _ w zs (hS.set hready') h' hk' hQ)
        · exact wpAnyR_first (v := undef) (ld := isLoad o.op) ho (Region.noSelect_spec hno) (fun c a w hq => absurd hq (hQp c _ w)) n listed a w hS hqt (Region.free_spec ho hfree) hready' (.inr ⟨hw, rfl⟩) (ih _ st2 μ _ w zs (hS.set hready') h2 hk2 hQ)
      · cases hk
    · split at hk
      · rename_i hr
        split at hk
        · rename_i r hr1
          injection hk with hk
          subst hk
          exact ⟨fun _ => hQ r (List.mem_singleton.2 rfl) a w ⟨st, μ, h, hr1⟩, fun i hi => by rw [hr] at hi; cases hi⟩
        · cases hk
      · rename_i hne
        refine ⟨fun hr => absurd hr hne, fun i hi => ?_⟩
        obtain ⟨xs, hx, hsub⟩ := wayOf_mem hk i hi
        split at hx
        · rename_i o ho
          unfold wpOp
          simp only [ho]
          rcases one_op h hx with ⟨hw, st2, h2, hk2⟩ | ⟨hw, st2, h2, hk2⟩
          · rw [if_pos hw]
            left
            cases hp : pureOp o.op with
            | true =>
              refine Oper.wp_mono (fun a' w' hn => ?_) (stepOp_went hT h2 hp hk2).still
              obtain ⟨⟨st', μ', h', hk'⟩, hs⟩ := hn
              exact ⟨fun _ => hs, ih _ st' μ' a' w' xs (hS.set hi) h' hk' (fun z hz => hQ z (hsub z hz))⟩
            | false =>
              cases hq : stillOp G o.op with
              | true =>
                refine Oper.wp_mono (fun a' w' hn => ?_) (stepOp_still hT hG h2 hq hk2)
                obtain ⟨⟨st', μ', h', hk'⟩, hs⟩ := hn
                exact ⟨fun _ => hs, ih _ st' μ' a' w' xs (hS.set hi) h' hk' (fun z hz => hQ z (hsub z hz))⟩
              | false =>
                refine Oper.wp_mono (fun a' w' hn => ?_) (stepOp_sound hT hG h2 hk2)
                obtain ⟨st', μ', h', hk'⟩ := hn
                refine ⟨fun hqt => ?_, ih _ st' μ' a' w' xs (hS.set hi) h' hk' (fun z hz => hQ z (hsub z hz))⟩
                simp [quietAt, ho, mayWrite, hp, hq] at hqt
          · rw [if_neg (by rw [hw]; simp)]
            exact ⟨fun _ => .refl w, ih _ st2 μ _ w xs (hS.set hi) h2 hk2 (fun z hz => hQ z (hsub z hz))⟩
        · cases hx
/-- What has come up is what does not remain. -/
structure LstOf (ops : Array Oper) (L : Array Bool) (r : List Nat) : Prop where
  size : L.size = ops.size
  val : ∀ j, j < ops.size → L[j]? = some (!r.contains j)
theorem LstOf.get {ops : Array Oper} {L : Array Bool} {r : List Nat} (h : LstOf ops L r) (d : Bool) {j : Nat} (hj : j < ops.size) : L.getD j d = !r.contains j := by
  rw [Array.getD_eq_getD_getElem?, h.val j hj]; rfl
theorem LstOf.out {ops : Array Oper} {L : Array Bool} {r : List Nat} (h : LstOf ops L r) (d : Bool) {j : Nat} (hj : ops.size ≤ j) : L.getD j d = d := by
  rw [Array.getD_eq_getD_getElem?, Array.getElem?_eq_none (by rw [h.size]; exact hj)]; rfl
theorem LstOf.set {ops : Array Oper} {L : Array Bool} {i : Nat} {r : List Nat} (h : LstOf ops L (i :: r)) (hi : i < ops.size) (hn : r.contains i = false) : LstOf ops (L.setIfInBounds i true) r := by
  refine ⟨by simp [h.size], fun j hj => ?_⟩
  by_cases hij : i = j
  · subst hij
    rw [Array.getElem?_setIfInBounds_self_of_lt (by rw [h.size]; exact hi), hn]
    rfl
  · rw [Array.getElem?_setIfInBounds_ne hij, h.val j hj]
    have : (i :: r).contains j = r.contains j := by
      rw [List.contains_cons]
      have : (j == i) = false := by simpa using fun h => hij h.symm
      rw [this, Bool.false_or]
    rw [this]
theorem drawn_sound {γ : Type} {T : TT} {G : Env} {mvs : List Tmp} {k : Nat} {ops : Array Oper} {K : St → Option γ} {r : γ} {Q : Exit → Act → World → Prop} (hT : TTok P T) (hG : EnvOK P k G) (hno : Region.noSelect ops = true) (hQp : ∀ c a w, ¬ Q (.panic c) a w) (hQ : ∀ a w, Nx w0 S0 K r a w → Q .normal a w) :
    ∀ (ord : List Nat) (L : Array Bool) (st : St) (μ : List ORec) (a : Act) (w : World), ordOK G ops ord = true → LstOf ops L ord → Shut .any ops L → Rel w0 S0 st μ a w → execOps (stepOp T G mvs k) ops (pickOps ops ord) st K = some r →
      ∃ n, n = ord.length ∧ wpAnyR P .any ops Q (quietAt G ops) n L a w := by
  intro ord
  induction ord with
  | nil =>
    intro L st μ a w hok hL hS h hk
    have hr : Region.ready .any ops L = [] := by
      apply List.eq_nil_iff_forall_not_mem.2
      intro x hx
      obtain ⟨h1, oj, hoj, _⟩ := mem_ready.1 hx
      rw [hL.get true (Array.getElem?_eq_some_iff.1 hoj).1] at h1
      simp at h1
    exact ⟨0, rfl, hr, hQ a w ⟨st, μ, h, hk⟩⟩
  | cons i rest ih =>
    intro L st μ a w hok hL hS h hk
    simp only [ordOK, Bool.and_eq_true] at hok
    obtain ⟨hok1, hokr⟩ := hok
    split at hok1
    · rename_i o hoi
      simp only [Bool.and_eq_true, Bool.or_eq_true, Bool.not_eq_true'] at hok1
      obtain ⟨⟨hnr, hedge⟩, hhow⟩ := hok1
      have hlt : i < ops.size := (Array.getElem?_eq_some_iff.1 hoi).1
      have hready : i ∈ Region.ready .any ops L := by
        refine mem_ready.2 ⟨by rw [hL.get true hlt]; simp, o, hoi, fun e he hb => ?_⟩
        have h2 := List.all_eq_true.1 hedge e (by simpa using he)
        simp only [hb, Bool.not_true, Bool.false_or, Bool.and_eq_true, decide_eq_true_eq] at h2
        rw [hL.get false h2.1]
        exact h2.2
      have hS' : Shut .any ops (L.setIfInBounds i true) := hS.set hready
      have hL' := hL.set hlt hnr
      simp only [pickOps, hoi] at hk
      have hk1 : execOps (stepOp T G mvs k) ops [o] st (fun st1 => execOps (stepOp T G mvs k) ops (pickOps ops rest) st1 K) = some r := hk
      refine ⟨rest.length + 1, rfl, ?_⟩
      have ih' : ∀ st' μ' a' w', Rel w0 S0 st' μ' a' w' → execOps (stepOp T G mvs k) ops (pickOps ops rest) st' K = some r → wpAnyR P .any ops Q (quietAt G ops) rest.length (L.setIfInBounds i true) a' w' := by
        intro st' μ' a' w' h' hk'
        obtain ⟨n, rfl, hw⟩ := ih _ st' μ' a' w' hokr hL' hS' h' hk'
        exact hw
      rcases hhow with htake | halone
      · simp only [takeAt, Bool.and_eq_true, Bool.or_eq_true] at htake
        obtain ⟨⟨hpure, hfree⟩, hload⟩ := htake
        have hfree' : ∀ j oj, ops[j]? = some oj → j ≠ i → L.getD j true = false → (∀ e ∈ oj.after, Region.binds .any e = true → e.on ≠ i) → o.apart ops oj = true := by
          intro j oj hoj hji hun hno2
          have hjn := (Array.getElem?_eq_some_iff.1 hoj).1
          rw [hL.get true hjn] at hun
          have hjr : j ∈ rest := by
            have : (i :: rest).contains j = true := by cases hc : (i :: rest).contains j with | true => rfl | false => rw [hc] at hun; cases hun
            rcases List.mem_cons.1 (List.contains_iff_mem.1 this) with h1 | h1
            · exact absurd h1 hji
            · exact h1
          have h1 := List.all_eq_true.1 hfree j hjr
          simp only [hoj, Bool.or_eq_true] at h1
          rcases h1 with h1 | h1
          · obtain ⟨e, he, hb⟩ := Array.any_eq_true'.1 h1
            simp only [Bool.and_eq_true, beq_iff_eq] at hb
            exact absurd hb.2 (hno2 e he hb.1)
          · exact h1
        have hqt : ∀ l j, Shut .any ops l → (∀ k, L.getD k false = true → l.getD k false = true) → l.getD i true = false → j ∈ Region.ready .any ops l → j ≠ i → isLoad o.op = true → quietAt G ops j = true := by
          intro l j hl hsub hli hj hji hld
          unfold quietAt
          split
          · rename_i oj hoj
            cases hwj : mayWrite G oj with
            | false => rfl
            | true =>
              rcases hload with hload | hload
              · rw [hld] at hload; cases hload
              · have hj2 := List.all_eq_true.1 hload j (List.mem_range.2 (Array.getElem?_eq_some_iff.1 hoj).1)
                simp only [hoj, hwj, Bool.not_true, Bool.false_or, Bool.and_eq_true] at hj2
                have h1 := waits_listed (hl.set hj) hj2.2 (by
                  have hjs : j < l.size := by rw [hl.size]; exact (Array.getElem?_eq_some_iff.1 hoj).1
                  simp [hjs])
                rw [getD_set_ne false hji] at h1
                rcases Nat.lt_or_ge i l.size with h2 | h2
                · simp [h2] at h1 hli; rw [h1] at hli; cases hli
                · simp [Array.getElem?_eq_none h2] at h1
          · rfl
        rcases one_op h hk1 with ⟨hw, st2, h2, hk2⟩ | ⟨hw, st2, h2, hk2⟩
        · obtain ⟨v, hrun, st', μ', h', hk'⟩ := stepOp_went hT h2 hpure hk2
          exact wpAnyR_first (v := v) hoi (Region.noSelect_spec hno) (fun c a w hq => absurd hq (hQp c _ w)) _ _ a w hS hqt hfree' hready (.inl ⟨hw, hrun⟩) (ih' st' μ' _ w h' hk')
        · exact wpAnyR_first (v := undef) (ld := isLoad o.op) hoi (Region.noSelect_spec hno) (fun c a w hq => absurd hq (hQp c _ w)) _ _ a w hS hqt hfree' hready (.inr ⟨hw, rfl⟩) (ih' st2 μ _ w h2 hk2)
      · have hone : ∀ j ∈ Region.ready .any ops L, j = i := by
          intro j hj
          obtain ⟨hun, oj, hoj, hall⟩ := mem_ready.1 hj
          have hjn := (Array.getElem?_eq_some_iff.1 hoj).1
          rw [hL.get true hjn] at hun
          have hmem : (i :: rest).contains j = true := by cases hc : (i :: rest).contains j with | true => rfl | false => rw [hc] at hun; cases hun
          rcases List.mem_cons.1 (List.contains_iff_mem.1 hmem) with h1 | h1
          · exact h1
          · have h2 := List.all_eq_true.1 halone j h1
            simp only [hoj] at h2
            obtain ⟨e, he, hb⟩ := List.any_eq_true.1 h2
            simp only [Bool.and_eq_true] at hb
            have h3 := hall e (by simpa using he) hb.1
            rcases Nat.lt_or_ge e.on ops.size with h4 | h4
            · rw [hL.get false h4, hb.2] at h3; cases h3
            · rw [hL.out false h4] at h3; cases h3
        refine ⟨fun hr => (by rw [hr] at hready; cases hready), fun j hj => ?_⟩
        have := hone j hj
        subst this
        unfold wpOp
        simp only [hoi]
        rcases one_op h hk1 with ⟨hw, st2, h2, hk2⟩ | ⟨hw, st2, h2, hk2⟩
        · rw [if_pos hw]
          left
          cases hp : pureOp o.op with
          | true =>
            refine Oper.wp_mono (fun a' w' hn => ?_) (stepOp_went hT h2 hp hk2).still
            obtain ⟨⟨st', μ', h', hk'⟩, hs⟩ := hn
            exact ⟨fun _ => hs, ih' st' μ' a' w' h' hk'⟩
          | false =>
            cases hq : stillOp G o.op with
            | true =>
              refine Oper.wp_mono (fun a' w' hn => ?_) (stepOp_still hT hG h2 hq hk2)
              obtain ⟨⟨st', μ', h', hk'⟩, hs⟩ := hn
              exact ⟨fun _ => hs, ih' st' μ' a' w' h' hk'⟩
            | false =>
              refine Oper.wp_mono (fun a' w' hn => ?_) (stepOp_sound hT hG h2 hk2)
              obtain ⟨st', μ', h', hk'⟩ := hn
              refine ⟨fun hqt => ?_, ih' st' μ' a' w' h' hk'⟩
              simp [quietAt, hoi, mayWrite, hp, hq] at hqt
        · rw [if_neg (by rw [hw]; simp)]
          exact ⟨fun _ => .refl w, ih' st2 μ _ w h2 hk2⟩
    · cases hok1
/-- With more steps than there are operations left. -/
theorem wpAnyR_more {P : Program} {md : Region.Mode} {ops : Array Oper} {Q : Exit → Act → World → Prop} {qt : Nat → Bool} : ∀ (n m : Nat) (L : Array Bool) (a : Act) (w : World), n ≤ m → wpAnyR P md ops Q qt n L a w → wpAnyR P md ops Q qt m L a w
  | 0, 0, _, _, _, _, h => h
  | 0, m + 1, L, a, w, _, h => ⟨fun _ => h.2, fun i hi => by rw [h.1] at hi; cases hi⟩
  | n + 1, 0, _, _, _, hn, _ => by omega
  | n + 1, m + 1, L, a, w, hn, h => ⟨h.1, fun i hi => wpOp_mono (fun a' w' h' => ⟨h'.1, wpAnyR_more n m _ a' w' (by omega) h'.2⟩) (h.2 i hi)⟩
theorem nodup_len {n : Nat} : ∀ (l : List Nat), (∀ i ∈ l, i < n) → l.Nodup → l.length ≤ n := by
  intro l hl hd
  have := List.Nodup.length_le_of_subset hd (l₂ := List.range n) (fun i hi => List.mem_range.2 (hl i hi))
  simpa using this
theorem ordOK_nodup {G : Env} {ops : Array Oper} : ∀ {ord : List Nat}, ordOK G ops ord = true → ord.Nodup ∧ ∀ i ∈ ord, i < ops.size
  | [], _ => ⟨List.nodup_nil, fun i hi => by cases hi⟩
  | i :: rest, h => by
    simp only [ordOK, Bool.and_eq_true] at h
    obtain ⟨h1, h2⟩ := h
    obtain ⟨g1, g2⟩ := ordOK_nodup h2
    split at h1
    · rename_i o ho
      simp only [Bool.and_eq_true, Bool.not_eq_true'] at h1
      refine ⟨List.nodup_cons.2 ⟨fun hm => ?_, g1⟩, fun j hj => ?_⟩
      · rw [List.contains_iff_mem.2 hm] at h1
        cases h1.1.1
      · rcases List.mem_cons.1 hj with rfl | hj
        · exact (Array.getElem?_eq_some_iff.1 ho).1
        · exact g2 j hj
    · cases h1
def none0 (n : Nat) : Array Bool := Array.replicate n false
theorem shut_none (md : Region.Mode) (ops : Array Oper) : Shut md ops (none0 ops.size) := by
  refine ⟨by simp [none0], fun j o ho hj => ?_⟩
  simp only [none0, Array.getD_eq_getD_getElem?, Array.getElem?_replicate] at hj
  split at hj <;> simp at hj
/-- A drawn region, whatever its order. -/
def execD {γ : Type} (T : TT) (G : Env) (mvs : List Tmp) (k : Nat) (ops : Array Oper) (st : St) (K : St → Option γ) : Option (List γ) := if Region.noSelect ops = true then execT G (stepOp T G mvs k) ops ops.size (none0 ops.size) st K else none
theorem drawn1_sound {γ : Type} {T : TT} {G : Env} {mvs : List Tmp} {k : Nat} {id : Nat} {ops : Array Oper} {K : St → Option γ} {Q : Exit → Act → World → Prop} (hT : TTok P T) (hG : EnvOK P k G) (hok : drawOK G ops = true) (hQp : ∀ c a w, ¬ Q (.panic c) a w)
    {r : γ} (h : Rel w0 S0 st μ a w) (hk : execOps (stepOp T G mvs k) ops (pickOps ops (drawOrd ops)) st K = some r) (hQ : ∀ a w, Nx w0 S0 K r a w → Q .normal a w) : (Code.region id ops true).wp P Q a w := by
  refine wp_region_any hG.mixed (wpAny_of_listed (qt := quietAt G ops) _ _ _ _ ?_)
  have h1 : Rel w0 S0 st μ a { w with drawn := w.drawn + 1 } := h.world (Chg.drew w (fun _ => False)) (fun _ _ _ _ _ hf => hf) (fun _ hf => hf.elim)
  simp only [drawOK, Bool.and_eq_true] at hok
  obtain ⟨⟨hno, hall⟩, hord⟩ := hok
  have hL : LstOf ops (none0 ops.size) (drawOrd ops) := by
    refine ⟨by simp [none0], fun j hj => ?_⟩
    rw [List.all_eq_true.1 hall j (List.mem_range.2 hj)]
    simp [none0, Array.getElem?_replicate, hj]
  obtain ⟨n, hn, hw⟩ := drawn_sound (w0 := w0) (S0 := S0) hT hG hno hQp hQ (drawOrd ops) _ st μ a _ hord hL (shut_none _ _) h1 hk
  obtain ⟨hnd, hlt⟩ := ordOK_nodup hord
  exact wpAnyR_more n ops.size _ _ _ (by rw [hn]; exact nodup_len _ hlt hnd) hw
theorem execD_sound {γ : Type} {T : TT} {G : Env} {mvs : List Tmp} {k : Nat} {id : Nat} {ops : Array Oper} {K : St → Option γ} {Q : Exit → Act → World → Prop} (hT : TTok P T) (hG : EnvOK P k G) (hQp : ∀ c a w, ¬ Q (.panic c) a w)
    {zs : List γ} (h : Rel w0 S0 st μ a w) (hk : execD T G mvs k ops st K = some zs) (hQ : ∀ z ∈ zs, ∀ a w, Nx w0 S0 K z a w → Q .normal a w) : (Code.region id ops true).wp P Q a w := by
  unfold execD at hk
  split at hk
  · rename_i hno
    refine wp_region_any hG.mixed (wpAny_of_listed (qt := quietAt G ops) _ _ _ _ ?_)
    have h1 : Rel w0 S0 st μ a { w with drawn := w.drawn + 1 } := h.world (Chg.drew w (fun _ => False)) (fun _ _ _ _ _ hf => hf) (fun _ hf => hf.elim)
    exact execT_sound hT hG hno hQp ops.size (none0 ops.size) st μ a _ zs (shut_none _ _) h1 hk hQ
  · cases hk
end
end Go.Proofs.Ytgpmbmnfcbippaa.Vs
