/- The machine runs whole code; loops and joins by their own functions. -/
import Derived.Test.YtgpmbmnfcbippaaqtesVsO
import Derived.Test.YtgpmbmnfcbippaaqtesVsMa
set_option linter.unusedVariables false
set_option linter.unusedSimpArgs false
namespace Go.Proofs.Ytgpmbmnfcbippaa.Vs
open Go.RowKit

/-- A piece of code by a function: from what it wants to what it leaves, or to the function's end. -/
structure LoopE (B : Type) where
  inp : Spec
  out : Spec
  fn : {γ : Type} → Nat → inp.D → (out.D → Option γ) → (B → Option γ) → Option γ
structure Ctx (B : Type) where
  T : TT
  G : Env
  mvs : List Tmp := []
  no : Nat
  n : Nat
  res : St → Option B
  loops : List (Nat × LoopE B) := []
  conds : List (Tmp × LoopE B) := []
  regs : List (Nat × LoopE B) := []
def findE {β : Type 1} (l : List (Nat × β)) (i : Nat) : Option β := match l with
  | [] => none
  | p :: l => if p.1 = i then some p.2 else findE l i
section
variable {B : Type} {γ : Type}
def condE (X : Ctx B) : Operand → Option (LoopE B)
  | .tmp d => findE X.conds d
  | _ => none
def St.told (st : St) (c : Operand) (b : Bool) : St := match c with
  | .tmp d => st.put (some d) (.sv (.at (.bool b)))
  | _ => st
def enterN (X : Ctx B) (s : Spec) (st : St) : Option s.D := if st.tmps.length = X.n then s.enter X.no st else none
def runE (X : Ctx B) (k : Nat) (E : LoopE B) (st : St) (KN : St → Option γ) (KB : B → Option γ) : Option γ :=
  match enterN X E.inp st with
  | some x => E.fn k x (fun y => KN (E.out.st X.n y)) KB
  | none => none
def branch (st : St) (c : Operand) (ka kb : St → Option γ) : Option γ := match st.ev c with
  | .sv (.at (.bool t)) => if t = true then ka (st.told c true) else kb (st.told c false)
  | _ => none
def exec (X : Ctx B) (k : Nat) : Code → St → (St → Option γ) → (Nat → St → Option γ) → (B → Option γ) → Option γ
  | .skip, st, KN, _, _ => KN st
  | .seq a b, st, KN, KX, KB => exec X k a st (fun st1 => exec X k b st1 KN KX KB) KX KB
  | .cond c a b, st, KN, KX, KB => match condE X c with
    | some E => runE X k E st KN KB
    | none => branch st c (fun st1 => exec X k a st1 KN KX KB) (fun st1 => exec X k b st1 KN KX KB)
  | .block id c, st, KN, KX, KB => match findE X.loops id with
    | some E => runE X k E st KN KB
    | none => exec X k c st KN (fun i st1 => if i = id then KN st1 else KX i st1) KB
  | .exit id, st, _, KX, _ => KX id st
  | .ret, st, _, _, KB => match X.res st with
    | some b => KB b
    | none => none
  | .region _ ops false, st, KN, _, _ => execOps (stepOp X.T X.G X.mvs k) ops ops.toList st KN
  | .region id ops true, st, KN, _, KB => match findE X.regs id with
    | some E => runE X k E st KN KB
    | none => if drawOK X.G ops = true then execOps (stepOp X.T X.G X.mvs k) ops (pickOps ops (drawOrd ops)) st KN else none
  | _, _, _, _, _ => none
end

section
variable {P : Program} {w w1 w0 : World} {S0 : Own} {st : St} {μ μ' : List ORec} {a : Act} {B : Type}
def LPost (X : Ctx B) (w0 : World) (S0 : Own) {γ : Type} {D : Type} (f : D → St) (KN : D → Option γ) (KB : B → Option γ) (r : γ) : Exit → Act → World → Prop
  | .normal, a, w => ∃ y μ, Rel w0 S0 (f y) μ a w ∧ KN y = some r
  | .ret, a, w => ∃ st μ b, Rel w0 S0 st μ a w ∧ X.res st = some b ∧ KB b = some r
  | _, _, _ => False
def EOK (P : Program) (X : Ctx B) (k : Nat) (E : LoopE B) (c : Code) : Prop :=
  ∀ {γ : Type} (KN : E.out.D → Option γ) (KB : B → Option γ) (r : γ) (x : E.inp.D) (w0 : World) (S0 : Own) (μ : List ORec) (a : Act) (w : World), S0.ov.length = X.no → Rel w0 S0 (E.inp.st X.n x) μ a w → E.fn k x KN KB = some r →
    c.wp P (LPost X w0 S0 (E.out.st X.n) KN KB r) a w
def LOK (P : Program) (X : Ctx B) (k : Nat) : Code → Prop
  | .seq a b => LOK P X k a ∧ LOK P X k b
  | .cond c a b => match condE X c with
    | some E => EOK P X k E (.cond c a b)
    | none => LOK P X k a ∧ LOK P X k b
  | .block id c => match findE X.loops id with
    | some E => EOK P X k E (.block id c)
    | none => LOK P X k c
  | .region id ops true => match findE X.regs id with
    | some E => EOK P X k E (.region id ops true)
    | none => True
  | _ => True
def EPost (X : Ctx B) (w0 : World) (S0 : Own) {γ : Type} (KN : St → Option γ) (KX : Nat → St → Option γ) (KB : B → Option γ) (r : γ) : Exit → Act → World → Prop
  | .normal, a, w => ∃ st μ, Rel w0 S0 st μ a w ∧ KN st = some r
  | .exit id, a, w => ∃ st μ, Rel w0 S0 st μ a w ∧ KX id st = some r
  | .ret, a, w => ∃ st μ b, Rel w0 S0 st μ a w ∧ X.res st = some b ∧ KB b = some r
  | _, _, _ => False
theorem told_sound (h : Rel w0 S0 st μ a w) {c : Operand} {b : Bool} (hc : st.ev c = .sv (.at (.bool b))) : Rel w0 S0 (st.told c b) μ a w := by
  cases c with
  | tmp d =>
    have hv : a.eval (.tmp d) = .bool b := h.at hc
    have hv2 : a.tmps.getD d undef = .bool b := hv
    exact h.retell (t := d) (x := .sv (.at (.bool b))) (by rw [hv2]; exact ⟨rfl, .inr rfl⟩)
  | _ => exact h
theorem runE_sound {X : Ctx B} {k : Nat} {E : LoopE B} {c : Code} {γ : Type} {KN : St → Option γ} {KX : Nat → St → Option γ} {KB : B → Option γ} {r : γ} (hE : EOK P X k E c) (hno : S0.ov.length = X.no) (h : Rel w0 S0 st μ a w) (hr : runE X k E st KN KB = some r) : c.wp P (EPost X w0 S0 KN KX KB r) a w := by
  unfold runE at hr
  split at hr
  · rename_i x hx
    unfold enterN at hx
    split at hx
    · rename_i hn
      obtain ⟨μ', h1⟩ := Spec.enter_sound h hno hn hx
      refine Code.wp_mono (fun e a' w' hq => ?_) (hE _ KB r x w0 S0 μ' a w hno h1 hr)
      cases e with
      | normal => obtain ⟨y, μ2, g1, g2⟩ := hq; exact ⟨_, μ2, g1, g2⟩
      | ret => exact hq
      | exit id => exact False.elim hq
      | goto l => exact False.elim hq
      | panic ch => exact False.elim hq
      | outgrown => exact False.elim hq
    · cases hx
  · cases hr
theorem exec_sound {X : Ctx B} {k : Nat} (hT : TTok P X.T) (hG : EnvOK P k X.G) (hno : S0.ov.length = X.no) : ∀ {c : Code} {γ : Type} {st : St} {μ : List ORec} {a : Act} {w : World} {KN : St → Option γ} {KX : Nat → St → Option γ} {KB : B → Option γ} {r : γ}, LOK P X k c → Rel w0 S0 st μ a w → exec X k c st KN KX KB = some r → c.wp P (EPost X w0 S0 KN KX KB r) a w := by
  intro c
  induction c with
  | skip => intro γ st μ a w KN KX KB r _ h hr; exact wp_skip ⟨st, μ, h, hr⟩
  | seq x y ihx ihy =>
    intro γ st μ a w KN KX KB r hL h hr
    refine wp_seq (Code.wp_mono (fun e a' w' hq => ?_) (ihx hL.1 h hr))
    cases e with
    | normal => obtain ⟨st1, μ1, h1, hr1⟩ := hq; exact ihy hL.2 h1 hr1
    | exit id => exact hq
    | ret => exact hq
    | goto l => exact hq
    | panic ch => exact hq
    | outgrown => exact hq
  | cond c x y ihx ihy =>
    intro γ st μ a w KN KX KB r hL h hr
    simp only [exec] at hr
    simp only [LOK] at hL
    split at hr
    · rename_i E hE
      rw [hE] at hL
      exact runE_sound hL hno h hr
    · rename_i hE
      rw [hE] at hL
      unfold branch at hr
      split at hr
      · rename_i t ht
        have hc : a.eval c = .bool t := h.at ht
        refine wp_cond_split hc (fun htt => ?_) (fun htf => ?_)
        · subst htt
          rw [if_pos rfl] at hr
          exact ihx hL.1 (told_sound h ht) hr
        · subst htf
          rw [if_neg (by simp)] at hr
          exact ihy hL.2 (told_sound h ht) hr
      · cases hr
  | block id c ih =>
    intro γ st μ a w KN KX KB r hL h hr
    simp only [exec] at hr
    simp only [LOK] at hL
    split at hr
    · rename_i E hE
      rw [hE] at hL
      exact runE_sound hL hno h hr
    · rename_i hE
      rw [hE] at hL
      refine wp_block (Code.wp_mono (fun e a' w' hq => ?_) (ih hL h hr))
      cases e with
      | normal => exact hq
      | exit id' =>
        obtain ⟨st1, μ1, h1, hr1⟩ := hq
        unfold Exit.inBlock
        simp only at hr1 ⊢
        split
        · rename_i hid
          rw [if_pos hid] at hr1
          exact ⟨st1, μ1, h1, hr1⟩
        · rename_i hid
          rw [if_neg hid] at hr1
          exact ⟨st1, μ1, h1, hr1⟩
      | ret => exact hq
      | goto l => exact hq
      | panic ch => exact hq
      | outgrown => exact hq
  | exit id => intro γ st μ a w KN KX KB r _ h hr; exact wp_exit ⟨st, μ, h, hr⟩
  | ret =>
    intro γ st μ a w KN KX KB r _ h hr
    simp only [exec] at hr
    split at hr
    · rename_i b hb; exact wp_ret ⟨st, μ, b, h, hb, hr⟩
    · cases hr
  | region id ops draw =>
    intro γ st μ a w KN KX KB r hL h hr
    cases draw with
    | true =>
      simp only [exec] at hr
      simp only [LOK] at hL
      split at hr
      · rename_i E hE
        rw [hE] at hL
        exact runE_sound hL hno h hr
      · split at hr
        · rename_i hok
          exact drawn1_sound (Q := EPost X w0 S0 KN KX KB r) (w0 := w0) (S0 := S0) hT hG hok (fun c a' w' hf => hf) h hr (fun a' w' hn => hn)
        · cases hr
    | false =>
      simp only [exec] at hr
      exact wp_region_list (execOps_sound (Q := EPost X w0 S0 KN KX KB r) (w0 := w0) (S0 := S0) (fun a' w' hn => hn) (fun o st1 μ1 a1 w1 K' h1 hk => stepOp_sound hT hG h1 hk) ops.toList st μ a w h hr)
  | loop _ _ => intro γ st μ a w KN KX KB r _ h hr; cases hr
  | rangeFunc _ _ _ _ _ _ => intro γ st μ a w KN KX KB r _ h hr; cases hr
  | scope _ _ => intro γ st μ a w KN KX KB r _ h hr; cases hr
  | label _ => intro γ st μ a w KN KX KB r _ h hr; cases hr
  | goto _ => intro γ st μ a w KN KX KB r _ h hr; cases hr
  | refuse _ => intro γ st μ a w KN KX KB r _ h hr; cases hr

/-! ### Loops -/
structure LoopDef (B : Type) where
  inp : Spec
  out : Spec
  Z : Type
  lp : Nat → inp.D → Option Z
  dsp : {γ : Type} → Z → (out.D → Option γ) → (B → Option γ) → Option γ
  mkN : out.D → Option Z
  mkB : B → Option Z
  hN : ∀ {γ : Type} (y : out.D) (z : Z) (KN : out.D → Option γ) (KB : B → Option γ), mkN y = some z → dsp z KN KB = KN y
  hB : ∀ {γ : Type} (b : B) (z : Z) (KN : out.D → Option γ) (KB : B → Option γ), mkB b = some z → dsp z KN KB = KB b
def LoopDef.E (D : LoopDef B) : LoopE B where
  inp := D.inp
  out := D.out
  fn := fun k x KN KB => match D.lp k x with
    | some z => D.dsp z KN KB
    | none => none
def backK (X : Ctx B) (D : LoopDef B) (k : Nat) (st : St) : Option D.Z := match enterN X D.inp st with
  | some x => D.lp k x
  | none => none
def outK (X : Ctx B) (D : LoopDef B) (st : St) : Option D.Z := match enterN X D.out st with
  | some y => D.mkN y
  | none => none
def loopK (X : Ctx B) (D : LoopDef B) (id : Nat) (body : Code) (k : Nat) (x : D.inp.D) : Option D.Z :=
  exec X k body (D.inp.st X.n x) (backK X D k) (fun i st => if i = id then outK X D st else none) D.mkB
theorem enterN_sound {X : Ctx B} (hno : S0.ov.length = X.no) (h : Rel w0 S0 st μ a w) {s : Spec} {x : s.D} (hx : enterN X s st = some x) : ∃ μ', Rel w0 S0 (s.st X.n x) μ' a w := by
  unfold enterN at hx
  split at hx
  · rename_i hn; exact Spec.enter_sound h hno hn hx
  · cases hx
theorem loop_ok {X : Ctx B} {D : LoopDef B} {id : Nat} {body : Code} (hT : TTok P X.T) (hG : ∀ k, EnvOK P k X.G) (h0 : ∀ x, D.lp 0 x = none) (hs : ∀ k x, D.lp (k + 1) x = loopK X D id body k x) (hL : ∀ k, LOK P X k body) (k : Nat) : EOK P X k D.E (.block id (.loop body)) := by
  intro γ KN KB r x w0 S0 μ a w hno h hr
  simp only [LoopDef.E] at hr
  split at hr
  · rename_i z hz
    refine wp_block (wp_loop_ghost (fun j a w => ∃ x μ, Rel w0 S0 (D.inp.st X.n x) μ a w ∧ D.lp j x = some z) k ⟨x, μ, h, hz⟩ fun j a w ⟨x, μ, h, hz⟩ => ?_)
    cases j with
    | zero => rw [h0] at hz; cases hz
    | succ j =>
      rw [hs] at hz
      refine Code.wp_mono (fun e a' w' hq => ?_) (exec_sound hT (hG j) hno (hL j) h hz)
      cases e with
      | normal =>
        obtain ⟨st1, μ1, h1, hr1⟩ := hq
        unfold backK at hr1
        split at hr1
        · rename_i x' hx'
          obtain ⟨μ', h2⟩ := enterN_sound hno h1 hx'
          exact ⟨j, Nat.lt_succ_self j, x', μ', h2, hr1⟩
        · cases hr1
      | exit id' =>
        obtain ⟨st1, μ1, h1, hr1⟩ := hq
        show Exit.inBlock id _ (.exit id') a' w'
        unfold Exit.inBlock
        simp only at hr1 ⊢
        split at hr1
        · rename_i hid
          rw [if_pos hid]
          unfold outK at hr1
          split at hr1
          · rename_i y hy
            obtain ⟨μ', h2⟩ := enterN_sound hno h1 hy
            exact ⟨y, μ', h2, by rw [← D.hN y z KN KB hr1]; exact hr⟩
          · cases hr1
        · cases hr1
      | ret =>
        obtain ⟨st1, μ1, b, h1, hb, hr1⟩ := hq
        exact ⟨st1, μ1, b, h1, hb, by rw [← D.hB b z KN KB hr1]; exact hr⟩
      | goto l => exact hq
      | panic ch => exact hq
      | outgrown => exact hq
  · cases hr
/-- A drawn region by its own function. -/
def repl {Z : Type} (m : Nat) (x : Option Z) : Option (List Z) := match x with
  | some z => some (List.replicate m z)
  | none => none
theorem reg_ok {X : Ctx B} {D : LoopDef B} {id : Nat} {ops : Array Oper} {m : Nat} (hT : TTok P X.T) {k : Nat} (hG : EnvOK P k X.G) (hs : ∀ i, execD X.T X.G X.mvs k ops (D.inp.st X.n i) (outK X D) = repl m (D.lp k i)) : EOK P X k D.E (.region id ops true) := by
  intro γ KN KB r i w0 S0 μ a w hno h hr
  simp only [LoopDef.E] at hr
  split at hr
  · rename_i z hz
    change Rel w0 S0 (D.inp.st X.n i) μ a w at h
    have hx := hs i
    rw [hz] at hx
    refine execD_sound (w0 := w0) (S0 := S0) hT hG (fun c a' w' hf => hf) h hx (fun z' hz' a' w' hn => ?_)
    have hzz : z' = z := List.eq_of_mem_replicate hz'
    subst hzz
    obtain ⟨st1, μ1, h1, hr1⟩ := hn
    unfold outK at hr1
    split at hr1
    · rename_i y hy
      obtain ⟨μ', h2⟩ := enterN_sound hno h1 hy
      exact ⟨y, μ', h2, by rw [← D.hN y z' KN KB hr1]; exact hr⟩
    · cases hr1
  · cases hr
/-- A branch by its own function: what comes behind both ways is told once. -/
theorem join_ok {X : Ctx B} {D : LoopDef B} {c : Operand} {x y : Code} (hT : TTok P X.T) {k : Nat} (hG : EnvOK P k X.G) (hs : ∀ i, D.lp k i = branch (D.inp.st X.n i) c (fun st => exec X k x st (outK X D) (fun _ _ => none) D.mkB) (fun st => exec X k y st (outK X D) (fun _ _ => none) D.mkB))
    (hx : LOK P X k x) (hy : LOK P X k y) : EOK P X k D.E (.cond c x y) := by
  intro γ KN KB r i w0 S0 μ a w hno h hr
  simp only [LoopDef.E] at hr
  split at hr
  · rename_i z hz
    have fin : ∀ (e : Exit) (a' : Act) (w' : World), EPost X w0 S0 (outK X D) (fun _ _ => none) D.mkB z e a' w' → LPost X w0 S0 (D.E.out.st X.n) KN KB r e a' w' := by
      intro e a' w' hq
      cases e with
      | normal =>
        obtain ⟨st1, μ1, h1, hr1⟩ := hq
        unfold outK at hr1
        split at hr1
        · rename_i y hy
          obtain ⟨μ', h2⟩ := enterN_sound hno h1 hy
          exact ⟨y, μ', h2, by rw [← D.hN y z KN KB hr1]; exact hr⟩
        · cases hr1
      | exit id' => obtain ⟨st1, μ1, h1, hr1⟩ := hq; cases hr1
      | ret =>
        obtain ⟨st1, μ1, b, h1, hb, hr1⟩ := hq
        exact ⟨st1, μ1, b, h1, hb, by rw [← D.hB b z KN KB hr1]; exact hr⟩
      | goto l => exact hq
      | panic ch => exact hq
      | outgrown => exact hq
    have hz := (hs i).symm.trans hz
    change Rel w0 S0 (D.inp.st X.n i) μ a w at h
    unfold branch at hz
    split at hz
    · rename_i t ht
      have hc : a.eval c = .bool t := h.at ht
      refine wp_cond_split hc (fun htt => ?_) (fun htf => ?_)
      · subst htt
        rw [if_pos rfl] at hz
        exact Code.wp_mono fin (exec_sound hT hG hno hx (told_sound h ht) hz)
      · subst htf
        rw [if_neg (by simp)] at hz
        exact Code.wp_mono fin (exec_sound hT hG hno hy (told_sound h ht) hz)
    · cases hz
  · cases hr
end
end Go.Proofs.Ytgpmbmnfcbippaa.Vs
