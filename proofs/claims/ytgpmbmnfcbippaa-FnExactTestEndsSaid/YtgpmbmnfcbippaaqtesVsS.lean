/- Short ways to write down types, functions and loops for the machine. -/
import Derived.Test.YtgpmbmnfcbippaaqtesVsR
import Derived.Laws.StructEq
set_option linter.unusedVariables false
set_option linter.unusedSimpArgs false
namespace Go.Proofs.Ytgpmbmnfcbippaa.Vs
open Go.RowKit

/-! ### Types -/
section
variable {P : Program}
theorem TyOK.scal {t : TypeId} {ty : Ty} {b : Nat} {d : TypeDesc} (hi : (P.info? t).map (fun x => (x.zero, x.size, x.bytes)) = some (some (zval ⟨.scal, ty, b, false⟩), ty.sz, b)) (hb : 0 < b) (h1 : ty.sz = 1) (hd : scalDesc ty = some d) (hu : P.underlying t = some d) : TyOK P t ⟨.scal, ty, b, false⟩ :=
  ⟨hi, hb, fun _ => h1, ⟨d, hd, hu⟩, fun h => by cases h⟩
theorem TyOK.slice {t e : TypeId} {ty : Ty} {b : Nat} (hi : (P.info? t).map (fun x => (x.zero, x.size, x.bytes)) = some (some (zval ⟨.slice e, ty, b, false⟩), ty.sz, b)) (hb : 0 < b) (h1 : ty.sz = 1) (hu : P.underlying t = some (.slice e)) : TyOK P t ⟨.slice e, ty, b, false⟩ :=
  ⟨hi, hb, fun _ => h1, hu, fun h => by cases h⟩
theorem TyOK.arr {t e : TypeId} {n : Nat} {ty : Ty} {b : Nat} (hi : (P.info? t).map (fun x => (x.zero, x.size, x.bytes)) = some (some (zval ⟨.arr n e, ty, b, false⟩), ty.sz, b)) (hb : 0 < b) (hu : P.underlying t = some (.array n e)) : TyOK P t ⟨.arr n e, ty, b, false⟩ :=
  ⟨hi, hb, (fun h => by simp [TI.isAgg] at h), hu, fun h => by cases h⟩
def fieldsOK (P : Program) (fs : List (Nat × TypeId)) : Bool := fs.all fun p => match P.info? p.2 with | some x => x.size != 0 | none => false
theorem TyOK.struct {t : TypeId} {fs : List (Nat × TypeId)} {ty : Ty} {b : Nat} (hi : (P.info? t).map (fun x => (x.zero, x.size, x.bytes)) = some (some (zval ⟨.struct fs, ty, b, false⟩), ty.sz, b)) (hb : 0 < b) (hu : (P.underlying t).bind fieldsOf = some fs) (hf : fieldsOK P fs = true) : TyOK P t ⟨.struct fs, ty, b, false⟩ :=
  ⟨hi, hb, (fun h => by simp [TI.isAgg] at h), ⟨hu, fun p hp => by
    have := List.all_eq_true.1 hf p hp
    split at this
    · rename_i x hx
      exact ⟨x, hx, by simpa using this⟩
    · cases this⟩, (fun h => by cases h)⟩
/-- Fields that are all ints, each in a cell of its own, in order. -/
def intFit (P : Program) : List Field → Nat → Bool
  | [], _ => true
  | f :: fs, o => f.name != "_" && f.offset == o && (match P.underlying f.type with | some (.int .i64) => true | _ => false) && intFit P fs (o + 1)
theorem part_int {f : Field} {xs : List Int} {w : World} (hu : P.underlying f.type = some (.int .i64)) (hl : f.offset < xs.length) : (part f.type (xs.map (Value.int .i64)).toArray f.offset).run P w = .ok (.int .i64 xs[f.offset]) w := by
  unfold part
  rw [Sem.run_bind]
  have ha : (isAgg f.type).run P w = .ok false w := by unfold isAgg; rw [Sem.run_bind, run_underlying hu]; rfl
  rw [ha]
  have hg : (xs.map (Value.int .i64)).toArray[f.offset]? = some (.int .i64 xs[f.offset]) := by simp [List.getElem?_eq_getElem hl]
  simp only [Result.andThen_ok, Bool.false_eq_true, if_false, hg]
  rfl
theorem eqFields_ints {d : Nat} {xs ys : List Int} {w : World} (hxy : xs.length = ys.length) : ∀ {fs : List Field} {o : Nat}, intFit P fs o = true → o + fs.length = xs.length → (Op.eqFields (d + 1) (xs.map (Value.int .i64)).toArray (ys.map (Value.int .i64)).toArray fs).run P w = .ok (decide (xs.drop o = ys.drop o)) w
  | [], o, _, hl => by
    simp only [List.length_nil, Nat.add_zero] at hl
    rw [List.drop_of_length_le (by omega), List.drop_of_length_le (by omega)]
    simp [Op.eqFields]
  | f :: fs, o, hf, hl => by
    simp only [intFit, Bool.and_eq_true, beq_iff_eq] at hf
    obtain ⟨⟨⟨h1, h2⟩, h3⟩, h4⟩ := hf
    simp only [List.length_cons] at hl
    have hu : P.underlying f.type = some (.int .i64) := by
      split at h3
      · assumption
      · cases h3
    subst h2
    have hn : f.name ≠ "_" := by simpa using h1
    have hx := part_int (P := P) (w := w) (xs := xs) hu (by omega)
    have hy := part_int (P := P) (w := w) (xs := ys) hu (by omega)
    have ih := eqFields_ints (d := d) (w := w) hxy h4 (by omega)
    rw [Op.eqFields]
    simp only [if_pos hn, Sem.run_bind, hx, hy, run_equalIn_int w d f.type .i64 .i64 _ _ hu, Result.andThen_ok]
    rw [List.drop_eq_getElem_cons (show f.offset < xs.length by omega), List.drop_eq_getElem_cons (show f.offset < ys.length by omega)]
    by_cases he : xs[f.offset] = ys[f.offset]
    · simp only [he, beq_self_eq_true, Bool.not_true, Bool.false_eq_true, if_false, ih, List.cons.injEq, true_and]
    · have hb : (xs[f.offset] == ys[f.offset]) = false := by simpa using he
      simp only [hb, he, List.cons.injEq, false_and, decide_false, Bool.not_false, if_true]
      rfl
def eqOK (P : Program) (t : TypeId) (n : Nat) : Bool := match P.underlying t with
  | some (.struct fs) => !P.stoodInHeld t && !P.eqGuardType P.depth t && intFit P fs.toList 0 && fs.size == n
  | _ => false
theorem TyOK.structE {t : TypeId} {fs : List (Nat × TypeId)} {ty : Ty} {b : Nat} (he : eqOK P t ty.sz = true) (hi : (P.info? t).map (fun x => (x.zero, x.size, x.bytes)) = some (some (zval ⟨.struct fs, ty, b, true⟩), ty.sz, b)) (hb : 0 < b) (hu : (P.underlying t).bind fieldsOf = some fs) (hf : fieldsOK P fs = true) : TyOK P t ⟨.struct fs, ty, b, true⟩ := by
  refine ⟨hi, hb, (fun h => by simp [TI.isAgg] at h), ⟨hu, fun p hp => by
    have := List.all_eq_true.1 hf p hp
    split at this
    · rename_i x hx
      exact ⟨x, hx, by simpa using this⟩
    · cases this⟩, ?_⟩
  intro _ xs ys hx hy x y op hop w
  unfold eqOK at he
  split at he
  · rename_i gs hgs
    simp only [Bool.and_eq_true, Bool.not_eq_true', beq_iff_eq] at he
    obtain ⟨⟨⟨h1, h2⟩, h3⟩, h4⟩ := he
    simp only at hx hy
    have hfo : P.fieldsOf t = gs := by simp [Program.fieldsOf, hgs]
    have hrun : (Op.equalIn 10000 t (.agg (xs.map (Value.int .i64)).toArray) (.agg (ys.map (Value.int .i64)).toArray)).run P w = .ok (decide (xs = ys)) w := by
      rw [run_equalIn_struct (P := P) w 9999 t _ _ (by rw [hfo]; exact hgs) h1, hfo]
      have := eqFields_ints (P := P) (d := 9998) (w := w) (xs := xs) (ys := ys) (by omega) h3 (by rw [Array.length_toList, h4]; omega)
      simpa using this
    rcases hop with rfl | rfl
    · rw [Sem.run_bind, run_eqGuard_agg w .eql t x y _ _ h2]
      simp only [Result.andThen_ok, run_eql_struct, hrun, if_true]
    · rw [Sem.run_bind, run_eqGuard_agg w .neq t x y _ _ h2]
      simp only [Result.andThen_ok, run_neq_struct, hrun]
      rfl
  · cases he
theorem TTok.of {T : TT} (h : ∀ p ∈ T, TyOK P p.1 p.2) : TTok P T := by
  intro t i hi
  unfold TT.get at hi
  obtain ⟨p, hp, rfl⟩ := Option.map_eq_some_iff.1 hi
  have h1 := List.find?_some hp
  have h2 := List.mem_of_find?_eq_some hp
  have := h p h2
  rw [beq_iff_eq.1 h1] at this
  exact this
end

/-! ### Functions and loops -/
noncomputable section
def castU {u v : Ty} (h : u = v) (ys : List u.D) : List v.D := h ▸ ys
def FnDef.of (ps rs : List PK) (R : Type) (f : Nat → Tup ps → Option R) (toB : R → Tup rs × OutD) (ret : Tup rs × OutD → Option R) (h : ∀ b r, ret b = some r → toB r = b) : FnDef where
  ps := ps
  rs := rs
  R := R
  f := f
  dsp := fun z K => K (toB z).1 (toB z).2
  ret := ret
  hret := fun b z K hb => by rw [h b z hb]
def LoopDef.plain {B : Type} (inp out : Spec) (Z : Type) (lp : Nat → inp.D → Option Z) (to : Z → out.D) (of : out.D → Z) (h : ∀ y, to (of y) = y) : LoopDef B where
  inp := inp
  out := out
  Z := Z
  lp := lp
  dsp := fun z KN _ => KN (to z)
  mkN := fun y => some (of y)
  mkB := fun _ => none
  hN := fun y z KN KB hz => by injection hz with hz; subst hz; rw [h]
  hB := fun b z KN KB hz => by cases hz
inductive LR (Z R : Type) where
  | go (z : Z) | ret (r : R)
def LR.on {Z R γ : Type} (z : LR Z R) (f : Z → Option γ) (g : R → Option γ) : Option γ := match z with | .go y => f y | .ret r => g r
def LoopDef.rets {B : Type} (inp out : Spec) (Z R : Type) (lp : Nat → inp.D → Option (LR Z R)) (to : Z → out.D) (of : out.D → Z) (h : ∀ y, to (of y) = y) (toB : R → B) (ret : B → Option R) (hB : ∀ b r, ret b = some r → toB r = b) : LoopDef B where
  inp := inp
  out := out
  Z := LR Z R
  lp := lp
  dsp := fun z KN KB => z.on (fun y => KN (to y)) (fun r => KB (toB r))
  mkN := fun y => some (.go (of y))
  mkB := fun b => match ret b with | some r => some (.ret r) | none => none
  hN := fun y z KN KB hz => by injection hz with hz; subst hz; simp only [LR.on, h]
  hB := fun b z KN KB hz => by
    split at hz
    · rename_i r hr
      injection hz with hz
      subst hz
      simp only [LR.on, hB b r hr]
    · cases hz
end
theorem EnvOK.nil {P : Program} {k : Nat} (h : P.follows .mixedOrders = true) : EnvOK P k [] := ⟨h, fun f E h => by cases h⟩
theorem EnvOK.cons {P : Program} {k : Nat} {f : FuncId} {E : CallE} {G : Env} (h : SoundAt P k f E) (hG : EnvOK P k G) : EnvOK P k ((f, E) :: G) := by
  refine ⟨hG.mixed, fun g E' hg => ?_⟩
  unfold Env.get at hg
  rw [List.find?_cons] at hg
  split at hg
  · rename_i hb
    have hfg : f = g := beq_iff_eq.1 hb
    simp only [Option.map_some] at hg
    injection hg with hg
    subst hfg hg
    exact h
  · exact hG.ok g E' hg
/-! ### What a piece of code needs of its loops -/
def findLoop (id : Nat) : Code → Option Code
  | .seq a b => match findLoop id a with
    | some c => some c
    | none => findLoop id b
  | .cond _ a b => match findLoop id a with
    | some c => some c
    | none => findLoop id b
  | .block i (.loop c) => if i = id then some c else findLoop id c
  | .block _ c => findLoop id c
  | .loop c => findLoop id c
  | _ => none
theorem repl_some {Z : Type} (z : Z) : some [z] = repl 1 (some z) := rfl
theorem repl_ite {Z : Type} {c : Prop} [Decidable c] {m : Nat} {x y : Option Z} : (if c then repl m x else repl m y) = repl m (if c then x else y) := by split <;> rfl
theorem repl_ite0 {Z : Type} {c : Prop} [Decidable c] {m : Nat} {x : Option Z} : (if c then repl m x else none) = repl m (if c then x else none) := by split <;> rfl
theorem repl_ite1 {Z : Type} {c : Prop} [Decidable c] {m : Nat} {x : Option Z} : (if c then none else repl m x) = repl m (if c then none else x) := by split <;> rfl
theorem repl_bind {Y Z : Type} {m : Nat} {x : Option Y} {g : Y → Option Z} : (Option.bind x fun z => repl m (g z)) = repl m (Option.bind x g) := by cases x <;> rfl
theorem joinL_repl {Z : Type} {m n : Nat} {x : Option Z} : joinL (repl m x) (repl n x) = repl (m + n) x := by
  cases x with
  | none => rfl
  | some z => simp [repl, joinL, List.replicate_append_replicate]
def findCond (d : Tmp) : Code → Option (Code × Code)
  | .seq a b => match findCond d a with
    | some c => some c
    | none => findCond d b
  | .cond (.tmp e) a b => if e = d then some (a, b) else match findCond d a with
    | some c => some c
    | none => findCond d b
  | .cond _ a b => match findCond d a with
    | some c => some c
    | none => findCond d b
  | .block _ c => findCond d c
  | .loop c => findCond d c
  | _ => none
def findReg (id : Nat) : Code → Option (Array Oper)
  | .seq a b => match findReg id a with
    | some c => some c
    | none => findReg id b
  | .cond _ a b => match findReg id a with
    | some c => some c
    | none => findReg id b
  | .block _ c => findReg id c
  | .loop c => findReg id c
  | .region i ops true => if i = id then some ops else none
  | _ => none
def needs {B : Type} (X : Ctx B) : Code → List (LoopE B × Code)
  | .seq a b => needs X a ++ needs X b
  | .cond c a b => match condE X c with
    | some E => [(E, .cond c a b)]
    | none => needs X a ++ needs X b
  | .block id c => match findE X.loops id with
    | some E => [(E, .block id c)]
    | none => needs X c
  | .region id ops true => match findE X.regs id with
    | some E => [(E, .region id ops true)]
    | none => []
  | _ => []
def AllOK {B : Type} (P : Program) (X : Ctx B) (k : Nat) (l : List (LoopE B × Code)) : Prop := ∀ p ∈ l, EOK P X k p.1 p.2
theorem AllOK.nil {B : Type} {P : Program} {X : Ctx B} {k : Nat} : AllOK P X k [] := fun p hp => by cases hp
theorem AllOK.cons {B : Type} {P : Program} {X : Ctx B} {k : Nat} {E : LoopE B} {c : Code} {l : List (LoopE B × Code)} (h : EOK P X k E c) (hl : AllOK P X k l) : AllOK P X k ((E, c) :: l) := by
  intro p hp
  rcases List.mem_cons.1 hp with rfl | hp
  · exact h
  · exact hl p hp
theorem AllOK.left {B : Type} {P : Program} {X : Ctx B} {k : Nat} {l l' : List (LoopE B × Code)} (h : AllOK P X k (l ++ l')) : AllOK P X k l := fun p hp => h p (List.mem_append.2 (.inl hp))
theorem AllOK.right {B : Type} {P : Program} {X : Ctx B} {k : Nat} {l l' : List (LoopE B × Code)} (h : AllOK P X k (l ++ l')) : AllOK P X k l' := fun p hp => h p (List.mem_append.2 (.inr hp))
theorem LOK.of {B : Type} {P : Program} {X : Ctx B} {k : Nat} : ∀ {c : Code}, AllOK P X k (needs X c) → LOK P X k c := by
  intro c
  induction c with
  | seq a b iha ihb => intro h; exact ⟨iha h.left, ihb h.right⟩
  | cond c a b iha ihb =>
    intro h
    simp only [LOK]
    simp only [needs] at h
    split
    · rename_i E hE
      rw [hE] at h
      exact h _ (List.mem_cons_self ..)
    · rename_i hE
      rw [hE] at h
      exact ⟨iha h.left, ihb h.right⟩
  | block id c ih =>
    intro h
    simp only [LOK]
    simp only [needs] at h
    split
    · rename_i E hE
      rw [hE] at h
      exact h _ (List.mem_cons_self ..)
    · rename_i hE
      rw [hE] at h
      exact ih h
  | region id ops d =>
    intro h
    cases d with
    | false => trivial
    | true =>
      simp only [LOK]
      simp only [needs] at h
      split
      · rename_i E hE
        rw [hE] at h
        exact h _ (List.mem_cons_self ..)
      · trivial
  | _ => intro _; trivial
theorem LOK.by {B : Type} {P : Program} {X : Ctx B} {k : Nat} {c : Code} (l : List (LoopE B × Code)) (h : needs X c = l) (h2 : AllOK P X k l) : LOK P X k c := LOK.of (by rw [h]; exact h2)
/-- A function is sound at every fuel. -/
theorem fn_all {P : Program} {D : FnDef} {X : Ctx (Tup D.rs × OutD)} {f : FuncId} {fn : Func} {body : Code} (hX : X.res = resOf X.T D.ps D.rs fn.results.toList) (hXno : X.no = noOf D.ps) (hXn : X.n = fn.ntmps) (hf : P.funcs[f]? = some fn) (hb : fn.body = some body)
    (hn : (fn.name == "runtime.NumGoroutine") = false) (h1 : oneOwn D.ps = true) (hT : TTok P X.T) (hG : ∀ k, EnvOK P k X.G) (hL : ∀ k, LOK P X k body) (h0 : ∀ x, D.f 0 x = none) (hs : ∀ k x, D.f (k + 1) x = fnK D X body k x) (k : Nat) : SoundAt P k f D.E := by
  cases k with
  | zero => exact .zero (run_enter hf hn (by rw [hb]; rfl)) h0
  | succ k => exact fn_sound hX hXno hXn hf hb hn h1 hT (hG k) (hL k) (hs k)
end Go.Proofs.Ytgpmbmnfcbippaa.Vs
