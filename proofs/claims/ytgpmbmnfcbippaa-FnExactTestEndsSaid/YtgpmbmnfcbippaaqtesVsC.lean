/- The machine Vs: what a piece of code does to an abstract state. -/
import Derived.Test.YtgpmbmnfcbippaaqtesVsB
set_option linter.unusedVariables false
set_option linter.unusedSimpArgs false
namespace Go.Proofs.Ytgpmbmnfcbippaa.Vs
open Go.RowKit

/-! ### What is known of the types -/
inductive TD where
  | scal | slice (e : TypeId) | struct (fs : List (Nat × TypeId)) | arr (n : Nat) (e : TypeId)
structure TI where
  d : TD
  ty : Ty
  bytes : Nat
  eqs : Bool := false
abbrev TT := List (TypeId × TI)
def TT.get (T : TT) (t : TypeId) : Option TI := (T.find? (fun p => p.1 == t)).map (·.2)
def TI.isAgg (i : TI) : Bool := match i.d with | .struct _ => true | .arr _ _ => true | _ => false
def TI.isScal (i : TI) : Bool := match i.d with | .scal => true | _ => false

/-! ### Typed interfaces -/
/-- A parameter or a result: its tree, whether it is a struct, and, where the function may write it: which cell of it is the row that may be written, and that row's type. -/
structure PK where
  t : Ty
  agg : Bool := false
  own : Option (Nat × TypeId × Ty) := none
  give : Bool := false
@[reducible] def Tup : List PK → Type
  | [] => Unit
  | p :: l => p.t.D × Tup l
abbrev OutD := Option (Sigma fun u : Ty => List u.D)
structure CallE where
  ps : List PK
  rs : List PK
  fn : {γ : Type} → Nat → Tup ps → (Tup rs → OutD → Option γ) → Option γ
abbrev Env := List (FuncId × CallE)
def Env.get (G : Env) (f : FuncId) : Option CallE := (G.find? (fun p => p.1 == f)).map (·.2)

/-! ### Atoms and trees -/
def zatoms : Ty → List At
  | .int k => [.int k 0] | .bool => [.bool false] | .str => [.str ⟨#[]⟩] | .pair a b => zatoms a ++ zatoms b | .slice _ _ => [.nils]
/-- The cells of a tree that lies in object i. -/
def atomsOf (i : Nat) : (t : Ty) → t.D → List At
  | .int k, n => [.int k n] | .bool, b => [.bool b] | .str, s => [.str s] | .pair a b, x => atomsOf i a x.1 ++ atomsOf i b x.2 | .slice _ t, xs => [.snap i t xs]
/-- The tree that a slice's atom leads to, objects of ex left out. -/
def readSl (st : St) (ex : List Nat) (t : Ty) : At → Option (List t.D)
  | .nils => some []
  | .sl i => if ex.contains i then none else match st.objs[i]? with
    | some (.row _ _ t' xs) => if h : t' = t then some (h ▸ xs) else none
    | _ => none
  | .snap i t' xs => if ex.contains i then none else if h : t' = t then some (h ▸ xs) else none
  | .inn i j => if ex.contains i then none else match st.objs[i]? with
    | some (.row _ _ (.slice _ t') xs) => if h : t' = t then some (h ▸ xs.getD j.toNat []) else none
    | _ => none
  | _ => none
def readTree (st : St) (ex : List Nat) : (t : Ty) → List At → Option t.D
  | .int k, [.int k' n] => if k' = k then some n else none
  | .bool, [.bool b] => some b
  | .str, [.str s] => some s
  | .pair a b, l => match readTree st ex a (l.take a.sz), readTree st ex b (l.drop a.sz) with
    | some x, some y => some (x, y)
    | _, _ => none
  | .slice _ t, [x] => readSl st ex t x
  | _, _ => none
/-- The same, but the objects are taken. -/
def takeTree : (t : Ty) → St → List At → Option (t.D × St)
  | .int k, st, [.int k' n] => if k' = k then some (n, st) else none
  | .bool, st, [.bool b] => some (b, st)
  | .str, st, [.str s] => some (s, st)
  | .pair a b, st, l => match takeTree a st (l.take a.sz) with
    | some (x, st1) => match takeTree b st1 (l.drop a.sz) with
      | some (y, st2) => some ((x, y), st2)
      | none => none
    | none => none
  | .slice e t, st, [x] => match x with
    | .nils => some ([], st)
    | .sl i => match st.objs[i]? with
      | some (.row true e' t' xs) => if h : t' = t then if e' = e then some (h ▸ xs, st.die i) else none else none
      | _ => none
    | _ => none
  | _, _, _ => none
/-- One cell of a tree turned. -/
def setLeaf : (t : Ty) → t.D → Nat → At → Option t.D
  | .int k, _, 0, .int k' n => if k' = k then some n else none
  | .bool, _, 0, .bool b => some b
  | .str, _, 0, .str s => some s
  | .pair a b, x, f, c => if f < a.sz then (match setLeaf a x.1 f c with | some y => some (y, x.2) | none => none) else (match setLeaf b x.2 (f - a.sz) c with | some y => some (x.1, y) | none => none)
  | _, _, _, _ => none
def setLeaves (t : Ty) : t.D → Nat → List At → Option t.D
  | x, _, [] => some x
  | x, f, c :: l => match setLeaf t x f c with | some y => setLeaves t y (f + 1) l | none => none

/-! ### Operands -/
def ofV1 : Value → At
  | .int k n => .int k n | .bool b => .bool b | .string s => .str s | .slice none 0 0 => .nils | _ => .un
def ofV : Value → TV
  | .agg cs => .sv (.agg (cs.toList.map ofV1))
  | v => .sv (.at (ofV1 v))
def St.ev (st : St) : Operand → TV
  | .tmp t => st.tmps.getD t (.sv (.at .un))
  | .const v => ofV v
  | _ => .sv (.at .un)
def At.isUn : At → Bool
  | .un => true | _ => false
def SV.cells : SV → Option (List At)
  | .at x => if x.isUn then none else some [x]
  | .agg l => some l
def TV.cells : TV → Option (List At)
  | .sv x => x.cells | .tup _ => none
def TV.atom : TV → At
  | .sv (.at x) => x | _ => .un
/-- A value of type i out of its cells. -/
def mkV (i : TI) (l : List At) : TV := if i.isAgg then .sv (.agg l) else .sv (.at (l.headD .un))
def St.push (st : St) (o : Ob) : St := { st with objs := st.objs ++ [o] }
def St.mk1 (st : St) (dst : Option Tmp) (o : Ob) (x : At) : St := (st.push o).put dst (.sv (.at x))

def wrapK : IntKind → Int → Int
  | .i64, n => wrap64 n | k, n => k.wrap n
section
variable {β : Type}
def opInt (op : BinOp) (k : IntKind) (a b : Int) (K : At → Option β) : Option β :=
  match op with
  | .add => K (.int k (wrapK k (a + b))) | .sub => K (.int k (wrapK k (a - b))) | .mul => K (.int k (wrapK k (a * b)))
  | .quo => if b = 0 then none else K (.int k (wrapK k (Int.tdiv a b)))
  | .rem => if b = 0 then none else K (.int k (Int.tmod a b))
  | .and => K (.int k (bits .and k a b)) | .or => K (.int k (bits .or k a b)) | .xor => K (.int k (bits .xor k a b)) | .andNot => K (.int k (bits .andNot k a b))
  | .eql => K (.bool (decide (a = b))) | .neq => K (.bool (decide (a ≠ b)))
  | .lss => K (.bool (decide (a < b))) | .leq => K (.bool (decide (a ≤ b))) | .gtr => K (.bool (decide (a > b))) | .geq => K (.bool (decide (a ≥ b)))
  | _ => none
def opShift (op : BinOp) (k : IntKind) (a b : Int) (K : At → Option β) : Option β :=
  match op with
  | .shl => if b < 0 then none else K (.int k (wrapK k (a * 2 ^ (min b.toNat k.bits))))
  | .shr => if b < 0 then none else K (.int k (Int.fdiv a (2 ^ (min b.toNat k.bits))))
  | _ => none
def isShift : BinOp → Bool
  | .shl => true | .shr => true | _ => false
def eqAtoms : List At → List At → Option Bool
  | [], [] => some true
  | .int .i64 a :: l, .int .i64 b :: l' => (eqAtoms l l').map (fun r => decide (a = b) && r)
  | _, _ => none
def opBin (T : TT) (op : BinOp) (t : TypeId) (x y : TV) (K : At → Option β) : Option β :=
  match x, y with
  | .sv (.at (.int k a)), .sv (.at (.int k' b)) => if isShift op then opShift op k a b K else if k = k' then opInt op k a b K else none
  | .sv (.at (.bool a)), .sv (.at (.bool b)) => match T.get t with
    | some i => if i.isScal = true ∧ i.ty = .bool then (match op with
      | .eql => K (.bool (a == b)) | .neq => K (.bool (!(a == b))) | _ => none) else none
    | none => none
  | .sv (.at (.str a)), .sv (.at (.str b)) => match op with
    | .add => if a.size + b.size ≤ 9223372036854775807 then K (.str (a ++ b)) else none
    | .eql => K (.bool (a.toList == b.toList)) | .neq => K (.bool (!(a.toList == b.toList))) | _ => none
  | .sv (.agg l), .sv (.agg l') => match T.get t with
    | some i => if i.eqs && l.length == i.ty.sz then match eqAtoms l l' with
        | some r => match op with
          | .eql => K (.bool r) | .neq => K (.bool (!r)) | _ => none
        | none => none
      else none
    | none => none
  | _, _ => none
def opUn (op : UnOp) (x : TV) (K : At → Option β) : Option β :=
  match op, x with
  | .not, .sv (.at (.bool b)) => K (.bool (!b))
  | .neg, .sv (.at (.int k n)) => K (.int k (wrapK k (0 - n)))
  | _, _ => none
def lim (bytes : Nat) : Nat := 140737488355328 / bytes
def inRange (j : Int) (n : Nat) (K : Option β) : Option β := if 0 ≤ j then if j < (n : Int) then K else none else none

/-- The parts of a struct's literal laid over its zero. -/
def fillParts (T : TT) (fs : List (Nat × TypeId)) (st : St) : List (Nat × Operand) → List At → Option (List At)
  | [], acc => some acc
  | (i, x) :: ps, acc => match fs[i]? with
    | some (off, t) => match T.get t, (st.ev x).cells with
      | some ti, some l => if l.length = ti.ty.sz ∧ off + l.length ≤ acc.length then fillParts T fs st ps (acc.take off ++ l ++ acc.drop (off + l.length)) else none
      | _, _ => none
    | none => none
/-- The elements of a slice's literal, in order, none left out. -/
def fillElems (t : Ty) : Nat → St → List (Nat × Operand) → Option (List t.D × St)
  | _, st, [] => some ([], st)
  | n, st, (i, x) :: ps => if i = n then match (st.ev x).cells with
      | some l => match takeTree t st l with
        | some (y, st1) => match fillElems t (n + 1) st1 ps with
          | some (ys, st2) => some (y :: ys, st2)
          | none => none
        | none => none
      | none => none
    else none

/-! Arrays of ints: their cells by number -/
def intsOf (k : IntKind) : List At → Option (List Int)
  | [] => some []
  | x :: l => match x with
    | .int k' n => if k' = k then match intsOf k l with
        | some ns => some (n :: ns)
        | none => none
      else none
    | _ => none
def cellsFrom (k : IntKind) (ns : List Int) : Nat → List Int → List At
  | _, [] => []
  | j, _ :: r => .int k (List.getD ns j 0) :: cellsFrom k ns (j + 1) r
def dynInt (i : TI) (cells : List At) : Option (IntKind × List Int) :=
  match i.ty with
  | .int k => if 8 ≤ cells.length ∧ i.isAgg = false then match intsOf k cells with
      | some ns => some (k, ns)
      | none => none
    else none
  | _ => none
def At.setw (l : List At) (f : Nat) (new : List At) : List At := l.take f ++ new ++ l.drop (f + new.length)
def setCells (i : TI) (cells : List At) (f : Nat) (l : List At) (K : List At → Option β) : Option β :=
  match dynInt i cells with
  | some (k, ns) => match l with
    | [.int k' m] => if k' = k then if f < ns.length then K (cellsFrom k (List.set ns f m) 0 ns) else none else none
    | _ => none
  | none => if f + l.length ≤ cells.length then K (At.setw cells f l) else none
def opIndexArr (n : Nat) (ti : TI) (x : At) (q : Int) (K : At → Option β) : Option β :=
  match x with
  | .ptr j f => if f = 0 ∧ ti.ty.sz = 1 then inRange q n (K (.ptr j q.toNat)) else none
  | _ => none
def opIndex (n : Nat) (ti : TI) (x y : TV) (K : At → Option β) : Option β :=
  match ti.ty with
  | .int k => match x with
    | .sv (.agg l) => match y with
      | .sv (.at (.int _ q)) => match intsOf k l with
        | some ns => if ns.length = n ∧ ti.isAgg = false then inRange q n (K (.int k (List.getD ns q.toNat 0))) else none
        | none => none
      | _ => none
    | _ => none
  | _ => none
def opLoad (i : TI) (st : St) (p : At) (K : TV → Option β) : Option β :=
  match p with
  | .ptr j f => match st.objs[j]? with
    | some (.box _ cells) => match dynInt i cells with
      | some (k, ns) => if f < ns.length then K (.sv (.at (.int k (List.getD ns f 0)))) else none
      | none => if f + i.ty.sz ≤ cells.length then K (mkV i ((cells.drop f).take i.ty.sz)) else none
    | _ => none
  | .ep j t q f => match st.objs[j]? with
    | some (.row _ _ t' xs) => if h : t' = t then
        match t, h ▸ xs with
        | .slice _ _, _ => if f = 0 ∧ i.isAgg = false then K (.sv (.at (.inn j q))) else none
        | t, xs => if f + i.ty.sz ≤ t.sz then K (mkV i (((atomsOf j t (xs.getD q.toNat t.zero)).drop f).take i.ty.sz)) else none
      else none
    | _ => none
  | .es j t x f => if f + i.ty.sz ≤ t.sz then K (mkV i (((atomsOf j t x).drop f).take i.ty.sz)) else none
  | _ => none
def backSt (st : St) (i : Nat) (o : Ob) : St := { (st.die i).kill i with objs := ((st.die i).kill i).objs.set i o }
/-- What an append to an inner row has given. -/
def appOf : List At → Option (Nat × Int × Sigma fun t : Ty => List t.D)
  | [.app j q t xs] => some (j, q, ⟨t, xs⟩)
  | _ => none
def opStore (i : TI) (st : St) (p : At) (v : TV) (K : St → Option β) : Option β :=
  match v.cells with
  | some l => if l.length = i.ty.sz ∧ l.all (fun x => !x.isUn) then
      match p with
      | .ptr j f => match st.objs[j]? with
        | some (.box e cells) => setCells i cells f l fun cs => K { st.kill j with objs := (st.kill j).objs.set j (.box e (cs.map (At.kill j))) }
        | _ => none
      | .ep j t q f => match st.objs[j]? with
        | some (.row fr e t' xs) => if h : t' = t then
            match setLeaves t (List.getD (h ▸ xs : List t.D) q.toNat t.zero) f l with
            | some y => K { st.kill j with objs := (st.kill j).objs.set j (.row fr e t ((h ▸ xs : List t.D).set q.toNat y)) }
            | none => match appOf l with
              | some (j2, q2, ⟨t2, ys⟩) => if f = 0 ∧ j2 = j then if q2 = q then if h2 : t2 = t then K { st.kill j with objs := (st.kill j).objs.set j (.row fr e t (h2 ▸ ys : List t.D)) } else none else none else none
              | none => if f = 0 then match takeTree t st l with
                | some (y, st1) => match st1.objs[j]? with
                  | some (.row fr2 e2 t2 xs2) => if h2 : t2 = t then K (backSt st1 j (.row fr2 e2 t ((h2 ▸ xs2 : List t.D).set q.toNat y))) else none
                  | _ => none
                | none => none
                else none
          else none
        | _ => none
      | _ => none
    else none
  | none => none
def opIndexAddr (i : TI) (st : St) (x : At) (n : Int) (K : At → Option β) : Option β :=
  match x with
  | .sl j => match st.objs[j]? with
    | some (.row _ _ t xs) => if t = i.ty then inRange n xs.length (K (.ep j t n 0)) else none
    | _ => none
  | .snap j t xs => if t = i.ty then inRange n xs.length (K (.es j t (xs.getD n.toNat t.zero) 0)) else none
  | .inn j q => match st.objs[j]? with
    | some (.row _ _ (.slice _ t) xs) => if t = i.ty then inRange n (xs.getD q.toNat []).length (K (.es j t ((xs.getD q.toNat []).getD n.toNat t.zero) 0)) else none
    | _ => none
  | _ => none
def opFieldAddr (fs : List (Nat × TypeId)) (x : At) (f : Nat) : Option At :=
  match fs[f]? with
  | some (off, _) => match x with
    | .ptr j g => some (.ptr j (g + off)) | .ep j t q g => some (.ep j t q (g + off)) | .es j t y g => some (.es j t y (g + off)) | _ => none
  | none => none
def opField (T : TT) (fs : List (Nat × TypeId)) (x : TV) (f : Nat) : Option TV :=
  match fs[f]?, x with
  | some (off, t), .sv (.agg l) => match T.get t with
    | some i => if off + i.ty.sz ≤ l.length then some (mkV i ((l.drop off).take i.ty.sz)) else none
    | none => none
  | _, _ => none
def lenOf (st : St) : At → Option Int
  | .nils => some 0
  | .sl i => match st.objs[i]? with | some (.row _ _ _ xs) => some (xs.length : Int) | _ => none
  | .snap _ _ xs => some (xs.length : Int)
  | .inn i j => match st.objs[i]? with | some (.row _ _ (.slice _ _) xs) => some ((xs.getD j.toNat []).length : Int) | _ => none
  | _ => none
def opLen (i : TI) (st : St) (x : At) : Option Int :=
  match i.d with
  | .slice _ => lenOf st x
  | .scal => match x with | .str s => if i.ty = .str then some (s.size : Int) else none | _ => none
  | _ => none
/-- append: ys are the new elements, x what is appended to. -/
def opAppend0 (e : TypeId) (i : TI) (st : St) (dst : Option Tmp) (x y : At) (K : St → Option β) : Option β :=
  match (if i.ty.flat then (readSl st [] i.ty y).map (fun ys => (ys, st)) else takeTree (.slice e i.ty) st [y]) with
  | some (ys, st1) => match x with
    | .nils => if ys.length ≤ lim i.bytes then K (st1.mk1 dst (.row true e i.ty ys) (.sl st1.objs.length)) else none
    | .sl j => match st1.objs[j]? with
      | some (.row fr e' t' xs) => if h : t' = i.ty then if e' = e then
          if xs.length + ys.length ≤ lim i.bytes then K ((st1.die j).mk1 dst (.row fr e i.ty ((h ▸ xs) ++ ys)) (.sl st1.objs.length)) else none
        else none else none
      | _ => none
    | _ => none
  | none => none
/-- append to a row that lies in a row: the outer row holds what it held till the new row is put into its place. -/
def opAppendIn (e : TypeId) (ti : TI) (st : St) (dst : Option Tmp) (i : Nat) (j : Int) (y : At) (K : St → Option β) : Option β :=
  if ti.ty.flat then match readSl st [] ti.ty y with
    | some ys => match st.objs[i]? with
      | some (.row fr e1 (.slice e' t') zs) => if h : t' = ti.ty then if e' = e then
          if (List.getD zs j.toNat []).length + ys.length ≤ lim ti.bytes then K ((backSt st i (.row fr e1 (.slice e' t') zs)).put dst (.sv (.at (.app i j (.slice e' t') (List.set (α := (Ty.slice e' t').D) zs j.toNat (List.getD zs j.toNat [] ++ h ▸ ys)))))) else none
        else none else none
      | _ => none
    | none => none
  else none
def innOf : At → Option (Nat × Int)
  | .inn i j => some (i, j)
  | _ => none
def opAppend (e : TypeId) (i : TI) (st : St) (dst : Option Tmp) (x y : At) (K : St → Option β) : Option β :=
  match innOf x with
  | some (k, j) => opAppendIn e i st dst k j y K
  | none => opAppend0 e i st dst x y K
def cutAt (lo hi : Option TV) (n : Nat) (K : Nat → Nat → Option β) : Option β :=
  let l : Option Int := match lo with | none => some 0 | some (.sv (.at (.int _ a))) => some a | _ => none
  let h : Option Int := match hi with | none => some (n : Int) | some (.sv (.at (.int _ a))) => some a | _ => none
  match l, h with
  | some a, some b => if 0 ≤ a then if a ≤ b then if b ≤ (n : Int) then K a.toNat b.toNat else none else none else none
  | _, _ => none
def opSlice (mv : Bool) (e : TypeId) (i : TI) (st : St) (dst : Option Tmp) (x : At) (lo hi : Option TV) (K : St → Option β) : Option β :=
  match x with
  | .nils => cutAt lo hi 0 fun _ _ => K (st.put dst (.sv (.at .nils)))
  | .sl j => match st.objs[j]? with
    | some (.row fr e' t xs) => if t = i.ty then cutAt lo hi xs.length fun a b =>
        if mv then (if hi.isNone ∧ e' = e then K ((st.die j).mk1 dst (.row fr e' t (xs.drop a)) (.sl st.objs.length)) else none)
        else K (st.put dst (.sv (.at (.snap j t ((xs.drop a).take (b - a)))))) else none
    | _ => none
  | .snap j t xs => if t = i.ty then cutAt lo hi xs.length fun a b => K (st.put dst (.sv (.at (.snap j t ((xs.drop a).take (b - a)))))) else none
  | .inn j q => match st.objs[j]? with
    | some (.row _ _ (.slice _ t) xs) => if t = i.ty then cutAt lo hi (xs.getD q.toNat []).length fun a b => K (st.put dst (.sv (.at (.snap j t (((xs.getD q.toNat []).drop a).take (b - a)))))) else none
    | _ => none
  | _ => none
end
end Go.Proofs.Ytgpmbmnfcbippaa.Vs
