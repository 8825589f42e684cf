/- The proof, part 3. -/
import Derived.Test.YtmhfhiofcoggbaaGreatqT2m1
set_option linter.unusedVariables false
set_option linter.unusedSimpArgs false
namespace Go.Proofs.YtmhfhiofcoggbaaGreat.Vs
open Go.RowKit
section
def sameOp:Operand→Operand→Bool
 | .tmp a,.tmp b=>a==b
 | .const (.int k n),.const (.int k' n')=>decide (k=k')&&decide (n=n')
 |_,_=>false
theorem ZFy{x y:Operand}(h:sameOp x y=true):x=y:=by
 unfold sameOp at h
 split at h
 ·rw[beq_iff_eq.1 h]
 ·simp at h;rw[h.1,h.2]
 ·cases h
section
variable {γ:Type}
noncomputable def stepOp1(T:TT)(G:Env)(mvs:List Tmp)(k:Nat)(o:Oper)(st:St)(K:St→Option γ):Option γ:=
  match o.op with
  | .move x => K (st.put o.dst (st.ev x))
  | .assign x=>K (st.put o.dst (st.ev x))
  | .pick c x y=>match st.ev c with
    | .sv (.at (.bool b)) => if b = true then K (st.put o.dst (st.ev x)) else K (st.put o.dst (st.ev y))
    | _ => none
  | .alloc t => match T.get t with
    | some i => K (st.mk1 o.dst (.box t (zatoms i.ty)) (.ptr st.objs.length 0))
    | none => none
  | .box t x => match (st.ev x).cells with
    | some l => if l.all (fun y => !y.isUn) = true then K (st.mk1 o.dst (.box t l) (.ptr st.objs.length 0)) else none
    | none => none
  | .build t ps=>match T.get t with
    | some i => match i.d with
      | .struct fs=>match fillParts T fs st ps.toList (zatoms i.ty) with
        |some l=>K (st.put o.dst (.sv (.agg l)))
        |none=>none
      | _ => none
    | none => none
  | .buildSlice t len ps=>match T.get t with
    | some i => match i.d with
      | .slice e=>match T.get e with
        |some ti=>opBuildSlice e ti st o.dst len ps.toList K
        |none=>none
      | _ => none
    | none => none
  | .load t p=>match T.get t with
    | some i => opLoad i st (st.ev p).atom fun x => K (st.put o.dst x)
    | none => none
  | .store t p x=>match o.dst with
    | none => match T.get t with
      |some i=>opStore i st (st.ev p).atom (st.ev x) K
      | none => none
    | some _ => none
  | .binOp op t x y _=>opBin T op t (st.ev x) (st.ev y) fun z=>K (st.put o.dst (.sv (.at z)))
  | .unOp op _ x=>opUn op (st.ev x) fun z=>K (st.put o.dst (.sv (.at z)))
  | .makeSlice t x y=>if sameOp x y=true then match T.get t with
      |some i=>match i.d with
        | .slice e=>match T.get e with
          |some ti=>match st.ev x with
            | .sv (.at (.int _ n))=>opMake e ti st o.dst n K
            |_=>none
          |none=>none
        | _ => none
      | none => none
    else none
  | .slice t x lo hi none=>match T.get t with
    | some i => match i.d with
      | .slice e=>match T.get e with
        |some ti=>opSlice (match o.dst with|some d=>mvs.contains d|none=>false) e ti st o.dst (st.ev x).atom (lo.map st.ev) (hi.map st.ev) K
        |none=>none
      | _ => none
    | none => none
  | .fieldAddr t x f=>match T.get t with
    | some i => match i.d with
      | .struct fs=>match opFieldAddr fs (st.ev x).atom f with
        |some z=>K (st.put o.dst (.sv (.at z)))
        |none=>none
      | _ => none
    | none => none
  | .indexAddr t x y=>match T.get t with
    | some i => match i.d with
      | .slice e=>match T.get e with
        |some ti=>match st.ev y with
          | .sv (.at (.int _ n))=>opIndexAddr ti st (st.ev x).atom n fun z=>K (st.put o.dst (.sv (.at z)))
          | _ => none
        |none=>none
      | _ => none
    | none => none
  | .extract x j=>match st.ev x with
    | .tup l => match l[j]? with
      |some z=>K (st.put o.dst (.sv z))
      | none => none
    | _ => none
  | .call c => match c.callee with
    | .builtin .len=>match c.args.toList,c.argTypes.toList with
      | [x], [t] => match T.get t with
        |some i=>match opLen i st (st.ev x).atom with
          |some n=>K (st.put o.dst (.sv (.at (.int .i64 n))))
          |none=>none
        |none=>none
      | _, _ => none
    | .builtin .append=>match c.args.toList,c.argTypes.toList with
      | [x, y], [t, t'] => if t' = t then match T.get t with
          |some i=>match i.d with
            | .slice e=>match T.get e with
              |some ti=>opAppend e ti st o.dst (st.ev x).atom (st.ev y).atom K
              |none=>none
            |_=>none
          |none=>none
        else none
      |_,_=>none
    | .value (.func f)=>match G.get f with
      |some E=>opCall k E st o.dst (c.args.toList.map st.ev) K
      |none=>none
    |_=>none
  |_=>none
end
section
variable {P:Program} {w w1 w0:World} {S0:Own} {st:St} {μ:List ORec} {a:Act}
structure EnvOK (P:Program) (k:Nat) (G:Env):Prop where
 mixed:P.follows .mixedOrders=true
 ok: ∀f E,G.get f=some E→SoundAt P k f E
 okc: ∀f E c,G.get f=some E→E.cl=some c→ClSound P k f c
def pureOp1:Op→Bool
 | .move _=>true| .assign _=>true| .pick _ _ _=>true| .build _ _=>true| .load _ _=>true| .binOp _ _ _ _ _=>true| .unOp _ _ _=>true
 | .slice _ _ _ _ _=>true| .fieldAddr _ _ _=>true| .field _ _ _=>true| .indexAddr _ _ _=>true| .index _ _ _=>true| .extract _ _=>true
 | .call c=>match c.callee with| .builtin .len=>true|_=>false
 |_=>false
theorem ZFK{γ:Type}{T:TT}{G:Env}{mvs:List Tmp}{k:Nat}{o:Oper}{K:St→Option γ}{r:γ}(hT:TTok P T)(h:Rel w0 S0 st μ a w)(hp:pureOp1 o.op=true)(hk:stepOp1 T G mvs k o st K=some r):Went P o a w (Nx w0 S0 K r):=by
 unfold stepOp1 at hk
 split at hk
 ·rename_i x ho; exact ZTC h (.inl ho) hk
 ·rename_i x ho; exact ZTC h (.inr ho) hk
 ·rename_i c x y ho
  split at hk
  ·rename_i b hc
   exact ZW3 h ho hc (by split at hk<;>rename_i hb<;>simp only[hb,if_true,if_false,Bool.false_eq_true]<;>exact hk)
  ·cases hk
 ·rename_i t ho
  split at hk
  ·rename_i i hi; rw [ho] at hp; cases hp
  ·cases hk
 ·rename_i t x ho
  split at hk
  ·rename_i l hl
   split at hk
   ·rename_i hu; rw [ho] at hp; cases hp
   ·cases hk
  ·cases hk
 ·rename_i t ps ho
  split at hk
  ·rename_i i hi
   split at hk
   ·rename_i fs hd
    split at hk
    ·rename_i l hl; exact ZV7 T hT h ho hi hd hl hk
    ·cases hk
   ·cases hk
  ·cases hk
 ·rename_i t len ps ho
  rw [ho] at hp; cases hp
 ·rename_i t p ho
  split at hk
  ·rename_i i hi; exact ZVI T hT h ho hi hk (fun _ hx => hx)
  ·cases hk
 ·rename_i t p x ho
  split at hk
  ·rename_i hd
   split at hk
   ·rename_i i hi; rw [ho] at hp; cases hp
   ·cases hk
  ·cases hk
 ·rename_i op t x y yt ho; exact ZRJ T hT h ho hk (fun _ hx => hx)
 ·rename_i op t x ho; exact ZX0 h ho hk (fun _ hx => hx)
 ·rename_i t x y ho
  split at hk
  ·rename_i hs
   have := ZFy hs
   subst this
   split at hk
   ·rename_i i hi
    split at hk
    ·rename_i e hd
     split at hk
     ·rename_i ti hti
      split at hk
      ·rename_i kk n hn; rw [ho] at hp; cases hp
      ·cases hk
     ·cases hk
    ·cases hk
   ·cases hk
  ·cases hk
 ·rename_i t x lo hi2 ho
  split at hk
  ·rename_i i hi
   split at hk
   ·rename_i e hd
    split at hk
    ·rename_i ti hti; exact ZVk T hT h ho hi hd hti hk
    ·cases hk
   ·cases hk
  ·cases hk
 ·rename_i t x f ho
  split at hk
  ·rename_i i hi
   split at hk
   ·rename_i fs hd
    split at hk
    ·rename_i z hz; exact ZQx T hT h ho hi hd hz hk
    ·cases hk
   ·cases hk
  ·cases hk
 ·rename_i t x y ho
  split at hk
  ·rename_i i hi
   split at hk
   ·rename_i e hd
    split at hk
    ·rename_i ti hti
     split at hk
     ·rename_i kk n hn; exact ZRg T hT h ho hi hd hti hn hk (fun _ hx => hx)
     ·cases hk
    ·cases hk
   ·cases hk
  ·cases hk
 ·rename_i x j ho
  split at hk
  ·rename_i l hl
   split at hk
   ·rename_i z hz; exact ZUh h ho hl hz hk
   ·cases hk
  ·cases hk
 ·rename_i c ho
  obtain ⟨callee,args,ats⟩:=c
  simp only at hk
  split at hk
  ·split at hk
   ·rename_i x t hargs hats
    have h1:args= #[x]:=by apply Array.ext';exact hargs
    have h2:ats= #[t]:=by apply Array.ext';exact hats
    subst h1 h2
    split at hk
    ·rename_i i hi
     split at hk
     ·rename_i n hn; exact ZWG T hT h ho hi hn hk
     ·cases hk
    ·cases hk
   ·cases hk
  ·split at hk
   ·rename_i x y t t' hargs hats
    split at hk
    ·rename_i ht
     subst ht
     have h1:args= #[x,y]:=by apply Array.ext';exact hargs
     have h2:ats= #[t',t']:=by apply Array.ext';exact hats
     subst h1 h2
     split at hk
     ·rename_i i hi
      split at hk
      ·rename_i e hd
       split at hk
       ·rename_i ti hti;rw[ho]at hp;cases hp
       ·cases hk
      ·cases hk
     ·cases hk
    ·cases hk
   ·cases hk
  ·rename_i f
   split at hk
   ·rename_i E hE;rw[ho]at hp;cases hp
   ·cases hk
  ·cases hk
 ·cases hk
def stillOp1(G:Env):Op→Bool
 | .alloc _=>true| .box _ _=>true| .buildSlice _ _ _=>true| .makeSlice _ _ _=>true
 | .call c=>match c.callee with
  | .value (.func f)=>match G.get f with
   |some E=>(ownI E.ps).isNone&&(boxI E.ps).isNone
   |none=>false
  |_=>false
 |_=>false
theorem ZBF{γ:Type}{T:TT}{G:Env}{mvs:List Tmp}{k:Nat}{o:Oper}{K:St→Option γ}{r:γ}{Q:Exit→Act→World→Prop}(hT:TTok P T)(hG:EnvOK P k G)(h:Rel w0 S0 st μ a w)(hp:stillOp1 G o.op=true)(hk:stepOp1 T G mvs k o st K=some r):o.wp P a w (Nxs w0 S0 w K r) Q:=by
 unfold stepOp1 at hk
 cases ho:o.op with
 |alloc t=>
  rw [ho] at hk
  simp only at hk
  split at hk
  ·rename_i i hi; exact ZV6 T hT h ho hi rfl hk
  ·cases hk
 |box t x=>
  rw [ho] at hk
  simp only at hk
  split at hk
  ·rename_i l hl
   split at hk
   ·rename_i hu; exact ZWD h ho hl hu hk
   ·cases hk
  ·cases hk
 |buildSlice t len ps=>
  rw [ho] at hk
  simp only at hk
  split at hk
  ·rename_i i hi
   split at hk
   ·rename_i e hd
    split at hk
    ·rename_i ti hti
     by_cases h0:len=0
     ·subst h0; exact ZLr T hT h ho hi hd hti hk
     ·exact ZOd T hT h ho hi hd hti hk h0
    ·cases hk
   ·cases hk
  ·cases hk
 |makeSlice t x y=>
  rw [ho] at hk
  simp only at hk
  split at hk
  ·rename_i hs
   have:=ZFy hs
   subst this
   split at hk
   ·rename_i i hi
    split at hk
    ·rename_i e hd
     split at hk
     ·rename_i ti hti
      split at hk
      ·rename_i kk n hn;exact ZVx (y:=x) T hT h ho hi hd hti hn hk
      ·cases hk
     ·cases hk
    ·cases hk
   ·cases hk
  ·cases hk
 |call c=>
  obtain ⟨callee,args,ats⟩:=c
  rw[ho]at hk hp
  simp only[stillOp1]at hk hp
  split at hp
  ·rename_i f
   split at hp
   ·rename_i E hE
    simp only[hE]at hk
    exact ZU4 (hG.ok f E hE) h ho (Option.isNone_iff_eq_none.1 ((Bool.and_eq_true _ _).mp hp).1) hk
   ·cases hp
  ·cases hp
 |_=>rw[ho]at hp;cases hp
theorem ZPO{γ:Type}{T:TT}{G:Env}{mvs:List Tmp}{k:Nat}{o:Oper}{K:St→Option γ}{r:γ}{Q:Exit→Act→World→Prop}(hT:TTok P T)(hG:EnvOK P k G)(h:Rel w0 S0 st μ a w)(hk:stepOp1 T G mvs k o st K=some r):o.wp P a w (Nx w0 S0 K r) Q:=by
 by_cases hp : pureOp1 o.op = true
 ·exact Went.wp (ZFK hT h hp hk)
 by_cases hs : stillOp1 G o.op = true
 ·exact ZVY (ZBF hT hG h hs hk)
 unfold stepOp1 at hk
 cases ho:o.op with
 |store t p x=>
  rw [ho] at hk
  simp only at hk
  split at hk
  ·rename_i hd
   split at hk
   ·rename_i i hi; exact ZVd T hT h ho hd hi hk (fun _ hx => hx)
   ·cases hk
  ·cases hk
 |call c=>
  obtain ⟨callee,args,ats⟩:=c
  rw [ho] at hk
  simp only at hk
  split at hk
  ·exact (hp (by rw [ho]; rfl)).elim
  ·split at hk
   ·rename_i x y t t' hargs hats
    split at hk
    ·rename_i ht
     subst ht
     have h1:args= #[x,y]:=by apply Array.ext';exact hargs
     have h2:ats= #[t',t']:=by apply Array.ext';exact hats
     subst h1 h2
     split at hk
     ·rename_i i hi
      split at hk
      ·rename_i e hd
       split at hk
       ·rename_i ti hti;exact ZUH T hT h ho hi hd hti hk
       ·cases hk
      ·cases hk
     ·cases hk
    ·cases hk
   ·cases hk
  ·rename_i f
   split at hk
   ·rename_i E hE;exact ZWt (hG.ok f E hE) h ho hk
   ·cases hk
  ·cases hk
 |_=>first|exact (hp (by rw[ho];rfl)).elim|exact (hs (by rw[ho];rfl)).elim|(rw[ho]at hk;cases hk)
noncomputable def stepX{γ:Type}(T:TT)(o:Oper)(st:St)(K:St→Option γ):Option (Option γ):=
 match o.op with
 | .convert src dst x=>some (opConv T src dst (st.ev x).atom fun z=>K (st.put o.dst (.sv (.at z))))
 | .nilCheck x=>some (opNil (st.ev x).atom fun z=>K (st.put o.dst (.sv (.at z))))
 | .binOp op t x y u=>if gtBig op y=true then some (opGtS (st.ev x) fun z=>K (st.put o.dst (.sv (.at z)))) else none
 |_=>none
noncomputable def stepB{γ:Type}(T:TT)(G:Env)(mvs:List Tmp)(k:Nat)(o:Oper)(st:St)(K:St→Option γ):Option γ:=match stepX T o st K with
 |some z=>z
 |none=>stepOp1 T G mvs k o st K
def pureX:Op→Bool
 | .convert _ _ _=>true
 | .nilCheck _=>true
 | .binOp _ _ _ _ _=>true
 |_=>false
def pureOp(op:Op):Bool:=pureOp1 op||pureX op
def stillOp(G:Env)(op:Op):Bool:=stillOp1 G op
theorem ZMe{γ:Type}{T:TT}{o:Oper}{K:St→Option γ}{r:γ}(hT:TTok P T)(h:Rel w0 S0 st μ a w)(hp:pureX o.op=true)(hk:stepX T o st K=some (some r)):Went P o a w (Nx w0 S0 K r):=by
 unfold stepX at hk
 split at hk
 ·rename_i src dst x ho
  injection hk with hk
  exact ZUm hT h ho hk (fun _ hx=>hx)
 ·rename_i x ho
  injection hk with hk
  exact ZWA h ho hk (fun _ hx=>hx)
 ·rename_i op t x y u ho
  split at hk
  ·rename_i hs
   injection hk with hk
   exact ZWJ T hT h ho hs hk (fun _ hx=>hx)
  ·cases hk
 ·cases hk
theorem ZSM{γ:Type}{T:TT}{o:Oper}{K:St→Option γ}{r:γ}{Q:Exit→Act→World→Prop}(hT:TTok P T)(h:Rel w0 S0 st μ a w)(hk:stepX T o st K=some (some r)):o.wp P a w (Nx w0 S0 K r) Q:=by
 have hp:pureX o.op=true:=by
  unfold stepX at hk
  split at hk
  ·rename_i ho;rw[ho];rfl
  ·rename_i ho;rw[ho];rfl
  ·rename_i ho;rw[ho];rfl
  ·cases hk
 exact Went.wp (ZMe hT h hp hk)
theorem ZU2{γ:Type}{T:TT}{o:Oper}{K:St→Option γ}{z:Option γ}(hk:stepX T o st K=some z)(hp:pureOp1 o.op=true):pureX o.op=true:=by
 unfold stepX at hk
 split at hk
 ·rename_i ho;rw[ho];rfl
 ·rename_i ho;rw[ho];rfl
 ·rename_i ho;rw[ho];rfl
 ·cases hk
theorem ZRV{γ:Type}{T:TT}{G:Env}{o:Oper}{K:St→Option γ}{z:Option γ}(hk:stepX T o st K=some z)(hp:stillOp1 G o.op=true):False:=by
 unfold stepX at hk
 split at hk
 ·rename_i ho;rw[ho]at hp;cases hp
 ·rename_i ho;rw[ho]at hp;cases hp
 ·rename_i ho;rw[ho]at hp;cases hp
 ·cases hk
theorem ZUe{γ:Type}{T:TT}{o:Oper}{K:St→Option γ}(hk:stepX T o st K=none)(hp:pureX o.op=true):pureOp1 o.op=true:=by
 unfold stepX at hk
 split at hk
 ·cases hk
 ·cases hk
 ·rename_i ho; rw [ho]; rfl
 ·rename_i h1 h2 h3
  cases ho:o.op<;>rw[ho]at hp<;>first|rfl|exact (h1 _ _ _ ho).elim|exact (h2 _ ho).elim|cases hp
theorem ZTp{γ:Type}{T:TT}{G:Env}{mvs:List Tmp}{k:Nat}{o:Oper}{K:St→Option γ}{r:γ}{Q:Exit→Act→World→Prop}(hT:TTok P T)(hG:EnvOK P k G)(h:Rel w0 S0 st μ a w)(hk:stepB T G mvs k o st K=some r):o.wp P a w (Nx w0 S0 K r) Q:=by
 unfold stepB at hk
 split at hk
 ·rename_i z hz;rw[hk]at hz;exact ZSM hT h hz
 ·exact ZPO hT hG h hk
theorem ZUf{γ:Type}{T:TT}{G:Env}{mvs:List Tmp}{k:Nat}{o:Oper}{K:St→Option γ}{r:γ}(hT:TTok P T)(h:Rel w0 S0 st μ a w)(hp:pureOp o.op=true)(hk:stepB T G mvs k o st K=some r):Went P o a w (Nx w0 S0 K r):=by
 unfold pureOp at hp
 rw[Bool.or_eq_true]at hp
 unfold stepB at hk
 split at hk
 ·rename_i z hz
  rw[hk]at hz
  exact ZMe hT h (hp.elim (ZU2 hz) id) hz
 ·rename_i hz
  exact ZFK hT h (hp.elim id (ZUe hz)) hk
theorem ZSU{γ:Type}{T:TT}{G:Env}{mvs:List Tmp}{k:Nat}{o:Oper}{K:St→Option γ}{r:γ}{Q:Exit→Act→World→Prop}(hT:TTok P T)(hG:EnvOK P k G)(h:Rel w0 S0 st μ a w)(hp:stillOp G o.op=true)(hk:stepB T G mvs k o st K=some r):o.wp P a w (Nxs w0 S0 w K r) Q:=by
 unfold stepB at hk
 split at hk
 ·rename_i z hz;exact (ZRV hz hp).elim
 ·exact ZBF hT hG h hp hk
noncomputable def stepY{γ:Type}(T:TT)(G:Env)(mvs:List Tmp)(k:Nat)(o:Oper)(st:St)(K:St→Option γ):Option (Option γ):=
 match o.op with
 | .binOp op _ x y _=>match o.dst with
  |some d=>if mvs.contains (d+200000)=true then some (opAddS op (st.ev x) (st.ev y) fun z=>K (st.put o.dst (.sv (.at z)))) else none
  |none=>none
 | .call c=>match c.callee with
  | .value (.func f)=>match G.get f with
   |some E=>match boxI E.ps with
    |some (eb,t)=>some (opCallB k E eb t st o.dst (c.args.toList.map st.ev) K)
    |none=>none
   |none=>none
  |_=>none
 |_=>none
noncomputable def stepC{γ:Type}(T:TT)(G:Env)(k:Nat)(o:Oper)(st:St)(K:St→Option γ):Option (Option γ):=
 match o.op with
 | .call c=>match c.callee with
  | .value (.func f)=>match G.get f with
   |some E=>match E.cl with
    |some cl=>if (ownI E.ps).isNone=false then some (cl.act k st o.dst (c.args.toList.map st.ev) K) else none
    |none=>none
   |none=>none
  |_=>none
 |_=>none
noncomputable def stepOp{γ:Type}(T:TT)(G:Env)(mvs:List Tmp)(k:Nat)(o:Oper)(st:St)(K:St→Option γ):Option γ:=match stepC T G k o st K with
 |some z=>z
 |none=>match stepY T G mvs k o st K with
  |some z=>z
  |none=>stepB T G mvs k o st K
theorem ZU7{γ:Type}{T:TT}{G:Env}{k:Nat}{o:Oper}{K:St→Option γ}{r:γ}(hT:TTok P T)(h:Rel w0 S0 st μ a w)(hp:pureOp o.op=true)(hk:stepC T G k o st K=some (some r)):Went P o a w (Nx w0 S0 K r):=by
 unfold stepC at hk
 split at hk
 ·rename_i c ho
  obtain ⟨callee,args,ats⟩:=c
  simp only at hk
  split at hk
  ·rw [ho] at hp
   simp only[pureOp,pureOp1,pureX]at hp
   cases hp
  ·cases hk
 ·cases hk
theorem ZTt{γ:Type}{T:TT}{G:Env}{k:Nat}{o:Oper}{K:St→Option γ}{r:γ}{Q:Exit→Act→World→Prop}(hT:TTok P T)(hG:EnvOK P k G)(h:Rel w0 S0 st μ a w)(hk:stepC T G k o st K=some (some r)):o.wp P a w (Nx w0 S0 K r) Q:=by
 unfold stepC at hk
 split at hk
 ·rename_i c ho
  obtain ⟨callee,args,ats⟩:=c
  simp only at hk
  split at hk
  ·rename_i f
   split at hk
   ·rename_i E hE
    split at hk
    ·rename_i cl hc
     split at hk
     ·injection hk with hk
      exact ZUd (l:=[]) (caps:=[]) (hG.okc f E cl hE hc) h ho rfl ⟨rfl,fun j x v hx=>by simp at hx⟩ (by simpa using hk)
     ·cases hk
    ·cases hk
   ·cases hk
  ·cases hk
 ·cases hk
theorem ZT1{γ:Type}{T:TT}{G:Env}{k:Nat}{o:Oper}{K:St→Option γ}{r:γ}{Q:Exit→Act→World→Prop}(hT:TTok P T)(h:Rel w0 S0 st μ a w)(hp:stillOp G o.op=true)(hk:stepC T G k o st K=some (some r)):o.wp P a w (Nxs w0 S0 w K r) Q:=by
 unfold stepC at hk
 split at hk
 ·rename_i c ho
  obtain ⟨callee,args,ats⟩:=c
  simp only at hk
  split at hk
  ·rename_i f
   split at hk
   ·rename_i E hE
    rw[ho]at hp
    simp only[stillOp,stillOp1,hE,Bool.and_eq_true,Option.isNone_iff_eq_none]at hp
    split at hk
    ·rw [hp.1] at hk
     cases hk
    ·cases hk
   ·cases hk
  ·cases hk
 ·cases hk
theorem ZLP{γ:Type}{T:TT}{G:Env}{mvs:List Tmp}{k:Nat}{o:Oper}{K:St→Option γ}{r:γ}(hT:TTok P T)(h:Rel w0 S0 st μ a w)(hp:pureOp o.op=true)(hk:stepY T G mvs k o st K=some (some r)):Went P o a w (Nx w0 S0 K r):=by
 unfold stepY at hk
 split at hk
 ·rename_i op t x y u ho
  split at hk
  ·split at hk
   ·injection hk with hk
    exact ZWg T hT h ho hk (fun _ hx=>hx)
   ·cases hk
  ·cases hk
 ·rename_i c ho
  obtain ⟨callee,args,ats⟩:=c
  simp only at hk
  split at hk
  ·rw [ho] at hp
   simp only[pureOp,pureOp1,pureX]at hp
   cases hp
  ·cases hk
 ·cases hk
theorem ZTA{γ:Type}{T:TT}{G:Env}{mvs:List Tmp}{k:Nat}{o:Oper}{K:St→Option γ}{r:γ}{Q:Exit→Act→World→Prop}(hT:TTok P T)(hG:EnvOK P k G)(h:Rel w0 S0 st μ a w)(hk:stepY T G mvs k o st K=some (some r)):o.wp P a w (Nx w0 S0 K r) Q:=by
 by_cases hp : pureOp o.op = true
 ·exact Went.wp (ZLP hT h hp hk)
 unfold stepY at hk
 split at hk
 ·rename_i op t x y u ho; exact (hp (by rw [ho]; rfl)).elim
 ·rename_i c ho
  obtain ⟨callee,args,ats⟩:=c
  simp only at hk
  split at hk
  ·rename_i f
   split at hk
   ·rename_i E hE
    split at hk
    ·rename_i eb t hbox
     injection hk with hk
     exact ZSQ (hG.ok f E hE) h ho hbox hk
    ·cases hk
   ·cases hk
  ·cases hk
 ·cases hk
theorem ZSR{γ:Type}{T:TT}{G:Env}{mvs:List Tmp}{k:Nat}{o:Oper}{K:St→Option γ}{z:Option γ}(hk:stepY T G mvs k o st K=some z)(hp:stillOp G o.op=true):False:=by
 unfold stepY at hk
 split at hk
 ·rename_i ho; rw [ho] at hp; cases hp
 ·rename_i c ho
  obtain ⟨callee,args,ats⟩:=c
  simp only at hk
  split at hk
  ·rename_i f
   split at hk
   ·rename_i E hE
    rw[ho]at hp
    simp only[stillOp,stillOp1,hE,Bool.and_eq_true,Option.isNone_iff_eq_none]at hp
    rw[hp.2]at hk
    cases hk
   ·cases hk
  ·cases hk
 ·cases hk
theorem Zfk{γ:Type}{T:TT}{G:Env}{mvs:List Tmp}{k:Nat}{o:Oper}{K:St→Option γ}{r:γ}{Q:Exit→Act→World→Prop}(hT:TTok P T)(hG:EnvOK P k G)(h:Rel w0 S0 st μ a w)(hk:stepOp T G mvs k o st K=some r):o.wp P a w (Nx w0 S0 K r) Q:=by
 unfold stepOp at hk
 split at hk
 ·rename_i z hz;rw[hk]at hz;exact ZTt hT hG h hz
 split at hk
 ·rename_i z hz;rw[hk]at hz;exact ZTA hT hG h hz
 ·exact ZTp hT hG h hk
theorem ZoW{γ:Type}{T:TT}{G:Env}{mvs:List Tmp}{k:Nat}{o:Oper}{K:St→Option γ}{r:γ}(hT:TTok P T)(h:Rel w0 S0 st μ a w)(hp:pureOp o.op=true)(hk:stepOp T G mvs k o st K=some r):Went P o a w (Nx w0 S0 K r):=by
 unfold stepOp at hk
 split at hk
 ·rename_i z hz;rw[hk]at hz;exact ZU7 hT h hp hz
 split at hk
 ·rename_i z hz;rw[hk]at hz;exact ZLP hT h hp hz
 ·exact ZUf hT h hp hk
theorem ZEJ{γ:Type}{T:TT}{G:Env}{mvs:List Tmp}{k:Nat}{o:Oper}{K:St→Option γ}{r:γ}{Q:Exit→Act→World→Prop}(hT:TTok P T)(hG:EnvOK P k G)(h:Rel w0 S0 st μ a w)(hp:stillOp G o.op=true)(hk:stepOp T G mvs k o st K=some r):o.wp P a w (Nxs w0 S0 w K r) Q:=by
 unfold stepOp at hk
 split at hk
 ·rename_i z hz;rw[hk]at hz;exact ZT1 hT h hp hz
 split at hk
 ·rename_i z hz;exact (ZSR hz hp).elim
 ·exact ZSU hT hG h hp hk
end
section
variable {γ:Type}
def guardAt(ops:Array Oper)(j:Nat):Option Tmp:=(ops[j]?).bind (·.dst)
def execOps (step : Oper → St → (St → Option γ) → Option γ) (ops : Array Oper) : List Oper → St → (St → Option γ) → Option γ
  | [], st, K => K st
  | o :: rest, st, K => match o.guard with
    | none => step o st fun st1 => execOps step ops rest st1 K
    | some (j, want) => match guardAt ops j with
      | none => none
      |some d=>match st.tmps[d]? with
        |some (.sv (.at (.bool b)))=>
          if b = true then
            (if want = true then step o (st.put (some d) (.sv (.at (.bool true)))) fun st1 => execOps step ops rest st1 K
             else execOps step ops rest ((st.put (some d) (.sv (.at (.bool true)))).put o.dst (.tup [])) K)
          else
            (if want = true then execOps step ops rest ((st.put (some d) (.sv (.at (.bool false)))).put o.dst (.tup [])) K
             else step o (st.put (some d) (.sv (.at (.bool false)))) fun st1=>execOps step ops rest st1 K)
        |some (.tup [])=>execOps step ops rest (st.put o.dst (.tup [])) K
        |_=>none
end
section
variable {P:Program} {w w1 w0:World} {S0:Own} {st:St} {μ:List ORec} {a:Act}
theorem ZzF{μ:List ORec}{w:World}:TR μ w (.tup []) undef:=⟨[],rfl,rfl,fun j x u hx=>by simp at hx⟩
theorem Zrj{ops:Array Oper}{j:Nat}{d:Tmp}(hg:guardAt ops j=some d)(h:Rel w0 S0 st μ a w)(hd:d<st.tmps.length):yielded ops a.tmps j=match a.tmps.getD d undef with| .bool b=>some b|_=>none:=by
 unfold yielded
 unfold guardAt at hg
 have:a.tmps[d]? =some (a.tmps.getD d undef):=ZSb (by rw[h.tm];exact hd)
 simp only[hg,Option.bind_some,this]
 cases a.tmps.getD d undef<;>rfl
theorem Zdn{γ:Type}{step:Oper→St→(St→Option γ)→Option γ}{ops:Array Oper}{K:St→Option γ}{r:γ}{Q:Exit→Act→World→Prop}(hQ: ∀a w,Nx w0 S0 K r a w→Q .normal a w)
  (hstep : ∀ (o : Oper) (st : St) (μ : List ORec) (a : Act) (w : World) (K' : St → Option γ), Rel w0 S0 st μ a w → step o st K' = some r → o.wp P a w (Nx w0 S0 K' r) Q) :
  ∀ (l : List Oper) (st : St) (μ : List ORec) (a : Act) (w : World), Rel w0 S0 st μ a w → execOps step ops l st K = some r → wpList P ops Q l a w
 | [], st, μ, a, w, h, hk => hQ a w ⟨st, μ, h, hk⟩
 |o::rest,st,μ,a,w,h,hk=>by
  have go : ∀ (st : St), Rel w0 S0 st μ a w → Region.wanted o (yielded ops a.tmps) = true → step o st (fun st1 => execOps step ops rest st1 K) = some r → wpList P ops Q (o :: rest) a w := by
   intro st h hw hk
   unfold wpList
   rw[if_pos hw]
   left
   have := hstep o st μ a w _ h hk
   exact Oper.wp_mono (fun a' w' ⟨st',μ',h',hk'⟩=>Zdn hQ hstep rest st' μ' a' w' h' hk') this
  have skip : ∀ (st : St), Rel w0 S0 st μ a w → Region.wanted o (yielded ops a.tmps) = false → execOps step ops rest (st.put o.dst (.tup [])) K = some r → wpList P ops Q (o :: rest) a w := by
   intro st h hw hk
   unfold wpList
   rw[if_neg (by rw[hw];simp)]
   exact Zdn hQ hstep rest _ μ _ w (h.put o.dst ZzF) hk
  simp only[execOps]at hk
  split at hk
  ·rename_i hg
   exact go st h (by unfold Region.wanted;rw[hg]) hk
  ·rename_i j want hg
   have hwant: ∀y,yielded ops a.tmps j=y→Region.wanted o (yielded ops a.tmps)=(y==some want):=by
    intro y hy
    unfold Region.wanted
    rw [hg]
    simp only[hy]
   split at hk
   ·cases hk
   ·rename_i d hd
    split at hk
    ·rename_i b hb
     have hlt:=(List.getElem?_eq_some_iff.1 hb).1
     have hv:a.tmps.getD d undef= .bool b:=(h.tv d _ hb).1
     have hy:=Zrj hd h hlt
     rw[hv]at hy
     have hre:Rel w0 S0 (st.put (some d) (.sv (.at (.bool b)))) μ a w:=h.retell (t:=d) (x:= .sv (.at (.bool b))) (by rw[hv];exact ⟨rfl,.inr rfl⟩)
     split at hk
     ·rename_i hbt
      subst hbt
      split at hk
      ·rename_i hw; subst hw
       exact go _ hre (by rw[hwant _ hy];rfl) hk
      ·rename_i hw
       exact skip _ hre (by rw[hwant _ hy];cases want<;>simp_all) hk
     ·rename_i hbf
      have hbf:b=false:=by simpa using hbf
      subst hbf
      split at hk
      ·rename_i hw; subst hw
       exact skip _ hre (by rw[hwant _ hy];rfl) hk
      ·rename_i hw
       exact go _ hre (by rw[hwant _ hy];cases want<;>simp_all) hk
    ·rename_i hb
     have hlt:=(List.getElem?_eq_some_iff.1 hb).1
     obtain ⟨vs,hv,hl,_⟩:=h.tv d _ hb
     obtain rfl:vs=[]:=List.eq_nil_of_length_eq_zero hl
     have hy:=Zrj hd h hlt
     rw[hv]at hy
     exact skip st h (by rw[hwant _ hy];rfl) hk
    ·cases hk
end
end
section
inductive Sh where
 |int (k:IntKind)|bool|str|sl (i:Nat)|snap (i:Nat) (t:Ty)|ptr (i f:Nat)|inn (i:Nat)|mp (i:Nat)|cv (i:Nat)|pc (i j:Nat)|es (i:Nat) (t:Ty)
@[reducible] def Sh.D : Sh → Type
 | .int _=>Int| .bool=>Bool| .str=>ByteArray| .sl _=>Unit| .snap _ t=>List t.D| .ptr _ _=>Unit| .inn _=>Int| .mp _=>Unit| .cv _=>Unit| .pc _ _=>Unit| .es _ t=>t.D
def Sh.at:(s:Sh)→s.D→At
 | .int k,n=> .int k n| .bool,b=> .bool b| .str,s=> .str s| .sl i,_=> .sl i| .snap i t,xs=> .snap i t xs| .ptr i f,_=> .ptr i f| .inn i,j=> .inn i j| .mp i,_=> .mp i| .cv i,_=> .cv i| .pc i j,_=> .pc i j| .es i t,x=> .es i t x 0
@[reducible] def ShL : List Sh → Type
 |[]=>Unit
 |s::l=>s.D×ShL l
def ShL.ats:(l:List Sh)→ShL l→List At
 |[],_=>[]
 |s::l,x=>s.at x.1::ShL.ats l x.2
inductive TSh where
 |at (s:Sh)|agg (l:List Sh)
@[reducible] def TSh.D : TSh → Type
 | .at s=>s.D| .agg l=>ShL l
def TSh.tv:(s:TSh)→s.D→TV
 | .at s,x=> .sv (.at (s.at x))| .agg l,x=> .sv (.agg (ShL.ats l x))
inductive OSh where
 |ro|row (fr:Bool) (e:TypeId) (t:Ty)|box (e:TypeId) (l:List Sh)|mp (t:TypeId) (ag:Bool) (n:Nat) (u:Ty)|fx (t:Ty)|clo (f:Nat) (l:List Sh)|vrow (d:Nat) (e:TypeId) (u:Ty)
abbrev O0:OSh:= .row true 76 P6
abbrev O1:OSh:= .row true 3 I6
abbrev O2:OSh:= .box 29 [.int .i64,.int .i64,.snap 0 P6]
abbrev O3:OSh:= .box 105 [.sl 2,.int .i64,.int .u64]
abbrev O4:OSh:= .box 27 [.int .i64,.int .i64,.snap 0 P6,.snap 0 I6,.snap 0 I6]
abbrev O5:OSh:= .box 40 [.int .i64,.int .i64,.int .i64]
abbrev O6:OSh:= .box 29 [.int .i64,.int .i64,.sl 4]
abbrev O7:OSh:= .box 29 [.int .i64,.int .i64,.sl 6]
abbrev O8:OSh:= .box 27 [.int .i64,.int .i64,.sl 8,.sl 9,.sl 10]
abbrev O9:OSh:= .box 27 [.int .i64,.int .i64,.sl 4,.sl 5,.sl 6]
abbrev Oa:OSh:= .box 29 [.int .i64,.int .i64,.sl 3]
abbrev Obq:OSh:= .box 29 [.int .i64,.int .i64,.sl 2]
abbrev Oc:OSh:= .fx (.int .u8)
abbrev Od:OSh:= .box 29 [.int .i64,.int .i64,.sl 5]
abbrev Oe:OSh:= .box 111 [.sl 2,.sl 3,.sl 4,.int .i64]
abbrev Of:OSh:= .box 29 [.int .i64,.int .i64,.sl 1]
abbrev Og:OSh:= .row true 58 T6
abbrev Oh:OSh:= .row true 22 (.slice 3 I6)
abbrev Oi:OSh:= .row false 76 P6
abbrev Oj:OSh:= .box 24 [.int .i64,.sl 4]
abbrev Ok:OSh:= .box 24 [.int .i64,.sl 6]
abbrev Ol:OSh:= .box 76 [.int .i64,.int .i64]
abbrev Om:OSh:= .row true 40 T6
abbrev On:OSh:= .box 58 [.int .i64,.int .i64,.int .i64]
abbrev Oo:OSh:= .box 29 [.int .i64,.int .i64,.sl 12]
@[reducible] def OSh.D : OSh → Type
 | .ro=>Unit| .row _ _ t=>List t.D| .box _ l=>ShL l| .mp _ _ _ u=>List (List Int×u.D)| .fx t=>List t.D| .clo _ l=>ShL l| .vrow _ _ u=>List (List u.D)
def OSh.ob:(s:OSh)→s.D→Ob
 | .ro,_=> .ro| .row fr e t,xs=> .row fr e t xs| .box e l,x=> .box e (ShL.ats l x)| .mp t ag n u,es=> .mp t ag n u es| .fx t,xs=> .fx t xs| .clo f l,x=> .clo f (ShL.ats l x)| .vrow d e u,xs=> .vrow (some d) e u xs
@[reducible] def OL : List OSh → Type
 |[]=>Unit
 |s::l=>s.D×OL l
def OL.obs:(l:List OSh)→OL l→List Ob
 |[],_=>[]
 |s::l,x=>s.ob x.1::OL.obs l x.2
@[reducible] def TL : List (Tmp × TSh) → Type
 |[]=>Unit
 |s::l=>s.2.D×TL l
def TL.put:(l:List (Tmp×TSh))→TL l→List TV→List TV
 |[],_,ts=>ts
 |s::l,x,ts=>(TL.put l x.2 ts).set s.1 (s.2.tv x.1)
structure Spec where
 objs:List OSh
 tmps:List (Tmp×TSh)
@[reducible] def Spec.D (s : Spec) : Type := OL s.objs × TL s.tmps
def Spec.st(s:Spec)(n:Nat)(x:s.D):St:={tmps:=TL.put s.tmps x.2 (List.replicate n (.sv (.at .un))),objs:=OL.obs s.objs x.1}
def Sh.fit(σ:List Nat):(s:Sh)→At→Option s.D
 | .int k,.int k' n=>if k'=k then some n else none
 | .bool,.bool b=>some b
 | .str,.str s=>some s
 | .sl i,.sl j=>if σ[i]? =some j then some () else none
 | .snap i t,.snap j t' xs=>if σ[i]? =some j then if h:t'=t then some (h▸xs) else none else none
 | .snap i t,.nils=>if i<σ.length then some [] else none
 | .ptr i f,.ptr j g=>if σ[i]? =some j∧g=f then some () else none
 | .inn i,.inn j q=>if σ[i]? =some j then some q else none
 | .mp i,.mp j=>if σ[i]? =some j then some () else none
 | .cv i,.cv j=>if σ[i]? =some j then some () else none
 | .pc i j,.pc a b=>if σ[i]? =some a∧σ[j]? =some b then some () else none
 | .es i t,.es j t' x f=>if σ[i]? =some j∧f=0 then if h:t'=t then some (h▸x) else none else none
 |_,_=>none
def ShL.fit(σ:List Nat):(l:List Sh)→List At→Option (ShL l)
 | [], [] => some ()
 |s::l,x::xs=>match s.fit σ x with
  |some d=>match ShL.fit σ l xs with
   |some ds=>some (d,ds)
   |none=>none
  |none=>none
 |_,_=>none
def TSh.fit(σ:List Nat):(s:TSh)→TV→Option s.D
 | .at s,.sv (.at x)=>s.fit σ x
 | .agg l,.sv (.agg xs)=>ShL.fit σ l xs
 |_,_=>none
def OSh.fit(σ:List Nat):(s:OSh)→Ob→Option s.D
 | .ro,_=>some ()
 | .row fr e t,.row fr' e' t' xs=>if (fr=true→fr'=true)∧e'=e then if h:t'=t then some (h▸xs) else none else none
 | .box e l,.box e' xs=>if e'=e then ShL.fit σ l xs else none
 | .mp t ag n u,.mp t' ag' n' u' es=>if t'=t∧ag'=ag∧n'=n then if h:u'=u then some (h▸es) else none else none
 | .fx t,.fx t' xs=>if h:t'=t then some (h▸xs) else none
 | .clo f l,.clo f' xs=>if f'=f then ShL.fit σ l xs else none
 | .vrow d e u,.row _ e' t xs=>if (σ[d]?).isSome=true∧e'=e∧t.sz=1 then (match xs with|[]=>some []|_::_=>none) else none
 | .vrow d e u,.vrow (some d') e' u' xs=>if σ[d]? =some d'∧e'=e then if h:u'=u then some (h▸xs) else none else none
 |_,_=>none
def OL.fit(σ:List Nat)(st:St):(l:List OSh)→(js:List Nat)→Option (OL l)
 | [], [] => some ()
 |s::l,j::js=>match st.objs[j]? with
  |some o=>match s.fit σ o with
   |some d=>match OL.fit σ st l js with
    |some ds=>some (d,ds)
    |none=>none
   |none=>none
  |none=>none
 |_,_=>none
def TL.fit(σ:List Nat)(st:St):(l:List (Tmp×TSh))→Option (TL l)
 | [] => some ()
 |s::l=>match st.tmps[s.1]? with
  |some x=>match s.2.fit σ x with
   |some d=>match TL.fit σ st l with
    |some ds=>some (d,ds)
    |none=>none
   |none=>none
  |none=>none
def distinct:List Nat→Bool
 |[]=>true
 |x::l=> !l.contains x&&distinct l
def ownFirst(no:Nat)(σ:List Nat):Bool:=(List.range (no+1)).all fun j=>σ[j]? ==some j
def Spec.fit(s:Spec)(no:Nat)(σ:List Nat)(st:St):Option s.D:=
 if distinct σ=true∧ownFirst no σ=true then match OL.fit σ st s.objs σ with
  |some x=>match TL.fit σ st s.tmps with
   |some y=>some (x,y)
   |none=>none
  |none=>none
 else none
section
variable {P:Program} {w w1 w0:World} {S0:Own} {st:St} {μ μ':List ORec} {a:Act} {σ:List Nat}
def Renamed(σ:List Nat)(μ μ':List ORec):Prop:=μ'.length=σ.length∧ ∀(i j:Nat),σ[i]? =some j→ ∃r,μ[j]? =some r∧μ'[i]? =some r
theorem Sh.fit_sound(hσ:Renamed σ μ μ'): ∀{s:Sh} {x:At} {d:s.D} {v:Value},s.fit σ x=some d→AR μ w x v→AR μ' w (s.at d) v:=by
 intro s x d v hf hx
 have get: ∀{i j:Nat} {r:ORec},σ[i]? =some j→μ[j]? =some r→μ'[i]? =some r:=by
  intro i j r hi hr
  obtain ⟨q,h1,h2⟩:=hσ.2 i j hi
  rw [hr] at h1
  injection h1 with h1
  rw [h1]; exact h2
 cases s with
 |int k=>
  cases x<;>simp only[Sh.fit]at hf<;>try (cases hf;done)
  split at hf
  ·rename_i hk; subst hk; injection hf with hf; subst hf; exact hx
  ·cases hf
 |bool=>cases x<;>simp only[Sh.fit]at hf<;>first|(injection hf with hf;subst hf;exact hx)|cases hf
 |str=>cases x<;>simp only[Sh.fit]at hf<;>first|(injection hf with hf;subst hf;exact hx)|cases hf
 |sl i=>
  cases x<;>simp only[Sh.fit]at hf<;>try (cases hf;done)
  split at hf
  ·rename_i hi
   obtain ⟨r,hr,h2⟩:=hx
   exact ⟨r,get hi hr,h2⟩
  ·cases hf
 |snap i t=>
  cases x<;>simp only[Sh.fit]at hf<;>try (cases hf;done)
  ·split at hf
   ·rename_i hi
    injection hf with hf
    subst hf
    obtain ⟨r,_,h2⟩:=hσ.2 i σ[i] (List.getElem?_eq_getElem hi)
    exact ⟨r,h2,by rw[show v=_ from hx];exact RowRd.nils _ _ _ _⟩
   ·cases hf
  ·split at hf
   ·rename_i hi
    split at hf
    ·rename_i ht
     subst ht
     injection hf with hf
     subst hf
     obtain ⟨r,hr,h2⟩:=hx
     exact ⟨r,get hi hr,h2⟩
    ·cases hf
   ·cases hf
 |ptr i f=>
  cases x<;>simp only[Sh.fit]at hf<;>try (cases hf;done)
  split at hf
  ·rename_i hi
   obtain ⟨r,hr,h2⟩:=hx
   exact ⟨r,get hi.1 hr,by rw[←hi.2];exact h2⟩
  ·cases hf
 |inn i=>
  cases x<;>simp only[Sh.fit]at hf<;>try (cases hf;done)
  split at hf
  ·rename_i hi
   injection hf with hf
   subst hf
   obtain ⟨r,ad,n,c,hr,h2⟩:=hx
   exact ⟨r,ad,n,c,get hi hr,h2⟩
  ·cases hf
 |mp i=>
  cases x<;>simp only[Sh.fit]at hf<;>try (cases hf;done)
  split at hf
  ·rename_i hi
   obtain ⟨r,hr,h2⟩:=hx
   exact ⟨r,get hi hr,h2⟩
  ·cases hf
 |cv i=>
  cases x<;>simp only[Sh.fit]at hf<;>try (cases hf;done)
  split at hf
  ·rename_i hi
   obtain ⟨r,hr,h2⟩:=hx
   exact ⟨r,get hi hr,h2⟩
  ·cases hf
 |pc i j=>
  cases x<;>simp only[Sh.fit]at hf<;>try (cases hf;done)
  split at hf
  ·rename_i hi
   obtain ⟨r,q,g,hr,hq,h2⟩:=hx
   exact ⟨r,q,g,get hi.1 hr,get hi.2 hq,h2⟩
  ·cases hf
 |es i t=>
  cases x<;>simp only[Sh.fit]at hf<;>try (cases hf;done)
  split at hf
  ·rename_i hi
   split at hf
   ·rename_i ht
    subst ht
    injection hf with hf
    subst hf
    obtain ⟨r,ad,cs,hr,h2⟩:=hx
    exact ⟨r,ad,cs,get hi.1 hr,by rw[←hi.2];exact h2⟩
   ·cases hf
  ·cases hf
theorem ShL.fit_sound(hσ:Renamed σ μ μ'): ∀{l:List Sh} {xs:List At} {d:ShL l} {vs:List Value},ShL.fit σ l xs=some d→AL μ w xs vs→AL μ' w (ShL.ats l d) vs
 | [], [], d, vs, _, h => ⟨h.1, fun j x v hx => by simp [ShL.ats] at hx⟩
 | [], _ :: _, d, vs, hf, h => by simp [ShL.fit] at hf
 |_::_,[],d,vs,hf,h=>by simp[ShL.fit]at hf
 |s::l,x::xs,d,vs,hf,h=>by
  simp only[ShL.fit]at hf
  split at hf
  ·rename_i d1 h1
   split at hf
   ·rename_i ds h2
    injection hf with hf
    subst hf
    match vs,h with
    |v::vs,h=>
     have hx:=h.2 0 x v rfl rfl
     have hrest:AL μ w xs vs:=⟨by simpa using h.1,fun j y u hy hu=>h.2 (j+1) y u (by simpa using hy) (by simpa using hu)⟩
     have ih:=ShL.fit_sound hσ h2 hrest
     refine ⟨by simp[ShL.ats,ih.1],fun j y u hy hu=> ?_⟩
     cases j with
     |zero=>
      simp only[ShL.ats,List.getElem?_cons_zero]at hy hu
      injection hy with hy;injection hu with hu
      subst hy hu
      exact Sh.fit_sound hσ h1 hx
     |succ j=>exact ih.2 j y u (by simpa[ShL.ats]using hy) (by simpa using hu)
   ·cases hf
  ·cases hf
theorem TSh.fit_sound(hσ:Renamed σ μ μ'){s:TSh}{x:TV}{d:s.D}{v:Value}(hf:s.fit σ x=some d)(hx:TR μ w x v):TR μ' w (s.tv d) v:=by
 cases s with
 |«at» s=>
  match x,hf,hx with
  | .sv (.at x),hf,hx=>
   refine ⟨Sh.fit_sound hσ hf hx.1,?_⟩
   rcases hx.2 with rfl|h2
   ·cases s<;>simp[TSh.fit,Sh.fit]at hf
   ·exact .inr h2
  | .sv (.agg _),hf,hx=>cases hf
  | .tup _,hf,hx=>cases hf
 |agg l=>
  match x,hf,hx with
  | .sv (.agg xs),hf,hx=>
   obtain ⟨vs,hv,hA⟩:=hx
   exact ⟨vs,hv,ShL.fit_sound hσ hf hA⟩
  | .sv (.at _),hf,hx=>cases hf
  | .tup _,hf,hx=>cases hf
theorem OSh.fit_sound(hσ:Renamed σ μ μ'){s:OSh}{o:Ob}{d:s.D}{r:ORec}(hf:s.fit σ o=some d)(h:OR μ w o r):OR μ' w (s.ob d) r:=by
  cases s with
  | ro => trivial
  |row fr e t=>
    cases o<;>simp only[OSh.fit]at hf<;>try (cases hf;done)
    split at hf
    · rename_i he
      split at hf
      · rename_i ht
        subst ht
        injection hf with hf
        subst hf
        rw [← he.2]
        exact h
      · cases hf
    · cases hf
  |box e l=>
    cases o<;>simp only[OSh.fit]at hf<;>try (cases hf;done)
    split at hf
    · rename_i he
      subst he
      obtain ⟨h0,vs,h1,h2,h3⟩:=h
      exact ⟨h0,vs,h1,ShL.fit_sound hσ hf h2,h3⟩
    · cases hf
  |mp t ag n u=>
    cases o<;>simp only[OSh.fit]at hf<;>try (cases hf;done)
    split at hf
    · rename_i he
      obtain ⟨rfl,rfl,rfl⟩:=he
      split at hf
      · rename_i hu
        subst hu
        injection hf with hf
        subst hf
        exact h
      · cases hf
    · cases hf
  |fx t=>
    cases o<;>simp only[OSh.fit]at hf<;>try (cases hf;done)
    split at hf
    · rename_i ht
      subst ht
      injection hf with hf
      subst hf
      exact h
    · cases hf
  |clo f l=>
    cases o<;>simp only[OSh.fit]at hf<;>try (cases hf;done)
    split at hf
    · rename_i he
      subst he
      obtain ⟨vs,h1,h2⟩:=h
      exact ⟨vs,h1,ShL.fit_sound hσ hf h2⟩
    · cases hf
  |vrow d e u=>
    cases o with
    |vrow od e' u' xs=>
      cases od with
      |none=>simp only[OSh.fit]at hf;cases hf
      |some d'=>
        simp only[OSh.fit]at hf
        split at hf
        · rename_i hc
          obtain ⟨hσd,rfl⟩:=hc
          split at hf
          · rename_i hu
            subst hu
            injection hf with hf
            subst hf
            refine RowRep.imp (R:=VRow μ d' u') (R':=VRow μ' d u') h (fun _ hk=>hk) (fun _ _=>rfl) (fun T T' x cs _ _ ⟨c,hc,q,hq,hrd⟩=>⟨c,hc,q,?_,hrd⟩)
            obtain ⟨q2,h1,h2⟩:=hσ.2 d d' hσd
            rw[hq]at h1
            injection h1 with h1
            rw[h1]
            exact h2
          ·cases hf
        · cases hf
    |row fr e' t xs=>
      simp only[OSh.fit]at hf
      split at hf
      · rename_i hc
        obtain ⟨_,rfl,hsz⟩:=hc
        cases xs with
        |nil=>
          injection hf with hf
          subst hf
          obtain ⟨inner,hq,hb,f,_⟩:=(show RowRep (Rep t) t.sz e' w r.ok [] r.v from h)
          rw[hsz]at hq
          exact ⟨inner,hq,hb,f,fun j x hj=>by simp at hj⟩
        |cons x xs=>cases hf
      ·cases hf
    |_=>simp only[OSh.fit]at hf;cases hf
theorem OSh.fit_owned{s:OSh}{o:Ob}{d:s.D}(hf:s.fit σ o=some d)(ho:(s.ob d).owned=true):o.owned=true:=by
 cases s with
 |ro=>cases ho
 |row fr e t=>cases o<;>simp only[OSh.fit]at hf<;>first|rfl|cases hf
 |box e l=>cases o<;>simp only[OSh.fit]at hf<;>first|rfl|cases hf
 |mp t ag n u=>cases o<;>simp only[OSh.fit]at hf<;>first|rfl|cases hf
 |fx t=>cases ho
 |clo f l=>cases ho
 |vrow d e u=>cases o with
  |vrow=>rfl
  |row=>rfl
  |_=>simp only[OSh.fit]at hf;cases hf
theorem OL.fit_get: ∀{l:List OSh} {js:List Nat} {x:OL l},OL.fit σ st l js=some x→l.length=js.length∧(OL.obs l x).length=js.length∧ ∀(i j:Nat),js[i]? =some j→ ∃(o:Ob) (s:OSh) (d:s.D),st.objs[j]? =some o∧s.fit σ o=some d∧(OL.obs l x)[i]? =some (s.ob d)
 | [], [], x, _ => ⟨rfl, rfl, fun i j h => by simp at h⟩
 | [], _ :: _, x, h => by simp [OL.fit] at h
 |_::_,[],x,h=>by simp[OL.fit]at h
 |s::l,j::js,x,h=>by
  simp only[OL.fit]at h
  split at h
  ·rename_i o ho
   split at h
   ·rename_i d hd
    split at h
    ·rename_i ds hds
     injection h with h
     subst h
     obtain ⟨h1,h2,h3⟩:=OL.fit_get hds
     refine ⟨by simp[h1],by simp[OL.obs,h2],fun i jj hi=> ?_⟩
     cases i with
     |zero=>
      simp only[List.getElem?_cons_zero]at hi
      injection hi with hi
      subst hi
      exact ⟨o,s,d,ho,hd,rfl⟩
     |succ i=>exact h3 i jj (by simpa using hi)
    ·cases h
   ·cases h
  ·cases h
theorem TL.put_len: ∀{l:List (Tmp×TSh)} {x:TL l} {ts:List TV},(TL.put l x ts).length=ts.length
 |[],_,_=>rfl
 |s::l,x,ts=>by simp[TL.put,TL.put_len]
theorem TL.fit_sound(h:Rel w0 S0 st μ a w)(hσ:Renamed σ μ μ'): ∀{l:List (Tmp×TSh)} {x:TL l} {n:Nat},TL.fit σ st l=some x→ ∀(i:Nat) y,(TL.put l x (List.replicate n (.sv (.at .un))))[i]? =some y→TR μ' w y (a.tmps.getD i undef)
 | [], x, n, _, i, y, hy => by
  simp only[TL.put,List.getElem?_replicate]at hy
  split at hy
  ·injection hy with hy
   subst hy
   exact ⟨trivial,.inl rfl⟩
  ·cases hy
 | s :: l, x, n, hf, i, y, hy => by
  simp only[TL.fit]at hf
  split at hf
  ·rename_i z hz
   split at hf
   ·rename_i d hd
    split at hf
    ·rename_i ds hds
     injection hf with hf
     subst hf
     simp only[TL.put,List.getElem?_set]at hy
     split at hy
     ·rename_i hi
      split at hy
      ·injection hy with hy
       subst hy
       rw[←hi]
       exact TSh.fit_sound hσ hd (h.tv _ z hz)
      ·cases hy
     ·exact TL.fit_sound h hσ hds i y hy
    ·cases hf
   ·cases hf
  ·cases hf
theorem ZIY: ∀{σ:List Nat},distinct σ=true→ ∀(i j x:Nat),σ[i]? =some x→σ[j]? =some x→i=j
 | [], _, i, j, x, hi, _ => by simp at hi
 |y::σ,h,i,j,x,hi,hj=>by
  simp only[distinct,Bool.and_eq_true,Bool.not_eq_true',List.contains_eq_mem,decide_eq_false_iff_not]at h
  cases i with
  |zero=>
   obtain rfl:y=x:=by simpa using hi
   cases j with
   |zero=>rfl
   |succ j=>exact absurd (List.mem_of_getElem? (by simpa using hj)) h.1
  |succ i=>
   cases j with
   |zero=>
    obtain rfl:y=x:=by simpa using hj
    exact absurd (List.mem_of_getElem? (by simpa using hi)) h.1
   |succ j=>rw[ZIY h.2 i j x (by simpa using hi) (by simpa using hj)]
theorem Spec.fit_sound(h:Rel w0 S0 st μ a w){s:Spec}{no n:Nat}{x:s.D}(hno:S0.ov.length=no)(hn:st.tmps.length=n)(hf:s.fit no σ st=some x): ∃μ',Rel w0 S0 (s.st n x) μ' a w:=by
 unfold Spec.fit at hf
 split at hf
 ·rename_i hc
  obtain ⟨hdis,hown⟩:=hc
  split at hf
  ·rename_i xo hxo
   split at hf
   ·rename_i xt hxt
    injection hf with hf
    subst hf
    obtain ⟨l1,l2,hget⟩:=OL.fit_get hxo
    have hrec: ∀(i j:Nat),σ[i]? =some j→ ∃r,μ[j]? =some r:=fun i j hij=>by
     obtain ⟨o,_,_,ho,_⟩:=hget i j hij
     exact h.some_rec ho
    have hσ:Renamed σ μ (σ.map fun j=>(μ[j]?).getD ⟨undef,0,fun _=>False⟩):=⟨by simp,fun i j hij=>by
     obtain ⟨r,hr⟩:=hrec i j hij
     exact ⟨r,hr,by rw[List.getElem?_map,hij];simp[hr]⟩⟩
    generalize (σ.map fun j=>(μ[j]?).getD ⟨undef,0,fun _=>False⟩)=μ' at hσ
    have back: ∀(i:Nat) r,μ'[i]? =some r→ ∃j,σ[i]? =some j∧μ[j]? =some r:=by
     intro i r hr
     have hlt:i<σ.length:=by rw[←hσ.1];exact (List.getElem?_eq_some_iff.1 hr).1
     obtain ⟨q,h1,h2⟩:=hσ.2 i σ[i] (List.getElem?_eq_getElem hlt)
     rw[hr]at h2
     injection h2 with h2
     exact ⟨σ[i],List.getElem?_eq_getElem hlt,by rw[h1,h2]⟩
    have obk: ∀(i:Nat) o',(OL.obs s.objs xo)[i]? =some o'→ ∃(j:Nat) (o:Ob) (sh:OSh) (d:sh.D),σ[i]? =some j∧st.objs[j]? =some o∧sh.fit σ o=some d∧o'=sh.ob d:=by
     intro i o' ho'
     have hlt:i<σ.length:=by rw[←l2];exact (List.getElem?_eq_some_iff.1 ho').1
     obtain ⟨o,sh,d,h1,h2,h3⟩:=hget i σ[i] (List.getElem?_eq_getElem hlt)
     rw[ho']at h3
     injection h3 with h3
     exact ⟨σ[i],o,sh,d,List.getElem?_eq_getElem hlt,h1,h2,h3⟩
    refine ⟨μ',⟨by rw[hσ.1];exact l2.symm,by simp only[Spec.st,TL.put_len,List.length_replicate];rw[h.tm,hn],fun i y hy=>TL.fit_sound h hσ hxt i y hy,fun i o' r ho' hr=> ?_,fun i j o' ri rj hij ho' hw hri hrj k hk=> ?_,fun i o' r ho' hr hw k hk=> ?_,fun i e t xs r ho' hr k hk=> ?_,fun i r hr k hk=> ?_,h.kp,h.df,fun j v hv=> ?_,h.gb,fun i r hr k hk=>by obtain ⟨j,h1,h2⟩:=back i r hr;exact h.al j r h2 k hk⟩⟩
    ·obtain ⟨j, o, sh, d, h1, h2, h3, rfl⟩ := obk i o' ho'
     obtain ⟨j2,g1,g2⟩:=back i r hr
     rw[h1]at g1
     injection g1 with g1
     subst g1
     exact OSh.fit_sound hσ h3 (h.ob j o r h2 g2)
    ·obtain ⟨ji, o, sh, d, h1, h2, h3, rfl⟩ := obk i o' ho'
     obtain ⟨j2,g1,g2⟩:=back i ri hri
     rw[h1]at g1
     injection g1 with g1
     subst g1
     obtain ⟨jj,f1,f2⟩:=back j rj hrj
     exact h.dj ji jj o ri rj (fun e=>hij (ZIY hdis i j ji h1 (by rw[e];exact f1))) h2 (OSh.fit_owned h3 hw) g2 f2 k hk
    ·obtain ⟨ji, o, sh, d, h1, h2, h3, rfl⟩ := obk i o' ho'
     obtain ⟨j2,g1,g2⟩:=back i r hr
     rw[h1]at g1
     injection g1 with g1
     subst g1
     exact h.wr ji o r h2 g2 (OSh.fit_owned h3 hw) k hk
    ·obtain ⟨ji, o, sh, d, h1, h2, h3, h4⟩ := obk i _ ho'
     obtain ⟨j2,g1,g2⟩:=back i r hr
     rw[h1]at g1
     injection g1 with g1
     subst g1
     cases sh with
     |ro=>cases h4
     |box e l=>cases h4
     |mp t2 ag n u=>cases h4
     |fx t2=>cases h4
     |clo f l=>cases h4
     |vrow d e u=>cases h4
     |row fr e' t'=>
      have hfr:fr=true:=by cases h4;rfl
      subst hfr
      cases o<;>simp only[OSh.fit]at h3<;>try (cases h3;done)
      split at h3
      ·rename_i hc
       have:=hc.1 trivial
       subst this
       exact h.fr ji _ _ _ r h2 g2 k hk
      ·cases h3
    ·obtain ⟨j, h1, h2⟩ := back i r hr
     exact h.lt j r h2 k hk
    ·obtain ⟨r, hr, hv2⟩ := h.ov j v hv
     have hj:j<no:=by rw[←hno];exact (List.getElem?_eq_some_iff.1 hv).1
     have:=List.all_eq_true.1 hown (j+1) (List.mem_range.2 (by omega))
     have:=beq_iff_eq.1 this
     obtain ⟨q,g1,g2⟩:=hσ.2 (j+1) (j+1) this
     rw[hr]at g1
     injection g1 with g1
     subst g1
     exact ⟨r,g2,hv2⟩
   ·cases hf
  ·cases hf
 ·cases hf
end
end
section
def rowAt(s:Spec)(i:Nat):Option (TypeId×Ty):=match s.objs[i]? with|some (.row _ e t)=>some (e,t)|some (.vrow _ e u)=>some (e,.slice 0 u)|_=>none
def fxAt(s:Spec)(i:Nat):Option Ty:=match s.objs[i]? with|some (.fx t)=>some t|_=>none
def unOwn(m:Nat)(st:St):St:=match st.objs[m]? with
 |some (.row _ _ t' xs)=>{st with objs:=st.objs.set m (.fx t' xs)}
 |_=>st
def fxPut(t:Ty)(d:Nat)(xs:List t.D)(j c:Nat)(st:St):St:=match st.objs[d]? with
 |some o=>if o.owned=true then st else match st.objs[j]? with
  |some (.box e' cells)=>if c<cells.length then {st.push (.fx t xs) with objs:=(st.push (.fx t xs)).objs.set j (.box e' (cells.set c (.sl st.objs.length)))} else st
  |_=>st
 |none=>st
def fixFx(t:Ty)(j:Nat)(c:Nat)(st:St):St:=match st.objs[j]? with
 |some (.box _ cells)=>match cells[c]? with
  |some (.snap d t' xs)=>if t'=t then fxPut t' d xs j c (unOwn d st) else st
  |some (.sl m)=>match st.objs[m]? with
   |some (.row _ _ t' xs)=>if t'=t then fxPut t' m xs j c (unOwn m st) else st
   |_=>st
  |_=>st
 |_=>st
def fixCells(s:Spec)(j:Nat)(e:TypeId):Nat→List Sh→St→St
 | _, [], st => st
 | c, .sl i :: l, st => match fxAt s i with
  |some t=>fixCells s j e (c+1) l (fixFx t j c st)
  |none=>match st.objs[j]? with
  |some (.box e' cells)=>match cells[c]? with
   |some .nils=>match rowAt s i with
    |some (e1,t)=>fixCells s j e (c+1) l {st.push (.row true e1 t []) with objs:=(st.push (.row true e1 t [])).objs.set j (.box e' (cells.set c (.sl st.objs.length)))}
    |none=>fixCells s j e (c+1) l st
   |_=>fixCells s j e (c+1) l st
  |_=>fixCells s j e (c+1) l st
 |c,_::l,st=>fixCells s j e (c+1) l st
def fixTmps(s:Spec):List (Tmp×TSh)→St→St
 | [], st => st
 | (d, .at (.sl i)) :: l, st => match st.tmps[d]? with
  |some (.sv (.at .nils))=>match rowAt s i with
   |some (e1,t)=>fixTmps s l {st.push (.row true e1 t []) with tmps:=st.tmps.set d (.sv (.at (.sl st.objs.length)))}
   |none=>fixTmps s l st
  |_=>fixTmps s l st
 | (d, .at (.ptr i 0)) :: l, st => match st.tmps[d]? with
  |some (.sv (.at (.ptr j 0)))=>match s.objs[i]? with
   |some (.box e sh)=>fixTmps s l (fixCells s j e 0 sh st)
   |_=>fixTmps s l st
  |_=>fixTmps s l st
 |_::l,st=>fixTmps s l st
def meet(i j:Nat)(g:List (Option Nat)):List (Option Nat):=match g[i]? with|some none=>g.set i (some j)|_=>g
def Sh.guess:Sh→At→List (Option Nat)→List (Option Nat)
 | .sl i,.sl j,g=>meet i j g
 | .snap i _,.snap j _ _,g=>meet i j g
 | .ptr i _,.ptr j _,g=>meet i j g
 | .inn i,.inn j _,g=>meet i j g
 | .mp i,.mp j,g=>meet i j g
 | .cv i,.cv j,g=>meet i j g
 | .pc i j,.pc a b,g=>meet j b (meet i a g)
 | .es i _,.es j _ _ _,g=>meet i j g
 |_,_,g=>g
def guessL:List Sh→List At→List (Option Nat)→List (Option Nat)
 |s::l,x::xs,g=>guessL l xs (s.guess x g)
 |_,_,g=>g
def guessT(st:St):List (Tmp×TSh)→List (Option Nat)→List (Option Nat)
 |[],g=>g
 |(d,.at s)::l,g=>guessT st l (match st.tmps[d]? with|some (.sv (.at x))=>s.guess x g|_=>g)
 |(d,.agg ss)::l,g=>guessT st l (match st.tmps[d]? with|some (.sv (.agg xs))=>guessL ss xs g|_=>g)
def guessO(st:St):Nat→List OSh→List (Option Nat)→List (Option Nat)
 |_,[],g=>g
 |i,.box _ ss::l,g=>guessO st (i+1) l (match g[i]? with
  |some (some j)=>match st.objs[j]? with
   |some (.box _ xs)=>guessL ss xs g
   |_=>g
  |_=>g)
 |i,.clo _ ss::l,g=>guessO st (i+1) l (match g[i]? with
  |some (some j)=>match st.objs[j]? with
   |some (.clo _ xs)=>guessL ss xs g
   |_=>g
  |_=>g)
 |i,.vrow d _ _::l,g=>guessO st (i+1) l (match g[i]? with
  |some (some j)=>match st.objs[j]? with
   |some (.vrow (some d') _ _ _)=>meet d d' g
   |_=>g
  |_=>g)
 |i,_::l,g=>guessO st (i+1) l g
def Spec.guess(s:Spec)(no:Nat)(st:St):List Nat:=
 (guessO st 0 s.objs (guessT st s.tmps ((List.range s.objs.length).map fun i=>if i≤no then some i else none))).map fun x=>x.getD 0
def Spec.enter(s:Spec)(no:Nat)(st:St):Option s.D:=
 s.fit no (s.guess no (fixTmps s s.tmps st)) (fixTmps s s.tmps st)
section
variable {P:Program} {w w1 w0:World} {S0:Own} {st:St} {μ μ':List ORec} {a:Act}
theorem Rel.reob(h:Rel w0 S0 st μ a w){i:Nat}{o o':Ob}(ho:st.objs[i]? =some o)(hw:o'.owned=true→o.owned=true)(hn: ∀r,μ[i]? =some r→OR μ w o' r)(hf: ∀e t xs,o'= .row true e t xs→ ∃e t xs,o= .row true e t xs):Rel w0 S0 {st with objs:=st.objs.set i o'} μ a w:=by
 have hob: ∀(j:Nat) p,(st.objs.set i o')[j]? =some p→(j=i∧p=o')∨(j≠i∧st.objs[j]? =some p):=by
  intro j p hp
  rw[List.getElem?_set]at hp
  split at hp
  ·rename_i hij
   split at hp
   ·injection hp with hp
    exact .inl ⟨hij.symm,hp.symm⟩
   ·cases hp
  ·rename_i hij
   exact .inr ⟨fun e=>hij e.symm,hp⟩
 refine ⟨by simp[h.len],h.tm,h.tv,fun j p q hp hq=> ?_,fun j l p rj rl hjl hp hwp hrj hrl k hk=> ?_,fun j p q hp hq hwp k hk=> ?_,fun j e t xs q hp hq k hk=> ?_,h.lt,h.kp,h.df,h.ov,h.gb,h.al⟩
 ·rcases hob j p hp with ⟨rfl, rfl⟩ | ⟨hj, hp⟩
  ·exact hn q hq
  ·exact h.ob j p q hp hq
 ·rcases hob j p hp with ⟨rfl, rfl⟩ | ⟨hj, hp⟩
  ·exact h.dj j l o rj rl hjl ho (hw hwp) hrj hrl k hk
  ·exact h.dj j l p rj rl hjl hp hwp hrj hrl k hk
 ·rcases hob j p hp with ⟨rfl, rfl⟩ | ⟨hj, hp⟩
  ·exact h.wr j o q ho hq (hw hwp) k hk
  ·exact h.wr j p q hp hq hwp k hk
 ·rcases hob j _ hp with ⟨rfl, he⟩ | ⟨hj, hp⟩
  ·obtain ⟨e', t', xs', rfl⟩ := hf e t xs he.symm
   exact h.fr j e' t' xs' q ho hq k hk
  ·exact h.fr j e t xs q hp hq k hk
theorem Rel.nilRow(h:Rel w0 S0 st μ a w)(e:TypeId)(t:Ty):Rel w0 S0 (st.push (.row true e t [])) (μ++[⟨.slice none 0 0,0,fun _=>False⟩]) a w:=
 h.push (o:= .row true e t []) (r:=⟨.slice none 0 0,0,fun _=>False⟩) (Rep.nils _ _ _ _ _) (fun _ _ _ _ _ hk=>hk.elim) (fun _ _ _ _ _ _ _ _ hk=>hk.elim) (fun _ _ hk=>hk.elim) (fun _ _ _ _ _ hk=>hk.elim) (fun _ hk=>hk.elim)
theorem ZUz(h:Rel w0 S0 st μ a w)(w:World):AR (μ++[⟨.slice none 0 0,0,fun _=>False⟩]) w (.sl st.objs.length) (.slice none 0 0):=
 ⟨⟨.slice none 0 0,0,fun _=>False⟩,by rw[←h.len];exact ZfY _ _,rfl,none,0,0,rfl⟩
theorem ZJ0(h:Rel w0 S0 st μ a w)(m:Nat):Rel w0 S0 (unOwn m st) μ a w∧(unOwn m st).tmps=st.tmps∧(∀j o,j≠m→st.objs[j]? =some o→(unOwn m st).objs[j]? =some o)∧(∀fr e t xs,st.objs[m]? =some (.row fr e t xs)→(unOwn m st).objs[m]? =some (.fx t xs)):=by
 unfold unOwn
 split
 ·rename_i fr e1 t' xs hom
  refine ⟨h.reob (o':= .fx t' xs) hom (fun hf=>by cases hf) (fun r hr=>by
   have hrow:RowRep (Rep t') t'.sz e1 w r.ok xs r.v:=h.ob m _ r hom hr
   obtain ⟨A,c',hA,hrest⟩:=hrow.rd
   exact ⟨⟨A,c',hA,hrest⟩,A,_,c',hA⟩) (fun _ _ _ he=>by cases he),rfl,fun j o hj ho=> ?_,fun fr e t xs' ho=> ?_⟩
  ·rw [List.getElem?_set_ne (Ne.symm hj)]; exact ho
  ·rw [hom] at ho
   injection ho with ho
   injection ho with _ _ h3 h4
   subst h3
   have h4:=eq_of_heq h4
   subst h4
   rw[List.getElem?_set_self (List.getElem?_eq_some_iff.1 hom).1]
 ·rename_i hn
  exact ⟨h,rfl,fun j o _ ho=>ho,fun fr e t xs ho=>(hn fr e t xs ho).elim⟩
theorem ZIW{t:Ty}{d:Nat}{xs:List t.D}{j c:Nat}(h:Rel w0 S0 st μ a w)(hx: ∀(rd:ORec) (e':TypeId) (cells:List At) (v:Value),μ[d]? =some rd→st.objs[j]? =some (.box e' cells)→(∀(vs:List Value) (rb:ORec),μ[j]? =some rb→w.heap[rb.blk]? =some (.cells vs.toArray e' (0,0))→vs[c]? =some v→RowRd (Rd t) t.sz w rd.ok xs v)): ∃μ',Rel w0 S0 (fxPut t d xs j c st) μ' a w∧(fxPut t d xs j c st).tmps=st.tmps:=by
 unfold fxPut
 split
 ·rename_i o hod
  split
  ·exact ⟨μ, h, rfl⟩
  ·rename_i hown
   split
   ·rename_i e' cells hob
    obtain ⟨rb,hrb⟩:=h.some_rec hob
    obtain ⟨rd,hrd⟩:=h.some_rec hod
    obtain ⟨g0,vs,g1,g2,g3⟩:=h.ob j _ rb hob hrb
    have hlt:=(List.getElem?_eq_some_iff.1 hob).1
    split
    ·rename_i hcl
     obtain ⟨v,hv⟩: ∃v,vs[c]? =some v:=⟨_,List.getElem?_eq_getElem (by rw[g2.1];exact hcl)⟩
     have hrow:=hx rd e' cells v hrd hob vs rb hrb g1 hv
     have hsl: ∃A n c',v= .slice A n c':=by
      obtain ⟨A,c',hA,_⟩:=hrow
      exact ⟨A,_,c',hA⟩
     have h1:=h.push (o:= .fx t xs) (r:=⟨v,0,rd.ok⟩) ⟨hrow,hsl⟩ (fun hf=>by cases hf) (fun i oi ri hoi hwi hri k hk hk2=>by
      have hne:i≠d:=by intro he;subst he;rw[hod]at hoi;injection hoi with hoi;exact hown (hoi▸hwi)
      exact h.dj i d oi ri rd hne hoi hwi hri hrd k hk hk2) (fun hf=>by cases hf) (fun _ _ _ he=>by cases he) (fun k hk=>h.lt d rd hrd k hk) (.inr (fun k hk=>h.al d rd hrd k hk))
     have hob1:(st.push (.fx t xs)).objs[j]? =some (.box e' cells):=by simp only[St.push];rw[List.getElem?_append_left hlt];exact hob
     have h2:=h1.reob (o':= .box e' (cells.set c (.sl st.objs.length))) hob1 (fun h=>h) (fun r hr=>by
      obtain ⟨g0',vs',g1',g2',g3'⟩:=h1.ob j _ r hob1 hr
      have hrr:r=rb:=by
       rw[List.getElem?_append_left (by rw[h.len];exact hlt)]at hr
       rw[hrb]at hr;injection hr with hr;exact hr.symm
      subst hrr
      have hvs:vs'=vs:=by
       rw[g1]at g1'
       injection g1' with g1'
       injection g1' with g1' _ _
       exact (List.toArray_inj g1').symm
      subst hvs
      refine ⟨g0',vs',g1',⟨by simp[g2'.1],fun m y u hy hu=> ?_⟩,g3'⟩
      rw[List.getElem?_set]at hy
      split at hy
      ·rename_i hcm
       injection hy with hy
       subst hy hcm
       rw[hv]at hu
       injection hu with hu
       subst hu
       exact ⟨⟨v,0,rd.ok⟩,by rw[←h.len];exact ZfY _ _,rfl,hsl⟩
      ·exact g2'.2 m y u hy hu) (fun _ _ _ he=>by cases he)
     exact ⟨_,h2,rfl⟩
    ·exact ⟨μ,h,rfl⟩
   ·exact ⟨μ,h,rfl⟩
 ·exact ⟨μ,h,rfl⟩
theorem ZT6{t:Ty}{j c:Nat}(h:Rel w0 S0 st μ a w): ∃μ',Rel w0 S0 (fixFx t j c st) μ' a w∧(fixFx t j c st).tmps=st.tmps:=by
 unfold fixFx
 split
 ·rename_i e0 cells hob
  obtain ⟨rb,hrb⟩:=h.some_rec hob
  obtain ⟨g0,vs,g1,g2,g3⟩:=h.ob j _ rb hob hrb
  have same: ∀{e':TypeId} {vs':List Value} {rb':ORec},μ[j]? =some rb'→w.heap[rb'.blk]? =some (.cells vs'.toArray e' (0,0))→vs'=vs:=by
   intro e' vs' rb' hr hh
   rw [hrb] at hr
   injection hr with hr
   subst hr
   rw [g1] at hh
   injection hh with hh
   injection hh with hh _ _
   exact (List.toArray_inj hh).symm
  split
  ·rename_i d t' xs hc
   split
   ·obtain ⟨h1, h2, _⟩ := ZJ0 h d
    obtain ⟨μ',h3,h4⟩:=ZIW (t:=t') (d:=d) (xs:=xs) (j:=j) (c:=c) h1 (fun rd e' cells' v hrd _ vs' rb' hrb' hh hv=>by
     rw[same hrb' hh]at hv
     obtain ⟨rd',hrd',hrow⟩:=g2.2 c _ v hc hv
     rw[hrd]at hrd'
     injection hrd' with hrd'
     subst hrd'
     exact hrow)
    exact ⟨μ',h3,h4.trans h2⟩
   ·exact ⟨μ, h, rfl⟩
  ·rename_i m hc
   split
   ·rename_i fr e1 t' xs hom
    split
    ·obtain ⟨h1, h2, _⟩ := ZJ0 h m
     obtain ⟨μ',h3,h4⟩:=ZIW (t:=t') (d:=m) (xs:=xs) (j:=j) (c:=c) h1 (fun rd e' cells' v hrd _ vs' rb' hrb' hh hv=>by
      rw[same hrb' hh]at hv
      obtain ⟨rd',hrd',hv',_⟩:=g2.2 c _ v hc hv
      rw[hrd]at hrd'
      injection hrd' with hrd'
      subst hrd'
      have hrow:RowRep (Rep t') t'.sz e1 w rd.ok xs rd.v:=h.ob m _ rd hom hrd
      rw[hv']
      exact hrow.rd)
     exact ⟨μ',h3,h4.trans h2⟩
    ·exact ⟨μ,h,rfl⟩
   ·exact ⟨μ,h,rfl⟩
  ·exact ⟨μ,h,rfl⟩
 ·exact ⟨μ,h,rfl⟩
theorem Z11{s:Spec}{j:Nat}{e:TypeId}: ∀{l:List Sh} {c:Nat} {st:St} {μ:List ORec},Rel w0 S0 st μ a w→ ∃μ',Rel w0 S0 (fixCells s j e c l st) μ' a w∧(fixCells s j e c l st).tmps=st.tmps
 | [], c, st, μ, h => ⟨μ, h, rfl⟩
 | .sl i::l,c,st,μ,h=>by
  simp only[fixCells]
  split
  ·rename_i tf hfx
   obtain ⟨μ1,h1,h2⟩:=ZT6 (t:=tf) (j:=j) (c:=c) h
   obtain ⟨μ',h3,h4⟩:=Z11 (s:=s) (j:=j) (e:=e) (l:=l) (c:=c+1) h1
   exact ⟨μ',h3,h4.trans h2⟩
  split
  ·rename_i e' cells hob
   split
   ·rename_i hc
    split
    ·rename_i e1 t hr
     have h1:=h.nilRow e1 t
     have hlt:=(List.getElem?_eq_some_iff.1 hob).1
     have hob1:(st.push (.row true e1 t [])).objs[j]? =some (.box e' cells):=by simp only[St.push];rw[List.getElem?_append_left hlt];exact hob
     have h2:=h1.reob (o':= .box e' (cells.set c (.sl st.objs.length))) hob1 (fun h=>h) (fun r hr=>by
      obtain ⟨g0,vs,g1,g2,g3⟩:=h1.ob j _ r hob1 hr
      refine ⟨g0,vs,g1,⟨by simp[g2.1],fun m y v hy hv=> ?_⟩,g3⟩
      rw[List.getElem?_set]at hy
      split at hy
      ·rename_i hcm
       split at hy
       ·injection hy with hy
        subst hy hcm
        have hnil:=g2.2 c _ v hc hv
        rw[show v=_ from hnil]
        exact ZUz h w
       ·cases hy
      ·exact g2.2 m y v hy hv) (fun _ _ _ he=>by cases he)
     obtain ⟨μ',h3,h4⟩:=Z11 (s:=s) (j:=j) (e:=e) (l:=l) (c:=c+1) h2
     exact ⟨μ',h3,h4⟩
    ·exact Z11 h
   ·exact Z11 h
  ·exact Z11 h
 | .int _::l,c,st,μ,h=>by simp only[fixCells];exact Z11 h
 | .bool::l,c,st,μ,h=>by simp only[fixCells];exact Z11 h
 | .str::l,c,st,μ,h=>by simp only[fixCells];exact Z11 h
 | .snap _ _::l,c,st,μ,h=>by simp only[fixCells];exact Z11 h
 | .ptr _ _::l,c,st,μ,h=>by simp only[fixCells];exact Z11 h
 | .inn _::l,c,st,μ,h=>by simp only[fixCells];exact Z11 h
 | .mp _::l,c,st,μ,h=>by simp only[fixCells];exact Z11 h
 | .cv _::l,c,st,μ,h=>by simp only[fixCells];exact Z11 h
 | .pc _ _::l,c,st,μ,h=>by simp only[fixCells];exact Z11 h
 | .es _ _::l,c,st,μ,h=>by simp only[fixCells];exact Z11 h
theorem ZS{s:Spec}: ∀{l:List (Tmp×TSh)} {st:St} {μ:List ORec},Rel w0 S0 st μ a w→ ∃μ',Rel w0 S0 (fixTmps s l st) μ' a w∧(fixTmps s l st).tmps.length=st.tmps.length
 | [], st, μ, h => ⟨μ, h, rfl⟩
 | (d, .at (.sl i)) :: l, st, μ, h => by
  simp only[fixTmps]
  split
  ·rename_i hc
   split
   ·rename_i e1 t hr
    have h1:=h.nilRow e1 t
    have hv:a.tmps.getD d undef= .slice none 0 0:=(h.tv d _ hc).1
    have h2:=h1.retell (t:=d) (x:= .sv (.at (.sl st.objs.length))) (by rw[hv];exact ⟨ZUz h w,.inr rfl⟩)
    obtain ⟨μ',h3,h4⟩:=ZS (s:=s) (l:=l) h2
    exact ⟨μ',h3,h4.trans (by simp[St.push])⟩
   ·exact ZS h
  ·exact ZS h
 | (d, .at (.ptr i 0)) :: l, st, μ, h => by
  simp only[fixTmps]
  split
  ·rename_i j hc
   split
   ·rename_i e sh hr
    obtain ⟨μ1,h1,h2⟩:=Z11 (s:=s) (j:=j) (e:=e) (l:=sh) (c:=0) h
    obtain ⟨μ',h3,h4⟩:=ZS (s:=s) (l:=l) h1
    exact ⟨μ',h3,by rw[h4,h2]⟩
   ·exact ZS h
  ·exact ZS h
 |(d,.at (.ptr i (f+1)))::l,st,μ,h=>by simp only[fixTmps];exact ZS h
 |(d,.at (.int _))::l,st,μ,h=>by simp only[fixTmps];exact ZS h
 |(d,.at .bool)::l,st,μ,h=>by simp only[fixTmps];exact ZS h
 |(d,.at .str)::l,st,μ,h=>by simp only[fixTmps];exact ZS h
 |(d,.at (.snap _ _))::l,st,μ,h=>by simp only[fixTmps];exact ZS h
 |(d,.at (.inn _))::l,st,μ,h=>by simp only[fixTmps];exact ZS h
 |(d,.at (.mp _))::l,st,μ,h=>by simp only[fixTmps];exact ZS h
 |(d,.at (.cv _))::l,st,μ,h=>by simp only[fixTmps];exact ZS h
 |(d,.at (.pc _ _))::l,st,μ,h=>by simp only[fixTmps];exact ZS h
 |(d,.at (.es _ _))::l,st,μ,h=>by simp only[fixTmps];exact ZS h
 |(d,.agg _)::l,st,μ,h=>by simp only[fixTmps];exact ZS h
theorem Spec.enter_sound(h:Rel w0 S0 st μ a w){s:Spec}{no n:Nat}{x:s.D}(hno:S0.ov.length=no)(hn:st.tmps.length=n)(hf:s.enter no st=some x): ∃μ',Rel w0 S0 (s.st n x) μ' a w:=by
 obtain ⟨μ1,h1,h2⟩:=ZS (s:=s) (l:=s.tmps) h
 exact Spec.fit_sound h1 hno (h2.trans hn) hf
end
end
section
section
variable {P:Program} {ops:Array Oper} {Q:Exit→Act→World→Prop} {md:Region.Mode} {qt:Nat→Bool}
def wpAnyR(P:Program)(md:Region.Mode)(ops:Array Oper)(Q:Exit→Act→World→Prop)(qt:Nat→Bool):Nat→Array Bool→Act→World→Prop
 |0,listed,a,w=>Region.ready md ops listed=[]∧Q .normal a w
 |fuel+1,listed,a,w=>
  (Region.ready md ops listed=[]→Q .normal a w)∧
  ∀i∈Region.ready md ops listed,wpOp P ops Q i (fun a' w'=>(qt i=true→Same w w')∧wpAnyR P md ops Q qt fuel (listed.setIfInBounds i true) a' w') a w
theorem Zhi: ∀(fuel:Nat) (listed:Array Bool) (a:Act) (w:World),wpAnyR P md ops Q qt fuel listed a w→wpAny P md ops Q fuel listed a w
 |0,_,_,_,h=>h
 |fuel+1,_,_,_,h=>⟨h.1,fun i hi=>wpOp_mono (fun a' w' h'=>Zhi fuel _ a' w' h'.2) (h.2 i hi)⟩
theorem Same.trans{w w1 w2:World}(h:Same w w1)(h2:Same w1 w2):Same w w2:=Chg.trans h h2 (fun _ hf=>hf.elim)
structure Shut (md:Region.Mode) (ops:Array Oper) (l:Array Bool):Prop where
 size:l.size=ops.size
 at_: ∀(j:Nat) o,ops[j]? =some o→l.getD j false=true→ ∀e∈o.after,Region.binds md e=true→l.getD e.on false=true
theorem ZNf{l:Array Bool}{i j:Nat}(h:(l.setIfInBounds i true).getD j false=true):j=i∨l.getD j false=true:=by
 by_cases hij:i=j
 ·exact .inl hij.symm
 ·rw [getD_set_ne false hij] at h
  exact .inr h
theorem Shut.set{l:Array Bool}{i:Nat}(h:Shut md ops l)(hi:i∈Region.ready md ops l):Shut md ops (l.setIfInBounds i true):=by
 obtain ⟨_,oi,hoi,hall⟩:=mem_ready.1 hi
 refine ⟨by simp[h.size],fun j o ho hj e he hb=>getD_set_true ?_⟩
 rcases ZNf hj with rfl|hj
 ·rw [hoi] at ho
  injection ho with ho
  subst ho
  exact hall e he hb
 ·exact h.at_ j o ho hj e he hb
theorem ZlW{i:Nat}{oi:Oper}{v:Value}{ld:Bool}(hi:ops[i]? =some oi)(hsel: ∀(j:Nat) (o:Oper) cs b,ops[j]? =some o→o.op≠ .select cs b)
  (hQ : ∀ c a w, Q (.panic c) (a.put oi.dst v) w → Q (.panic c) a w) :
  ∀ (fuel : Nat) (listed : Array Bool) (a : Act) (w : World), Shut md ops listed →
   (∀ l j, Shut md ops l → (∀ k, listed.getD k false = true → l.getD k false = true) → l.getD i true = false → j ∈ Region.ready md ops l → j ≠ i → ld = true → qt j = true) →
   (∀ j oj, ops[j]? = some oj → j ≠ i → listed.getD j true = false → (∀ e ∈ oj.after, Region.binds md e = true → e.on ≠ i) → oi.apart ops oj = true) →
   i∈Region.ready md ops listed→YieldsIf P ops (fun w'=>ld=true→Same w w') oi v a→
   wpAnyR P md ops Q qt fuel (listed.setIfInBounds i true) (a.put oi.dst v) w→wpAnyR P md ops Q qt (fuel+1) listed a w:=by
 intro fuel
 induction fuel with
 |zero=>
  intro listed a w hG _ _ hr hy H
  refine ⟨fun h=>(by rw[h]at hr;cases hr),fun j hj=> ?_⟩
  by_cases hji : j = i
  ·subst hji; exact hy.wpOp hi (fun _ => .refl w) ⟨fun _ => .refl w, H⟩
  ·have := ready_mono hj hji
   rw[H.1]at this
   cases this
 |succ fuel ih=>
  intro listed a w hG hqt hfree hr hy H
  refine ⟨fun h=>(by rw[h]at hr;cases hr),fun j hj=> ?_⟩
  by_cases hji : j = i
  ·subst hji; exact hy.wpOp hi (fun _ => .refl w) ⟨fun _ => .refl w, H⟩
  ·have h1 := H.2 j (ready_mono hj hji)
   obtain ⟨hjun,oj,hoj,hall⟩:=mem_ready.1 hj
   have hnot: ∀e∈oj.after,Region.binds md e=true→e.on≠i:=fun e he hb heq=>by
    have h1:=hall e he hb
    have h0:=(mem_ready.1 hr).1
    rw[heq]at h1
    rcases Nat.lt_or_ge i listed.size with h'|h'
    ·simp [h'] at h0 h1; rw [h0] at h1; cases h1
    ·simp [Array.getElem?_eq_none h'] at h1
   have h2:=wpOp_putIf hoj (hfree j oj hoj hji hjun hnot) (fun cs b=>hsel i oi cs b hi) (fun cs b=>hsel j oj cs b hoj) hQ hy h1
   have hfree': ∀k ok,ops[k]? =some ok→k≠i→(listed.setIfInBounds j true).getD k true=false→
     (∀e∈ok.after,Region.binds md e=true→e.on≠i)→oi.apart ops ok=true:=fun k ok hk hki hun hno=>by
    refine hfree k ok hk hki ?_ hno
    by_cases hjk:j=k
    ·subst hjk;exact hjun
    ·rw[getD_set_ne true hjk]at hun;exact hun
   refine wpOp_mono (fun a' w' h3=> ?_) h2
   have hcomm:(listed.setIfInBounds i true).setIfInBounds j true=(listed.setIfInBounds j true).setIfInBounds i true:=Array.setIfInBounds_comm _ _ (Ne.symm hji)
   have hq:ld=true→qt j=true:=hqt listed j hG (fun _ hk=>hk) (mem_ready.1 hr).1 hj hji
   refine ⟨h3.2.1,ih (listed.setIfInBounds j true) a' w' (hG.set hj) (fun l j' hl hsub=>hqt l j' hl (fun k hk=>hsub k (getD_set_true hk))) hfree' (ready_mono hr (Ne.symm hji)) ?_ ?_⟩
   ·exact h3.1.imp (fun ⟨x, y⟩ => ⟨x, fun w'' hw => y w'' (fun hld => (h3.2.1 (hq hld)).trans (hw hld))⟩) id
   ·rw [← hcomm]
    exact h3.2.2
def marksTo(md:Region.Mode)(i:Nat):List Oper→List Bool→List Bool
 |[],acc=>acc
 |o::r,acc=>marksTo md i r (acc++[o.after.toList.any fun e=>Region.binds md e&&(e.on==i||acc.getD e.on false)])
def waits(md:Region.Mode)(ops:Array Oper)(j i:Nat):Bool:=(marksTo md i ops.toList []).getD j false
theorem ZBU{l:Array Bool}(h:Shut md ops l){i:Nat}: ∀(r:List Oper) (acc:List Bool),ops.toList.drop acc.length=r→(∀j,acc.getD j false=true→l.getD j false=true→l.getD i false=true)→
  ∀ j, (marksTo md i r acc).getD j false = true → l.getD j false = true → l.getD i false = true
 | [], acc, _, ha, j, hj, hl => ha j hj hl
 |o::r,acc,hr,ha,j,hj,hl=>by
  have ho:ops[acc.length]? =some o:=by
   rw[←Array.getElem?_toList]
   have:=congrArg (fun x=>x[0]?) hr
   simpa using this
  refine ZBU h r _ ?_ ?_ j hj hl
  ·have := congrArg List.tail hr
   rw[List.tail_drop]at this
   rw[List.length_append]
   exact this
  ·intro j' hj' hl'
   simp only[List.getD_eq_getElem?_getD]at hj'
   rcases Nat.lt_or_ge j' acc.length with h1|h1
   ·rw [List.getElem?_append_left h1] at hj'
    exact ha j' (by simpa[List.getD_eq_getElem?_getD]using hj') hl'
   ·rw [List.getElem?_append_right h1] at hj'
    rcases Nat.eq_or_lt_of_le h1 with h2|h2
    ·subst h2
     simp only[Nat.sub_self,List.getElem?_cons_zero,Option.getD_some]at hj'
     obtain ⟨e,he,h3⟩:=List.any_eq_true.1 hj'
     simp only[Bool.and_eq_true,Bool.or_eq_true,beq_iff_eq]at h3
     have h4:=h.at_ _ o ho hl' e (by simpa using he) h3.1
     rcases h3.2 with h5|h5
     ·rw[←h5];exact h4
     ·exact ha _ h5 h4
    ·rw [List.getElem?_eq_none (by simp; omega)] at hj'
     cases hj'
theorem ZG8{l:Array Bool}(h:Shut md ops l){i j:Nat}(h1:waits md ops j i=true)(hj:l.getD j false=true):l.getD i false=true:=
 ZBU h ops.toList [] (by simp) (fun j hj=>by simp at hj) j h1 hj
end
def mayWrite(G:Env)(o:Oper):Bool:= !(pureOp o.op||stillOp G o.op)
def loadFirst(G:Env)(ops:Array Oper)(listed:Array Bool)(i:Nat):Bool:=(List.range ops.size).all fun j=>match ops[j]? with
 |some oj=> !mayWrite G oj||(!listed.getD j false&&waits .any ops j i)
 |none=>true
def canTake(G:Env)(ops:Array Oper)(listed:Array Bool)(i:Nat):Bool:=match ops[i]? with
 |some o=>pureOp o.op&&Region.free .any ops listed i&&(!isLoad o.op||loadFirst G ops listed i)
 |none=>false
def nextTake(G:Env)(ops:Array Oper)(listed:Array Bool):Option Nat:=(Region.ready .any ops listed).find? (canTake G ops listed)
section
variable {γ:Type}
def joinL(x y:Option (List γ)):Option (List γ):=match x,y with
 |some a,some b=>some (a++b)
 |_,_=>none
def wayOf(f:Nat→Option (List γ)):List Nat→Option (List γ)
 |[]=>none
 |[i]=>f i
 |i::j::l=>joinL (f i) (wayOf f (j::l))
def execT(G:Env)(step:{δ:Type}→Oper→St→(St→Option δ)→Option δ)(ops:Array Oper):Nat→Array Bool→St→(St→Option γ)→Option (List γ)
 | 0, listed, st, K => match Region.ready .any ops listed with
  | [] => match K st with
   |some r=>some [r]
   |none=>none
  |_=>none
 |n+1,listed,st,K=>match nextTake G ops listed with
  |some i=>match ops[i]? with
   |some o=>execOps step ops [o] st fun st1=>execT G step ops n (listed.setIfInBounds i true) st1 K
   |none=>none
  |none=>match Region.ready .any ops listed with
   |[]=>match K st with
    |some r=>some [r]
    |none=>none
   |rs=>wayOf (fun i=>match ops[i]? with
    |some o=>execOps step ops [o] st fun st1=>execT G step ops n (listed.setIfInBounds i true) st1 K
    |none=>none) rs
end
def needMask(o:Oper):Nat:=o.after.toList.foldl (fun m e=>if Region.binds .any e then m|||(1<<<e.on) else m) 0
def nextOrd(listed:Nat):List (Nat×Nat×Bool)→Option Nat→Option Nat
 |[],d=>d
 |(i,m,p)::l,d=>if !listed.testBit i&&(m&&&listed)==m then (if p then some i else nextOrd listed l (d.or (some i))) else nextOrd listed l d
def ordGo(l:List (Nat×Nat×Bool)):Nat→Nat→List Nat
 |0,_=>[]
 |n+1,listed=>match nextOrd listed l none with
  |some i=>i::ordGo l n (listed|||(1<<<i))
  |none=>[]
def numbered:Nat→List Oper→List (Nat×Nat×Bool)
 |_,[]=>[]
 |i,o::l=>(i,needMask o,pureOp o.op)::numbered (i+1) l
def drawOrd(ops:Array Oper):List Nat:=ordGo (numbered 0 ops.toList) ops.size 0
def takeAt(G:Env)(ops:Array Oper)(i:Nat)(o:Oper)(rest:List Nat):Bool:=pureOp o.op&&
 (rest.all fun j => match ops[j]? with
  |some oj=>oj.after.any (fun e=>Region.binds .any e&&e.on==i)||o.apart ops oj
  |none=>true)&&
 (!isLoad o.op || (List.range ops.size).all fun j => match ops[j]? with
  |some oj=> !mayWrite G oj||(rest.contains j&&waits .any ops j i)
  |none=>true)
def aloneAt(ops:Array Oper)(i:Nat)(rest:List Nat):Bool:=rest.all fun j=>match ops[j]? with
 |some oj=>oj.after.toList.any fun e=>Region.binds .any e&&(i::rest).contains e.on
 |none=>true
def ordOK(G:Env)(ops:Array Oper):List Nat→Bool
 |[]=>true
 |i::rest=>(match ops[i]? with
  |some o=> !rest.contains i&&(o.after.toList.all fun e=> !Region.binds .any e||(decide (e.on<ops.size)&& !(i::rest).contains e.on))&&(takeAt G ops i o rest||aloneAt ops i rest)
  |none=>false)&&ordOK G ops rest
def drawOK(G:Env)(ops:Array Oper):Bool:=Region.noSelect ops&&(List.range ops.size).all (drawOrd ops).contains&&ordOK G ops (drawOrd ops)
def pickOps(ops:Array Oper):List Nat→List Oper
 |[]=>[]
 |i::r=>match ops[i]? with
  |some o=>o::pickOps ops r
  |none=>pickOps ops r
section
variable {P:Program} {w w1 w0:World} {S0:Own} {st:St} {μ:List ORec} {a:Act}
theorem ZPk{γ:Type}{f:Nat→Option (List γ)}: ∀{rs:List Nat} {zs:List γ},wayOf f rs=some zs→ ∀i∈rs,∃xs,f i=some xs∧ ∀x∈xs,x∈zs
 | [], _, h, _, hi => by cases hi
 | [j], zs, h, i, hi => by
  rw[List.mem_singleton.1 hi]
  exact ⟨zs,h,fun x hx=>hx⟩
 |j::j'::l,zs,h,i,hi=>by
  simp only[wayOf,joinL]at h
  split at h
  ·rename_i x y hx hy
   injection h with h
   subst h
   rcases List.mem_cons.1 hi with rfl|hi
   ·exact ⟨x, hx, fun z hz => List.mem_append.2 (.inl hz)⟩
   ·obtain ⟨xs, h1, h2⟩ := ZPk hy i hi
    exact ⟨xs,h1,fun z hz=>List.mem_append.2 (.inr (h2 z hz))⟩
  ·cases h
theorem ZMx{γ:Type}{step:Oper→St→(St→Option γ)→Option γ}{ops:Array Oper}{o:Oper}{K:St→Option γ}{r:γ}(h:Rel w0 S0 st μ a w)(hk:execOps step ops [o] st K=some r):
  (Region.wanted o (yielded ops a.tmps) = true ∧ ∃ st2, Rel w0 S0 st2 μ a w ∧ step o st2 K = some r) ∨ (Region.wanted o (yielded ops a.tmps) = false ∧ ∃ st2, Rel w0 S0 st2 μ (a.put o.dst undef) w ∧ K st2 = some r) := by
 simp only[execOps]at hk
 split at hk
 ·rename_i hg
  exact .inl ⟨by unfold Region.wanted;rw[hg],st,h,hk⟩
 ·rename_i j want hg
  have hwant: ∀y,yielded ops a.tmps j=y→Region.wanted o (yielded ops a.tmps)=(y==some want):=by
   intro y hy
   unfold Region.wanted
   rw [hg]
   simp only[hy]
  split at hk
  ·cases hk
  ·rename_i d hd
   split at hk
   ·rename_i b hb
    have hlt:=(List.getElem?_eq_some_iff.1 hb).1
    have hv:a.tmps.getD d undef= .bool b:=(h.tv d _ hb).1
    have hy:=Zrj hd h hlt
    rw[hv]at hy
    have hre:Rel w0 S0 (st.put (some d) (.sv (.at (.bool b)))) μ a w:=h.retell (t:=d) (x:= .sv (.at (.bool b))) (by rw[hv];exact ⟨rfl,.inr rfl⟩)
    split at hk
    ·rename_i hbt
     subst hbt
     split at hk
     ·rename_i hw; subst hw
      exact .inl ⟨by rw[hwant _ hy];rfl,_,hre,hk⟩
     ·rename_i hw
      exact .inr ⟨by rw[hwant _ hy];cases want<;>simp_all,_,hre.put o.dst ZzF,hk⟩
    ·rename_i hbf
     have hbf:b=false:=by simpa using hbf
     subst hbf
     split at hk
     ·rename_i hw; subst hw
      exact .inr ⟨by rw[hwant _ hy];rfl,_,hre.put o.dst ZzF,hk⟩
     ·rename_i hw
      exact .inl ⟨by rw[hwant _ hy];cases want<;>simp_all,_,hre,hk⟩
   ·rename_i hb
    have hlt:=(List.getElem?_eq_some_iff.1 hb).1
    obtain ⟨vs,hv,hl,_⟩:=h.tv d _ hb
    obtain rfl:vs=[]:=List.eq_nil_of_length_eq_zero hl
    have hy:=Zrj hd h hlt
    rw[hv]at hy
    exact .inr ⟨by rw[hwant _ hy];rfl,_,h.put o.dst ZzF,hk⟩
   ·cases hk
def quietAt(G:Env)(ops:Array Oper)(j:Nat):Bool:=match ops[j]? with
 |some o=> !mayWrite G o
 |none=>true
theorem ZUl{G:Env}{ops:Array Oper}{listed:Array Bool}{i:Nat}{o:Oper}(hload:(!isLoad o.op)=true∨loadFirst G ops listed i=true): ∀l j,Shut .any ops l→(∀k,listed.getD k false=true→l.getD k false=true)→l.getD i true=false→j∈Region.ready .any ops l→j≠i→isLoad o.op=true→quietAt G ops j=true:=by
 intro l j hl hsub hli hj hji hld
 unfold quietAt
 split
 ·rename_i oj hoj
  cases hwj:mayWrite G oj with
  |false=>rfl
  |true=>
   rcases hload with hload|hload
   ·rw [hld] at hload; cases hload
   ·have hj2 := List.all_eq_true.1 (by unfold loadFirst at hload; exact hload) j (List.mem_range.2 (Array.getElem?_eq_some_iff.1 hoj).1)
    simp only[hoj,hwj,Bool.not_true,Bool.false_or,Bool.and_eq_true]at hj2
    have h1:=ZG8 (hl.set hj) hj2.2 (by
     have hjs:j<l.size:=by rw[hl.size];exact (Array.getElem?_eq_some_iff.1 hoj).1
     simp[hjs])
    rw[getD_set_ne false hji]at h1
    rcases Nat.lt_or_ge i l.size with h2|h2
    ·simp[h2]at h1 hli;rw[h1]at hli;cases hli
    ·simp[Array.getElem?_eq_none h2]at h1
 ·rfl
theorem ZSK{γ:Type}{T:TT}{G:Env}{mvs:List Tmp}{k:Nat}{ops:Array Oper}{K:St→Option γ}{Q:Exit→Act→World→Prop}(hT:TTok P T)(hG:EnvOK P k G)(hno:Region.noSelect ops=true)(hQp: ∀c a w,¬Q (.panic c) a w):
  ∀ (n : Nat) (listed : Array Bool) (st : St) (μ : List ORec) (a : Act) (w : World) (zs : List γ), Shut .any ops listed → Rel w0 S0 st μ a w → execT G (stepOp T G mvs k) ops n listed st K = some zs → (∀ z ∈ zs, ∀ a w, Nx w0 S0 K z a w → Q .normal a w) →
   wpAnyR P .any ops Q (quietAt G ops) n listed a w:=by
 intro n
 induction n with
 |zero=>
  intro listed st μ a w zs hS h hk hQ
  simp only[execT]at hk
  split at hk
  ·rename_i hr
   split at hk
   ·rename_i r hr1
    injection hk with hk
    subst hk
    exact ⟨hr,hQ r (List.mem_singleton.2 rfl) a w ⟨st,μ,h,hr1⟩⟩
   ·cases hk
  ·cases hk
 |succ n ih=>
  intro listed st μ a w zs hS h hk hQ
  simp only[execT]at hk
  split at hk
  ·rename_i i hi
   have hc := List.find?_some hi
   split at hk
   ·rename_i o ho
    simp only[canTake,ho,Bool.and_eq_true,Bool.or_eq_true]at hc
    obtain ⟨⟨hpure,hfree⟩,hload⟩:=hc
    have hready':i∈Region.ready .any ops listed:=List.mem_of_find?_eq_some hi
    have hqt:=ZUl (i:=i) (o:=o) hload
    rcases ZMx h hk with ⟨hw,st2,h2,hk2⟩|⟨hw,st2,h2,hk2⟩
    ·obtain ⟨v, hrun, st', μ', h', hk'⟩ := ZoW hT h2 hpure hk2
     exact ZlW (v:=v) ho (Region.noSelect_spec hno) (fun c a w hq=>absurd hq (hQp c _ w)) n listed a w hS hqt (Region.free_spec ho hfree) hready' (.inl ⟨hw,hrun⟩) (ih _ st' μ' _ w zs (hS.set hready') h' hk' hQ)
    ·exact ZlW (v := undef) (ld := isLoad o.op) ho (Region.noSelect_spec hno) (fun c a w hq => absurd hq (hQp c _ w)) n listed a w hS hqt (Region.free_spec ho hfree) hready' (.inr ⟨hw, rfl⟩) (ih _ st2 μ _ w zs (hS.set hready') h2 hk2 hQ)
   ·cases hk
  ·split at hk
   ·rename_i hr
    split at hk
    ·rename_i r hr1
     injection hk with hk
     subst hk
     exact ⟨fun _=>hQ r (List.mem_singleton.2 rfl) a w ⟨st,μ,h,hr1⟩,fun i hi=>by rw[hr]at hi;cases hi⟩
    ·cases hk
   ·rename_i hne
    refine ⟨fun hr=>absurd hr hne,fun i hi=> ?_⟩
    obtain ⟨xs,hx,hsub⟩:=ZPk hk i hi
    split at hx
    ·rename_i o ho
     unfold wpOp
     simp only[ho]
     rcases ZMx h hx with ⟨hw,st2,h2,hk2⟩|⟨hw,st2,h2,hk2⟩
     ·rw [if_pos hw]
      left
      cases hp:pureOp o.op with
      |true=>
       refine Oper.wp_mono (fun a' w' hn=> ?_) (ZoW hT h2 hp hk2).still
       obtain ⟨⟨st',μ',h',hk'⟩,hs⟩:=hn
       exact ⟨fun _=>hs,ih _ st' μ' a' w' xs (hS.set hi) h' hk' (fun z hz=>hQ z (hsub z hz))⟩
      |false=>
       cases hq:stillOp G o.op with
       |true=>
        refine Oper.wp_mono (fun a' w' hn=> ?_) (ZEJ hT hG h2 hq hk2)
        obtain ⟨⟨st',μ',h',hk'⟩,hs⟩:=hn
        exact ⟨fun _=>hs,ih _ st' μ' a' w' xs (hS.set hi) h' hk' (fun z hz=>hQ z (hsub z hz))⟩
       |false=>
        refine Oper.wp_mono (fun a' w' hn=> ?_) (Zfk hT hG h2 hk2)
        obtain ⟨st',μ',h',hk'⟩:=hn
        refine ⟨fun hqt=> ?_,ih _ st' μ' a' w' xs (hS.set hi) h' hk' (fun z hz=>hQ z (hsub z hz))⟩
        simp[quietAt,ho,mayWrite,hp,hq]at hqt
     ·rw [if_neg (by rw [hw]; simp)]
      exact ⟨fun _=> .refl w,ih _ st2 μ _ w xs (hS.set hi) h2 hk2 (fun z hz=>hQ z (hsub z hz))⟩
    ·cases hx
structure LstOf (ops:Array Oper) (L:Array Bool) (r:List Nat):Prop where
 size:L.size=ops.size
 val: ∀j,j<ops.size→L[j]? =some (!r.contains j)
theorem LstOf.get{ops:Array Oper}{L:Array Bool}{r:List Nat}(h:LstOf ops L r)(d:Bool){j:Nat}(hj:j<ops.size):L.getD j d= !r.contains j:=by
 rw[Array.getD_eq_getD_getElem?,h.val j hj];rfl
theorem LstOf.out{ops:Array Oper}{L:Array Bool}{r:List Nat}(h:LstOf ops L r)(d:Bool){j:Nat}(hj:ops.size≤j):L.getD j d=d:=by
 rw[Array.getD_eq_getD_getElem?,Array.getElem?_eq_none (by rw[h.size];exact hj)];rfl
theorem LstOf.set{ops:Array Oper}{L:Array Bool}{i:Nat}{r:List Nat}(h:LstOf ops L (i::r))(hi:i<ops.size)(hn:r.contains i=false):LstOf ops (L.setIfInBounds i true) r:=by
 refine ⟨by simp[h.size],fun j hj=> ?_⟩
 by_cases hij : i = j
 ·subst hij
  rw[Array.getElem?_setIfInBounds_self_of_lt (by rw[h.size];exact hi),hn]
  rfl
 ·rw [Array.getElem?_setIfInBounds_ne hij, h.val j hj]
  have:(i::r).contains j=r.contains j:=by
   rw[List.contains_cons]
   have:(j==i)=false:=by simpa using fun h=>hij h.symm
   rw[this,Bool.false_or]
  rw[this]
theorem ZJi{γ:Type}{T:TT}{G:Env}{mvs:List Tmp}{k:Nat}{ops:Array Oper}{K:St→Option γ}{r:γ}{Q:Exit→Act→World→Prop}(hT:TTok P T)(hG:EnvOK P k G)(hno:Region.noSelect ops=true)(hQp: ∀c a w,¬Q (.panic c) a w)(hQ: ∀a w,Nx w0 S0 K r a w→Q .normal a w):
  ∀ (ord : List Nat) (L : Array Bool) (st : St) (μ : List ORec) (a : Act) (w : World), ordOK G ops ord = true → LstOf ops L ord → Shut .any ops L → Rel w0 S0 st μ a w → execOps (stepOp T G mvs k) ops (pickOps ops ord) st K = some r →
   ∃ n, n = ord.length ∧ wpAnyR P .any ops Q (quietAt G ops) n L a w := by
 intro ord
 induction ord with
 |nil=>
  intro L st μ a w hok hL hS h hk
  have hr : Region.ready .any ops L = [] := by
   apply List.eq_nil_iff_forall_not_mem.2
   intro x hx
   obtain ⟨h1,oj,hoj,_⟩:=mem_ready.1 hx
   rw [hL.get true (Array.getElem?_eq_some_iff.1 hoj).1] at h1
   simp at h1
  exact ⟨0, rfl, hr, hQ a w ⟨st, μ, h, hk⟩⟩
 |cons i rest ih=>
  intro L st μ a w hok hL hS h hk
  simp only[ordOK,Bool.and_eq_true]at hok
  obtain ⟨hok1,hokr⟩:=hok
  split at hok1
  ·rename_i o hoi
   simp only[Bool.and_eq_true,Bool.or_eq_true,Bool.not_eq_true']at hok1
   obtain ⟨⟨hnr,hedge⟩,hhow⟩:=hok1
   have hlt : i < ops.size := (Array.getElem?_eq_some_iff.1 hoi).1
   have hready : i ∈ Region.ready .any ops L := by
    refine mem_ready.2 ⟨by rw[hL.get true hlt];simp,o,hoi,fun e he hb=> ?_⟩
    have h2 := List.all_eq_true.1 hedge e (by simpa using he)
    simp only[hb,Bool.not_true,Bool.false_or,Bool.and_eq_true,decide_eq_true_eq]at h2
    rw [hL.get false h2.1]
    exact h2.2
   have hS' : Shut .any ops (L.setIfInBounds i true) := hS.set hready
   have hL' := hL.set hlt hnr
   simp only[pickOps,hoi]at hk
   have hk1 : execOps (stepOp T G mvs k) ops [o] st (fun st1 => execOps (stepOp T G mvs k) ops (pickOps ops rest) st1 K) = some r := hk
   refine ⟨rest.length+1,rfl,?_⟩
   have ih' : ∀ st' μ' a' w', Rel w0 S0 st' μ' a' w' → execOps (stepOp T G mvs k) ops (pickOps ops rest) st' K = some r → wpAnyR P .any ops Q (quietAt G ops) rest.length (L.setIfInBounds i true) a' w' := by
    intro st' μ' a' w' h' hk'
    obtain ⟨n,rfl,hw⟩:=ih _ st' μ' a' w' hokr hL' hS' h' hk'
    exact hw
   rcases hhow with htake|halone
   ·simp only [takeAt, Bool.and_eq_true, Bool.or_eq_true] at htake
    obtain ⟨⟨hpure,hfree⟩,hload⟩:=htake
    have hfree' : ∀ j oj, ops[j]? = some oj → j ≠ i → L.getD j true = false → (∀ e ∈ oj.after, Region.binds .any e = true → e.on ≠ i) → o.apart ops oj = true := by
     intro j oj hoj hji hun hno2
     have hjn:=(Array.getElem?_eq_some_iff.1 hoj).1
     rw [hL.get true hjn] at hun
     have hjr:j∈rest:=by
      have:(i::rest).contains j=true:=by cases hc:(i::rest).contains j with|true=>rfl|false=>rw[hc]at hun;cases hun
      rcases List.mem_cons.1 (List.contains_iff_mem.1 this) with h1|h1
      ·exact absurd h1 hji
      ·exact h1
     have h1:=List.all_eq_true.1 hfree j hjr
     simp only[hoj,Bool.or_eq_true]at h1
     rcases h1 with h1|h1
     ·obtain ⟨e, he, hb⟩ := Array.any_eq_true'.1 h1
      simp only[Bool.and_eq_true,beq_iff_eq]at hb
      exact absurd hb.2 (hno2 e he hb.1)
     ·exact h1
    have hqt : ∀ l j, Shut .any ops l → (∀ k, L.getD k false = true → l.getD k false = true) → l.getD i true = false → j ∈ Region.ready .any ops l → j ≠ i → isLoad o.op = true → quietAt G ops j = true := by
     intro l j hl hsub hli hj hji hld
     unfold quietAt
     split
     ·rename_i oj hoj
      cases hwj:mayWrite G oj with
      |false=>rfl
      |true=>
       rcases hload with hload|hload
       ·rw [hld] at hload; cases hload
       ·have hj2 := List.all_eq_true.1 hload j (List.mem_range.2 (Array.getElem?_eq_some_iff.1 hoj).1)
        simp only[hoj,hwj,Bool.not_true,Bool.false_or,Bool.and_eq_true]at hj2
        have h1:=ZG8 (hl.set hj) hj2.2 (by
         have hjs:j<l.size:=by rw[hl.size];exact (Array.getElem?_eq_some_iff.1 hoj).1
         simp[hjs])
        rw[getD_set_ne false hji]at h1
        rcases Nat.lt_or_ge i l.size with h2|h2
        ·simp[h2]at h1 hli;rw[h1]at hli;cases hli
        ·simp[Array.getElem?_eq_none h2]at h1
     ·rfl
    rcases ZMx h hk1 with ⟨hw,st2,h2,hk2⟩|⟨hw,st2,h2,hk2⟩
    ·obtain ⟨v, hrun, st', μ', h', hk'⟩ := ZoW hT h2 hpure hk2
     exact ZlW (v:=v) hoi (Region.noSelect_spec hno) (fun c a w hq=>absurd hq (hQp c _ w)) _ _ a w hS hqt hfree' hready (.inl ⟨hw,hrun⟩) (ih' st' μ' _ w h' hk')
    ·exact ZlW (v := undef) (ld := isLoad o.op) hoi (Region.noSelect_spec hno) (fun c a w hq => absurd hq (hQp c _ w)) _ _ a w hS hqt hfree' hready (.inr ⟨hw, rfl⟩) (ih' st2 μ _ w h2 hk2)
   ·have hone : ∀ j ∈ Region.ready .any ops L, j = i := by
     intro j hj
     obtain ⟨hun,oj,hoj,hall⟩:=mem_ready.1 hj
     have hjn:=(Array.getElem?_eq_some_iff.1 hoj).1
     rw[hL.get true hjn]at hun
     have hmem:(i::rest).contains j=true:=by cases hc:(i::rest).contains j with|true=>rfl|false=>rw[hc]at hun;cases hun
     rcases List.mem_cons.1 (List.contains_iff_mem.1 hmem) with h1|h1
     ·exact h1
     ·have h2 := List.all_eq_true.1 halone j h1
      simp only[hoj]at h2
      obtain ⟨e,he,hb⟩:=List.any_eq_true.1 h2
      simp only[Bool.and_eq_true]at hb
      have h3:=hall e (by simpa using he) hb.1
      rcases Nat.lt_or_ge e.on ops.size with h4|h4
      ·rw [hL.get false h4, hb.2] at h3; cases h3
      ·rw [hL.out false h4] at h3; cases h3
    refine ⟨fun hr=>(by rw[hr]at hready;cases hready),fun j hj=> ?_⟩
    have:=hone j hj
    subst this
    unfold wpOp
    simp only[hoi]
    rcases ZMx h hk1 with ⟨hw,st2,h2,hk2⟩|⟨hw,st2,h2,hk2⟩
    ·rw [if_pos hw]
     left
     cases hp:pureOp o.op with
     |true=>
      refine Oper.wp_mono (fun a' w' hn=> ?_) (ZoW hT h2 hp hk2).still
      obtain ⟨⟨st',μ',h',hk'⟩,hs⟩:=hn
      exact ⟨fun _=>hs,ih' st' μ' a' w' h' hk'⟩
     |false=>
      cases hq:stillOp G o.op with
      |true=>
       refine Oper.wp_mono (fun a' w' hn=> ?_) (ZEJ hT hG h2 hq hk2)
       obtain ⟨⟨st',μ',h',hk'⟩,hs⟩:=hn
       exact ⟨fun _=>hs,ih' st' μ' a' w' h' hk'⟩
      |false=>
       refine Oper.wp_mono (fun a' w' hn=> ?_) (Zfk hT hG h2 hk2)
       obtain ⟨st',μ',h',hk'⟩:=hn
       refine ⟨fun hqt=> ?_,ih' st' μ' a' w' h' hk'⟩
       simp[quietAt,hoi,mayWrite,hp,hq]at hqt
    ·rw [if_neg (by rw [hw]; simp)]
     exact ⟨fun _=> .refl w,ih' st2 μ _ w h2 hk2⟩
  ·cases hok1
theorem ZvX{P:Program}{md:Region.Mode}{ops:Array Oper}{Q:Exit→Act→World→Prop}{qt:Nat→Bool}: ∀(n m:Nat) (L:Array Bool) (a:Act) (w:World),n≤m→wpAnyR P md ops Q qt n L a w→wpAnyR P md ops Q qt m L a w
 |0,0,_,_,_,_,h=>h
 |0,m+1,L,a,w,_,h=>⟨fun _=>h.2,fun i hi=>by rw[h.1]at hi;cases hi⟩
 |n+1,0,_,_,_,hn,_=>by omega
 |n+1,m+1,L,a,w,hn,h=>⟨h.1,fun i hi=>wpOp_mono (fun a' w' h'=>⟨h'.1,ZvX n m _ a' w' (by omega) h'.2⟩) (h.2 i hi)⟩
theorem ZPr{n:Nat}: ∀(l:List Nat),(∀i∈l,i<n)→l.Nodup→l.length≤n:=by
 intro l hl hd
 have:=List.Nodup.length_le_of_subset hd (l₂:=List.range n) (fun i hi=>List.mem_range.2 (hl i hi))
 simpa using this
theorem ZvQ{G:Env}{ops:Array Oper}: ∀{ord:List Nat},ordOK G ops ord=true→ord.Nodup∧ ∀i∈ord,i<ops.size
 | [], _ => ⟨List.nodup_nil, fun i hi => by cases hi⟩
 |i::rest,h=>by
  simp only[ordOK,Bool.and_eq_true]at h
  obtain ⟨h1,h2⟩:=h
  obtain ⟨g1,g2⟩:=ZvQ h2
  split at h1
  ·rename_i o ho
   simp only[Bool.and_eq_true,Bool.not_eq_true']at h1
   refine ⟨List.nodup_cons.2 ⟨fun hm=> ?_,g1⟩,fun j hj=> ?_⟩
   ·rw [List.contains_iff_mem.2 hm] at h1
    cases h1.1.1
   ·rcases List.mem_cons.1 hj with rfl | hj
    ·exact (Array.getElem?_eq_some_iff.1 ho).1
    ·exact g2 j hj
  ·cases h1
def none0(n:Nat):Array Bool:=Array.replicate n false
theorem ZGr(md:Region.Mode)(ops:Array Oper):Shut md ops (none0 ops.size):=by
 refine ⟨by simp[none0],fun j o ho hj=> ?_⟩
 simp only[none0,Array.getD_eq_getD_getElem?,Array.getElem?_replicate]at hj
 split at hj<;>simp at hj
noncomputable def execD{γ:Type}(T:TT)(G:Env)(mvs:List Tmp)(k:Nat)(ops:Array Oper)(st:St)(K:St→Option γ):Option (List γ):=if Region.noSelect ops=true then execT G (stepOp T G mvs k) ops ops.size (none0 ops.size) st K else none
theorem ZRL{γ:Type}{T:TT}{G:Env}{mvs:List Tmp}{k:Nat}{id:Nat}{ops:Array Oper}{K:St→Option γ}{Q:Exit→Act→World→Prop}(hT:TTok P T)(hG:EnvOK P k G)(hok:drawOK G ops=true)(hQp: ∀c a w,¬Q (.panic c) a w)
  {r:γ} (h:Rel w0 S0 st μ a w) (hk:execOps (stepOp T G mvs k) ops (pickOps ops (drawOrd ops)) st K=some r) (hQ: ∀a w,Nx w0 S0 K r a w→Q .normal a w):(Code.region id ops true).wp P Q a w:=by
 refine wp_region_any hG.mixed (Zhi (qt:=quietAt G ops) _ _ _ _ ?_)
 have h1:Rel w0 S0 st μ a {w with drawn:=w.drawn+1}:=h.world (Chg.drew w (fun _=>False)) (fun _ _ _ _ _ hf=>hf) (fun _ hf=>hf.elim)
 simp only[drawOK,Bool.and_eq_true]at hok
 obtain ⟨⟨hno,hall⟩,hord⟩:=hok
 have hL:LstOf ops (none0 ops.size) (drawOrd ops):=by
  refine ⟨by simp[none0],fun j hj=> ?_⟩
  rw[List.all_eq_true.1 hall j (List.mem_range.2 hj)]
  simp[none0,Array.getElem?_replicate,hj]
 obtain ⟨n,hn,hw⟩:=ZJi (w0:=w0) (S0:=S0) hT hG hno hQp hQ (drawOrd ops) _ st μ a _ hord hL (ZGr _ _) h1 hk
 obtain ⟨hnd,hlt⟩:=ZvQ hord
 exact ZvX n ops.size _ _ _ (by rw[hn];exact ZPr _ hlt hnd) hw
theorem ZTi{γ:Type}{T:TT}{G:Env}{mvs:List Tmp}{k:Nat}{id:Nat}{ops:Array Oper}{K:St→Option γ}{Q:Exit→Act→World→Prop}(hT:TTok P T)(hG:EnvOK P k G)(hQp: ∀c a w,¬Q (.panic c) a w)
  {zs:List γ} (h:Rel w0 S0 st μ a w) (hk:execD T G mvs k ops st K=some zs) (hQ: ∀z∈zs,∀a w,Nx w0 S0 K z a w→Q .normal a w):(Code.region id ops true).wp P Q a w:=by
 unfold execD at hk
 split at hk
 ·rename_i hno
  refine wp_region_any hG.mixed (Zhi (qt:=quietAt G ops) _ _ _ _ ?_)
  have h1:Rel w0 S0 st μ a {w with drawn:=w.drawn+1}:=h.world (Chg.drew w (fun _=>False)) (fun _ _ _ _ _ hf=>hf) (fun _ hf=>hf.elim)
  exact ZSK hT hG hno hQp ops.size (none0 ops.size) st μ a _ zs (ZGr _ _) h1 hk hQ
 ·cases hk
end
end
section
structure LoopE (B:Type) where
 inp:Spec
 out:Spec
 fn:{γ:Type}→Nat→inp.D→(out.D→Option γ)→(B→Option γ)→Option γ
structure Ctx (B:Type) where
 T:TT
 G:Env
 mvs:List Tmp:=[]
 no:Nat
 n:Nat
 res:St→Option B
 loops:List (Nat×LoopE B):=[]
 conds:List (Tmp×LoopE B):=[]
 regs:List (Nat×LoopE B):=[]
 cuts:List (Nat×LoopE B):=[]
def findE{β:Type 1}(l:List (Nat×β))(i:Nat):Option β:=match l with
 |[]=>none
 |p::l=>if p.1=i then some p.2 else findE l i
section
variable {B:Type} {γ:Type}
def condE(X:Ctx B):Operand→Option (LoopE B)
 | .tmp d=>findE X.conds d
 |_=>none
def headId:Code→Option Nat
 | .region id _ _=>some id
 | .seq a _=>headId a
 |_=>none
def cutE(X:Ctx B)(c:Code):Option (LoopE B):=match X.cuts with
 |[]=>none
 |l=>match headId c with
  |some id=>findE l id
  |none=>none
def St.told(st:St)(c:Operand)(b:Bool):St:=match c with
 | .tmp d=>st.put (some d) (.sv (.at (.bool b)))
 |_=>st
def enterN(X:Ctx B)(s:Spec)(st:St):Option s.D:=if st.tmps.length=X.n then s.enter X.no st else none
def runE(X:Ctx B)(k:Nat)(E:LoopE B)(st:St)(KN:St→Option γ)(KB:B→Option γ):Option γ:=
 match enterN X E.inp st with
 |some x=>E.fn k x (fun y=>KN (E.out.st X.n y)) KB
 |none=>none
def branch(st:St)(c:Operand)(ka kb:St→Option γ):Option γ:=match st.ev c with
 | .sv (.at (.bool t))=>if t=true then ka (st.told c true) else kb (st.told c false)
 |_=>none
noncomputable def exec(X:Ctx B)(k:Nat):Code→St→(St→Option γ)→(Nat→St→Option γ)→(B→Option γ)→Option γ
 | .skip,st,KN,_,_=>KN st
 | .seq a b,st,KN,KX,KB=>match cutE X b with
  |some E=>exec X k a st (fun st1=>runE X k E st1 KN KB) KX KB
  |none=>exec X k a st (fun st1=>exec X k b st1 KN KX KB) KX KB
 | .cond c a b,st,KN,KX,KB=>match condE X c with
  |some E=>runE X k E st KN KB
  |none=>branch st c (fun st1=>exec X k a st1 KN KX KB) (fun st1=>exec X k b st1 KN KX KB)
 | .block id c,st,KN,KX,KB=>match findE X.loops id with
  |some E=>runE X k E st KN KB
  |none=>exec X k c st KN (fun i st1=>if i=id then KN st1 else KX i st1) KB
 | .exit id,st,_,KX,_=>KX id st
 | .ret,st,_,_,KB=>match X.res st with
  |some b=>KB b
  |none=>none
 | .region _ ops false,st,KN,_,_=>execOps (stepOp X.T X.G X.mvs k) ops ops.toList st KN
 | .region id ops true,st,KN,_,KB=>match findE X.regs id with
  |some E=>runE X k E st KN KB
  |none=>if drawOK X.G ops=true then execOps (stepOp X.T X.G X.mvs k) ops (pickOps ops (drawOrd ops)) st KN else none
 |_,_,_,_,_=>none
end
section
variable {P:Program} {w w1 w0:World} {S0:Own} {st:St} {μ μ':List ORec} {a:Act} {B:Type}
def LPost(X:Ctx B)(w0:World)(S0:Own){γ:Type}{D:Type}(f:D→St)(KN:D→Option γ)(KB:B→Option γ)(r:γ):Exit→Act→World→Prop
 | .normal,a,w=> ∃y μ,Rel w0 S0 (f y) μ a w∧KN y=some r
 | .ret,a,w=> ∃st μ b,Rel w0 S0 st μ a w∧X.res st=some b∧KB b=some r
 |_,_,_=>False
def EOK(P:Program)(X:Ctx B)(k:Nat)(E:LoopE B)(c:Code):Prop:=
 ∀{γ:Type} (KN:E.out.D→Option γ) (KB:B→Option γ) (r:γ) (x:E.inp.D) (w0:World) (S0:Own) (μ:List ORec) (a:Act) (w:World),S0.ov.length=X.no→Rel w0 S0 (E.inp.st X.n x) μ a w→E.fn k x KN KB=some r→
  c.wp P (LPost X w0 S0 (E.out.st X.n) KN KB r) a w
def LOK(P:Program)(X:Ctx B)(k:Nat):Code→Prop
 | .seq a b=>LOK P X k a∧(match cutE X b with
  |some E=>EOK P X k E b
  |none=>LOK P X k b)
 | .cond c a b=>match condE X c with
  |some E=>EOK P X k E (.cond c a b)
  |none=>LOK P X k a∧LOK P X k b
 | .block id c=>match findE X.loops id with
  |some E=>EOK P X k E (.block id c)
  |none=>LOK P X k c
 | .region id ops true=>match findE X.regs id with
  |some E=>EOK P X k E (.region id ops true)
  |none=>True
 |_=>True
def EPost(X:Ctx B)(w0:World)(S0:Own){γ:Type}(KN:St→Option γ)(KX:Nat→St→Option γ)(KB:B→Option γ)(r:γ):Exit→Act→World→Prop
 | .normal,a,w=> ∃st μ,Rel w0 S0 st μ a w∧KN st=some r
 | .exit id,a,w=> ∃st μ,Rel w0 S0 st μ a w∧KX id st=some r
 | .ret,a,w=> ∃st μ b,Rel w0 S0 st μ a w∧X.res st=some b∧KB b=some r
 |_,_,_=>False
theorem ZfO(h:Rel w0 S0 st μ a w){c:Operand}{b:Bool}(hc:st.ev c= .sv (.at (.bool b))):Rel w0 S0 (st.told c b) μ a w:=by
 cases c with
 |tmp d=>
  have hv:a.eval (.tmp d)= .bool b:=h.at hc
  have hv2:a.tmps.getD d undef= .bool b:=hv
  exact h.retell (t:=d) (x:= .sv (.at (.bool b))) (by rw[hv2];exact ⟨rfl,.inr rfl⟩)
 |_=>exact h
theorem Zr0{X:Ctx B}{k:Nat}{E:LoopE B}{c:Code}{γ:Type}{KN:St→Option γ}{KX:Nat→St→Option γ}{KB:B→Option γ}{r:γ}(hE:EOK P X k E c)(hno:S0.ov.length=X.no)(h:Rel w0 S0 st μ a w)(hr:runE X k E st KN KB=some r):c.wp P (EPost X w0 S0 KN KX KB r) a w:=by
 unfold runE at hr
 split at hr
 ·rename_i x hx
  unfold enterN at hx
  split at hx
  ·rename_i hn
   obtain ⟨μ',h1⟩:=Spec.enter_sound h hno hn hx
   refine Code.wp_mono (fun e a' w' hq=> ?_) (hE _ KB r x w0 S0 μ' a w hno h1 hr)
   cases e with
   |normal=>obtain ⟨y,μ2,g1,g2⟩:=hq;exact ⟨_,μ2,g1,g2⟩
   |ret=>exact hq
   |exit id=>exact False.elim hq
   |goto l=>exact False.elim hq
   |panic ch=>exact False.elim hq
   |outgrown=>exact False.elim hq
  ·cases hx
 ·cases hr
theorem Z9C{X:Ctx B}{k:Nat}(hT:TTok P X.T)(hG:EnvOK P k X.G)(hno:S0.ov.length=X.no): ∀{c:Code} {γ:Type} {st:St} {μ:List ORec} {a:Act} {w:World} {KN:St→Option γ} {KX:Nat→St→Option γ} {KB:B→Option γ} {r:γ},LOK P X k c→Rel w0 S0 st μ a w→exec X k c st KN KX KB=some r→c.wp P (EPost X w0 S0 KN KX KB r) a w:=by
 intro c
 induction c with
 |skip=>intro γ st μ a w KN KX KB r _ h hr;exact wp_skip ⟨st,μ,h,hr⟩
 |seq x y ihx ihy=>
  intro γ st μ a w KN KX KB r hL h hr
  simp only[exec]at hr
  simp only[LOK]at hL
  obtain ⟨hL1,hL2⟩:=hL
  split at hr
  ·rename_i E hE
   rw[hE]at hL2
   refine wp_seq (Code.wp_mono (fun e a' w' hq=> ?_) (ihx hL1 h hr))
   cases e with
   |normal=>obtain ⟨st1,μ1,h1,hr1⟩:=hq;exact Zr0 hL2 hno h1 hr1
   |exit id=>exact hq
   |ret=>exact hq
   |goto l=>exact hq
   |panic ch=>exact hq
   |outgrown=>exact hq
  ·rename_i hE
   rw[hE]at hL2
   refine wp_seq (Code.wp_mono (fun e a' w' hq=> ?_) (ihx hL1 h hr))
   cases e with
   |normal=>obtain ⟨st1,μ1,h1,hr1⟩:=hq;exact ihy hL2 h1 hr1
   |exit id=>exact hq
   |ret=>exact hq
   |goto l=>exact hq
   |panic ch=>exact hq
   |outgrown=>exact hq
 |cond c x y ihx ihy=>
  intro γ st μ a w KN KX KB r hL h hr
  simp only[exec]at hr
  simp only[LOK]at hL
  split at hr
  ·rename_i E hE
   rw[hE]at hL
   exact Zr0 hL hno h hr
  ·rename_i hE
   rw[hE]at hL
   unfold branch at hr
   split at hr
   ·rename_i t ht
    have hc:a.eval c= .bool t:=h.at ht
    refine wp_cond_split hc (fun htt=> ?_) (fun htf=> ?_)
    ·subst htt
     rw[if_pos rfl]at hr
     exact ihx hL.1 (ZfO h ht) hr
    ·subst htf
     rw[if_neg (by simp)]at hr
     exact ihy hL.2 (ZfO h ht) hr
   ·cases hr
 |block id c ih=>
  intro γ st μ a w KN KX KB r hL h hr
  simp only[exec]at hr
  simp only[LOK]at hL
  split at hr
  ·rename_i E hE
   rw[hE]at hL
   exact Zr0 hL hno h hr
  ·rename_i hE
   rw[hE]at hL
   refine wp_block (Code.wp_mono (fun e a' w' hq=> ?_) (ih hL h hr))
   cases e with
   |normal=>exact hq
   |exit id'=>
    obtain ⟨st1,μ1,h1,hr1⟩:=hq
    unfold Exit.inBlock
    simp only at hr1⊢
    split
    ·rename_i hid
     rw[if_pos hid]at hr1
     exact ⟨st1,μ1,h1,hr1⟩
    ·rename_i hid
     rw[if_neg hid]at hr1
     exact ⟨st1,μ1,h1,hr1⟩
   |ret=>exact hq
   |goto l=>exact hq
   |panic ch=>exact hq
   |outgrown=>exact hq
 |exit id=>intro γ st μ a w KN KX KB r _ h hr;exact wp_exit ⟨st,μ,h,hr⟩
 |ret=>
  intro γ st μ a w KN KX KB r _ h hr
  simp only[exec]at hr
  split at hr
  ·rename_i b hb; exact wp_ret ⟨st, μ, b, h, hb, hr⟩
  ·cases hr
 |region id ops draw=>
  intro γ st μ a w KN KX KB r hL h hr
  cases draw with
  |true=>
   simp only[exec]at hr
   simp only[LOK]at hL
   split at hr
   ·rename_i E hE
    rw[hE]at hL
    exact Zr0 hL hno h hr
   ·split at hr
    ·rename_i hok
     exact ZRL (Q:=EPost X w0 S0 KN KX KB r) (w0:=w0) (S0:=S0) hT hG hok (fun c a' w' hf=>hf) h hr (fun a' w' hn=>hn)
    ·cases hr
  |false=>
   simp only[exec]at hr
   exact wp_region_list (Zdn (Q:=EPost X w0 S0 KN KX KB r) (w0:=w0) (S0:=S0) (fun a' w' hn=>hn) (fun o st1 μ1 a1 w1 K' h1 hk=>Zfk hT hG h1 hk) ops.toList st μ a w h hr)
 |loop _ _=>intro γ st μ a w KN KX KB r _ h hr;cases hr
 |rangeFunc _ _ _ _ _ _=>intro γ st μ a w KN KX KB r _ h hr;cases hr
 |scope _ _=>intro γ st μ a w KN KX KB r _ h hr;cases hr
 |label _=>intro γ st μ a w KN KX KB r _ h hr;cases hr
 |goto _=>intro γ st μ a w KN KX KB r _ h hr;cases hr
 |refuse _=>intro γ st μ a w KN KX KB r _ h hr;cases hr
structure LoopDef (B:Type) where
 inp:Spec
 out:Spec
 Z:Type
 lp:Nat→inp.D→Option Z
 dsp:{γ:Type}→Z→(out.D→Option γ)→(B→Option γ)→Option γ
 mkN:out.D→Option Z
 mkB:B→Option Z
 hN: ∀{γ:Type} (y:out.D) (z:Z) (KN:out.D→Option γ) (KB:B→Option γ),mkN y=some z→dsp z KN KB=KN y
 hB: ∀{γ:Type} (b:B) (z:Z) (KN:out.D→Option γ) (KB:B→Option γ),mkB b=some z→dsp z KN KB=KB b
def LoopDef.E(D:LoopDef B):LoopE B where
 inp:=D.inp
 out:=D.out
 fn:=fun k x KN KB=>match D.lp k x with
  |some z=>D.dsp z KN KB
  |none=>none
def backK(X:Ctx B)(D:LoopDef B)(k:Nat)(st:St):Option D.Z:=match enterN X D.inp st with
 |some x=>D.lp k x
 |none=>none
def outK(X:Ctx B)(D:LoopDef B)(st:St):Option D.Z:=match enterN X D.out st with
 |some y=>D.mkN y
 |none=>none
noncomputable def loopK(X:Ctx B)(D:LoopDef B)(id:Nat)(body:Code)(k:Nat)(x:D.inp.D):Option D.Z:=
 exec X k body (D.inp.st X.n x) (backK X D k) (fun i st=>if i=id then outK X D st else none) D.mkB
theorem Zc9{X:Ctx B}(hno:S0.ov.length=X.no)(h:Rel w0 S0 st μ a w){s:Spec}{x:s.D}(hx:enterN X s st=some x): ∃μ',Rel w0 S0 (s.st X.n x) μ' a w:=by
 unfold enterN at hx
 split at hx
 ·rename_i hn;exact Spec.enter_sound h hno hn hx
 ·cases hx
theorem Zd{X:Ctx B}{D:LoopDef B}{id:Nat}{body:Code}(hT:TTok P X.T)(hG: ∀k,EnvOK P k X.G)(h0: ∀x,D.lp 0 x=none)(hs: ∀k x,D.lp (k+1) x=loopK X D id body k x)(hL: ∀k,LOK P X k body)(k:Nat):EOK P X k D.E (.block id (.loop body)):=by
 intro γ KN KB r x w0 S0 μ a w hno h hr
 simp only[LoopDef.E]at hr
 split at hr
 ·rename_i z hz
  refine wp_block (wp_loop_ghost (fun j a w=> ∃x μ,Rel w0 S0 (D.inp.st X.n x) μ a w∧D.lp j x=some z) k ⟨x,μ,h,hz⟩ fun j a w ⟨x,μ,h,hz⟩=> ?_)
  cases j with
  |zero=>rw[h0]at hz;cases hz
  |succ j=>
   rw [hs] at hz
   refine Code.wp_mono (fun e a' w' hq=> ?_) (Z9C hT (hG j) hno (hL j) h hz)
   cases e with
   |normal=>
    obtain ⟨st1,μ1,h1,hr1⟩:=hq
    unfold backK at hr1
    split at hr1
    ·rename_i x' hx'
     obtain ⟨μ',h2⟩:=Zc9 hno h1 hx'
     exact ⟨j,Nat.lt_succ_self j,x',μ',h2,hr1⟩
    ·cases hr1
   |exit id'=>
    obtain ⟨st1,μ1,h1,hr1⟩:=hq
    show Exit.inBlock id _ (.exit id') a' w'
    unfold Exit.inBlock
    simp only at hr1⊢
    split at hr1
    ·rename_i hid
     rw[if_pos hid]
     unfold outK at hr1
     split at hr1
     ·rename_i y hy
      obtain ⟨μ',h2⟩:=Zc9 hno h1 hy
      exact ⟨y,μ',h2,by rw[←D.hN y z KN KB hr1];exact hr⟩
     ·cases hr1
    ·cases hr1
   |ret=>
    obtain ⟨st1,μ1,b,h1,hb,hr1⟩:=hq
    exact ⟨st1,μ1,b,h1,hb,by rw[←D.hB b z KN KB hr1];exact hr⟩
   |goto l=>exact hq
   |panic ch=>exact hq
   |outgrown=>exact hq
 ·cases hr
def repl{Z:Type}(m:Nat)(x:Option Z):Option (List Z):=match x with
 |some z=>some (List.replicate m z)
 |none=>none
theorem Z4n{X:Ctx B}{D:LoopDef B}{id:Nat}{ops:Array Oper}{m:Nat}(hT:TTok P X.T){k:Nat}(hG:EnvOK P k X.G)(hs: ∀i,execD X.T X.G X.mvs k ops (D.inp.st X.n i) (outK X D)=repl m (D.lp k i)):EOK P X k D.E (.region id ops true):=by
 intro γ KN KB r i w0 S0 μ a w hno h hr
 simp only[LoopDef.E]at hr
 split at hr
 ·rename_i z hz
  change Rel w0 S0 (D.inp.st X.n i) μ a w at h
  have hx:=hs i
  rw[hz]at hx
  refine ZTi (w0:=w0) (S0:=S0) hT hG (fun c a' w' hf=>hf) h hx (fun z' hz' a' w' hn=> ?_)
  have hzz:z'=z:=List.eq_of_mem_replicate hz'
  subst hzz
  obtain ⟨st1,μ1,h1,hr1⟩:=hn
  unfold outK at hr1
  split at hr1
  ·rename_i y hy
   obtain ⟨μ',h2⟩:=Zc9 hno h1 hy
   exact ⟨y,μ',h2,by rw[←D.hN y z' KN KB hr1];exact hr⟩
  ·cases hr1
 ·cases hr
theorem ZNI{X:Ctx B}{D:LoopDef B}{c:Operand}{x y:Code}(hT:TTok P X.T){k:Nat}(hG:EnvOK P k X.G)(hs: ∀i,D.lp k i=branch (D.inp.st X.n i) c (fun st=>exec X k x st (outK X D) (fun _ _=>none) D.mkB) (fun st=>exec X k y st (outK X D) (fun _ _=>none) D.mkB))
  (hx : LOK P X k x) (hy : LOK P X k y) : EOK P X k D.E (.cond c x y) := by
 intro γ KN KB r i w0 S0 μ a w hno h hr
 simp only[LoopDef.E]at hr
 split at hr
 ·rename_i z hz
  have fin: ∀(e:Exit) (a':Act) (w':World),EPost X w0 S0 (outK X D) (fun _ _=>none) D.mkB z e a' w'→LPost X w0 S0 (D.E.out.st X.n) KN KB r e a' w':=by
   intro e a' w' hq
   cases e with
   |normal=>
    obtain ⟨st1,μ1,h1,hr1⟩:=hq
    unfold outK at hr1
    split at hr1
    ·rename_i y hy
     obtain ⟨μ',h2⟩:=Zc9 hno h1 hy
     exact ⟨y,μ',h2,by rw[←D.hN y z KN KB hr1];exact hr⟩
    ·cases hr1
   |exit id'=>obtain ⟨st1,μ1,h1,hr1⟩:=hq;cases hr1
   |ret=>
    obtain ⟨st1,μ1,b,h1,hb,hr1⟩:=hq
    exact ⟨st1,μ1,b,h1,hb,by rw[←D.hB b z KN KB hr1];exact hr⟩
   |goto l=>exact hq
   |panic ch=>exact hq
   |outgrown=>exact hq
  have hz:=(hs i).symm.trans hz
  change Rel w0 S0 (D.inp.st X.n i) μ a w at h
  unfold branch at hz
  split at hz
  ·rename_i t ht
   have hc:a.eval c= .bool t:=h.at ht
   refine wp_cond_split hc (fun htt=> ?_) (fun htf=> ?_)
   ·subst htt
    rw[if_pos rfl]at hz
    exact Code.wp_mono fin (Z9C hT hG hno hx (ZfO h ht) hz)
   ·subst htf
    rw[if_neg (by simp)]at hz
    exact Code.wp_mono fin (Z9C hT hG hno hy (ZfO h ht) hz)
  ·cases hz
 ·cases hr
theorem Zyb{X:Ctx B}{D:LoopDef B}{c:Code}(hT:TTok P X.T){k:Nat}(hG:EnvOK P k X.G)(hs: ∀i,D.lp k i=exec X k c (D.inp.st X.n i) (outK X D) (fun _ _=>none) D.mkB)(hx:LOK P X k c):EOK P X k D.E c:=by
 intro γ KN KB r i w0 S0 μ a w hno h hr
 simp only[LoopDef.E]at hr
 split at hr
 ·rename_i z hz
  have fin: ∀(e:Exit) (a':Act) (w':World),EPost X w0 S0 (outK X D) (fun _ _=>none) D.mkB z e a' w'→LPost X w0 S0 (D.E.out.st X.n) KN KB r e a' w':=by
   intro e a' w' hq
   cases e with
   |normal=>
    obtain ⟨st1,μ1,h1,hr1⟩:=hq
    unfold outK at hr1
    split at hr1
    ·rename_i y hy
     obtain ⟨μ',h2⟩:=Zc9 hno h1 hy
     exact ⟨y,μ',h2,by rw[←D.hN y z KN KB hr1];exact hr⟩
    ·cases hr1
   |exit id'=>obtain ⟨st1,μ1,h1,hr1⟩:=hq;cases hr1
   |ret=>
    obtain ⟨st1,μ1,b,h1,hb,hr1⟩:=hq
    exact ⟨st1,μ1,b,h1,hb,by rw[←D.hB b z KN KB hr1];exact hr⟩
   |goto l=>exact hq
   |panic ch=>exact hq
   |outgrown=>exact hq
  have hz:=(hs i).symm.trans hz
  change Rel w0 S0 (D.inp.st X.n i) μ a w at h
  exact Code.wp_mono fin (Z9C hT hG hno hx h hz)
 ·cases hr
end
end
section
def ownAtoms(i:Nat):(t:Ty)→t.D→List At
 | .int k,n=>[.int k n]| .bool,b=>[.bool b]| .str,s=>[.str s]| .pair a b,x=>ownAtoms i a x.1++ownAtoms i b x.2| .slice _ _,_=>[.sl i]
def leafOf(u:Ty):(t:Ty)→t.D→Nat→List u.D
 | .slice _ u',xs,_=>if h:u'=u then h▸xs else []
 | .pair a b,x,pos=>if pos<a.sz then leafOf u a x.1 pos else leafOf u b x.2 (pos-a.sz)
 |_,_,_=>[]
def packA(agg:Bool)(l:List At):TV:=if agg then .sv (.agg l) else .sv (.at (l.headD .un))
def initTmps:(ps:List PK)→Tup ps→List TV
 | [], _ => []
 |p::ps,x=>(match p.own with
  |none=>match p.box with
   |none=>packA p.agg (atomsOf 0 p.t x.1)
   |some _=> .sv (.at (.ptr 1 0))
  |some _=>packA p.agg (ownAtoms 1 p.t x.1))::initTmps ps x.2
def boxObjs(e:TypeId):(t:Ty)→t.D→List Ob
 | .pair (.slice _ u) b,x=>[.box e (.sl 2::ownAtoms 0 b x.2),.fx u x.1]
 |_,_=>[]
def ownObjs:(ps:List PK)→Tup ps→List Ob
 | [], _ => []
 |p::ps,x=>match p.own with
  |some q=>[.row p.give q.2.1 q.2.2 (leafOf q.2.2 p.t x.1 q.1)]
  |none=>match p.box with
   |some e=>boxObjs e p.t x.1
   |none=>ownObjs ps x.2
def oneOwn:List PK→Bool
 | [] => true
 |p::ps=>match p.own with
  |some _=>(ownI ps).isNone&&(boxI ps).isNone&&p.box.isNone
  |none=>match p.box with
   |some _=>(ownI ps).isNone&&(boxI ps).isNone
   |none=>oneOwn ps
def initSt(ps:List PK)(n:Nat)(x:Tup ps):St:={tmps:=initTmps ps x++List.replicate (n-ps.length) (.sv (.at .un)),objs:= .ro::ownObjs ps x}
def noOf(ps:List PK):Nat:=match ownI ps with|some _=>1|none=>match boxI ps with|some _=>2|none=>0
section
variable {P:Program} {w w1 w0:World} {S0:Own} {st:St} {μ μ':List ORec} {a:Act}
theorem Zka{agg:Bool}{l:List At}{v:Value}(hs:Shaped agg v)(h:AL μ w l v.cells.toList):TR μ w (packA agg l) v:=by
 unfold Shaped at hs
 unfold packA
 split
 ·rename_i hag
  rw[if_pos hag]at hs
  obtain ⟨cs,rfl⟩:=hs
  exact ⟨cs.toList,by simp,h⟩
 ·rename_i hag
  rw[if_neg hag]at hs
  rw[hs]at h
  have hl:=h.1
  match l,hl with
  |[y],_=>exact ⟨h.2 0 y v rfl rfl,.inr hs⟩
theorem Zxo{j:Nat}: ∀{t:Ty} {x:t.D} {S:Nat→Prop} {cs:List Value},t.flat=true→Rep t w S x cs→AL μ w (ownAtoms j t x) cs
 | .int _,n,S,cs,_,h=>by rw[show cs=_ from h];exact AL.one (show AR μ w (.int _ n) _ from rfl)
 | .bool,b,S,cs,_,h=>by rw[show cs=_ from h];exact AL.one (show AR μ w (.bool b) _ from rfl)
 | .str,s,S,cs,_,h=>by rw[show cs=_ from h];exact AL.one (show AR μ w (.str s) _ from rfl)
 | .slice _ _,_,_,_,h,_=>by cases h
 | .pair a b,x,S,cs,hf,h=>by
  simp only[Ty.flat,Bool.and_eq_true]at hf
  obtain ⟨c0,c1,S0,S1,rfl,h0,h1,_,_⟩:=h
  exact AL.append (Zxo hf.1 h0) (Zxo hf.2 h1)
theorem ZGd{i:Nat}{rec:ORec}(hr:μ[i]? =some rec){u:Ty}{e:TypeId}{So:Nat→Prop}: ∀{t:Ty} {x:t.D} {cs:List Value} {pos:Nat} {S:Nat→Prop},(∀k,S k→So k)→oneLeaf t pos e u=true→Rep t w S x cs→cs[pos]? =some rec.v→
  AL μ w (ownAtoms i t x) cs∧RowRep (Rep u) u.sz e w So (leafOf u t x pos) rec.v
 | .int _,x,cs,pos,S,_,h1,_,_=>by cases h1
 | .bool,x,cs,pos,S,_,h1,_,_=>by cases h1
 | .str,x,cs,pos,S,_,h1,_,_=>by cases h1
 | .slice e' u',x,cs,pos,S,hS,h1,hrep,hv=>by
  simp only[oneLeaf,Bool.and_eq_true,beq_iff_eq,decide_eq_true_eq]at h1
  obtain ⟨⟨rfl,rfl⟩,rfl⟩:=h1
  obtain ⟨v,rfl,hrow⟩:=hrep
  obtain rfl:v=rec.v:=by simpa using hv
  obtain ⟨A,c,hvv,_⟩:=Zj4 hrow
  refine ⟨AL.one (show AR μ w (.sl i) rec.v from ⟨rec,hr,rfl,A,_,c,hvv⟩),?_⟩
  simp only[leafOf,dif_pos]
  obtain ⟨v2,hv2,h3⟩:=Rep.wide (t:= .slice e' u') (show Rep (.slice e' u') w S x [rec.v] from ⟨_,rfl,hrow⟩) hS
  obtain rfl:rec.v=v2:=by simpa using hv2
  exact h3
 | .pair ta tb,x,cs,pos,S,hS,h1,hrep,hv=>by
  obtain ⟨c0,c1,S0,S1,rfl,h0,h2,d0,d1⟩:=hrep
  simp only[oneLeaf]at h1
  have hl:=h0.len
  split at h1
  ·rename_i hp
   simp only[Bool.and_eq_true]at h1
   rw[List.getElem?_append_left (by omega)]at hv
   obtain ⟨g1,g2⟩:=ZGd hr (fun k hk=>hS k (d0 k hk).1) h1.1 h0 hv
   refine ⟨AL.append g1 (Zxo h1.2 h2),?_⟩
   simp only[leafOf,if_pos hp]
   exact g2
  ·rename_i hp
   simp only[Bool.and_eq_true]at h1
   rw[List.getElem?_append_right (by omega),hl]at hv
   obtain ⟨g1,g2⟩:=ZGd hr (fun k hk=>hS k (d1 k hk)) h1.2 h2 hv
   refine ⟨AL.append (Zxo h1.1 h0) g1,?_⟩
   simp only[leafOf,if_neg hp]
   exact g2
theorem ArgsR.len: ∀{ps:List PK} {x:Tup ps} {vs:List Value} {Sro So:Nat→Prop},ArgsR w Sro So ps x vs→vs.length=ps.length
 |[],_,vs,_,_,h=>by rw[show vs=[] from h];rfl
 |p::ps,x,vs,_,_,h=>by
  obtain ⟨v,vs',rfl,_,_,h⟩:=h
  simp[h.len]
theorem ZNa: ∀{t:Ty} {pos:Nat} {e:TypeId} {u:Ty},oneLeaf t pos e u=true→pos<t.sz
 | .int _,_,_,_,h=>by cases h
 | .bool,_,_,_,h=>by cases h
 | .str,_,_,_,h=>by cases h
 | .slice _ _,pos,_,_,h=>by
  simp only[oneLeaf,Bool.and_eq_true,beq_iff_eq]at h
  obtain ⟨⟨rfl,_⟩,_⟩:=h
  exact Nat.one_pos
 | .pair a b,pos,_,_,h=>by
  simp only[oneLeaf]at h
  simp only[Ty.sz]
  split at h
  ·omega
  ·simp only [Bool.and_eq_true] at h
   have:=ZNa h.2
   omega
theorem ZuB{rec0:ORec}{Sro So:Nat→Prop}(hro:μ[0]? =some rec0)(hr0:rec0.ok=Sro): ∀{ps:List PK} {x:Tup ps} {vs:List Value},ownI ps=none→boxI ps=none→ArgsR w Sro So ps x vs→
  ownObjs ps x=[]∧ ∀(i:Nat) y,(initTmps ps x)[i]? =some y→ ∃v,vs[i]? =some v∧TR μ w y v
 | [], x, vs, _, _, _ => ⟨rfl, fun i y h => by simp [initTmps] at h⟩
 |p::ps,x,vs,ho,hb,h=>by
  obtain ⟨v,vs',rfl,hsh,hm,hrest⟩:=h
  have hpb:p.box=none:=by
   simp only[boxI]at hb
   split at hb
   ·cases hb
   ·assumption
  have hb2:boxI ps=none:=by
   simp only[boxI,hpb]at hb
   exact hb
  have hp:p.own=none:=by
   simp only[ownI]at ho
   split at ho
   ·cases ho
   ·assumption
  have ho2:ownI ps=none:=by
   simp only[ownI,hp]at ho
   exact ho
  rw[hp,hpb]at hm
  obtain ⟨g1,g2⟩:=ZuB hro hr0 ho2 hb2 hrest
  refine ⟨by simp only[ownObjs,hp,hpb];exact g1,fun i y hy=> ?_⟩
  simp only[initTmps,hp,hpb]at hy
  cases i with
  |zero=>
   simp only[List.getElem?_cons_zero]at hy
   injection hy with hy
   subst hy
   exact ⟨v,rfl,Zka hsh (AL.of_rd hro (by rw[hr0];exact hm))⟩
  |succ i=>exact g2 i y (by simpa using hy)
theorem ZRG{rec0 rec:ORec}{Sro So:Nat→Prop}(hro:μ[0]? =some rec0)(hr0:rec0.ok=Sro)(hrec:μ[1]? =some rec)(hok:rec.ok=So): ∀{ps:List PK} {x:Tup ps} {vs:List Value} {q:Nat×TypeId×Ty},ownI ps=some q→oneOwn ps=true→ownV ps vs=some rec.v→ArgsR w Sro So ps x vs→
  (∃ xs : List q.2.2.D, ownObjs ps x = [.row (giveI ps) q.2.1 q.2.2 xs] ∧ RowRep (Rep q.2.2) q.2.2.sz q.2.1 w So xs rec.v) ∧ ∀ (i : Nat) y, (initTmps ps x)[i]? = some y → ∃ v, vs[i]? = some v ∧ TR μ w y v
 | [], x, vs, q, ho, _, _, _ => by cases ho
 |p::ps,x,vs,q,ho,h1,hv,h=>by
  obtain ⟨v,vs',rfl,hsh,hm,hrest⟩:=h
  cases hp:p.own with
  |none=>
   simp only[ownI,hp]at ho
   simp only[ownV,hp]at hv
   have hpb:p.box=none:=by
    cases hpb:p.box with
    |none=>rfl
    |some e=>
     simp only[oneOwn,hp,hpb,Bool.and_eq_true,Option.isNone_iff_eq_none]at h1
     rw[h1.1]at ho
     cases ho
   simp only[oneOwn,hp,hpb]at h1
   rw[hp,hpb]at hm
   obtain ⟨g1,g2⟩:=ZRG hro hr0 hrec hok ho h1 hv hrest
   refine ⟨by simp only[ownObjs,giveI,hp,hpb];exact g1,fun i y hy=> ?_⟩
   simp only[initTmps,hp,hpb]at hy
   cases i with
   |zero=>
    simp only[List.getElem?_cons_zero]at hy
    injection hy with hy
    subst hy
    exact ⟨v,rfl,Zka hsh (AL.of_rd hro (by rw[hr0];exact hm))⟩
   |succ i=>exact g2 i y (by simpa using hy)
  |some q'=>
   simp only[ownI,hp]at ho
   injection ho with ho
   subst ho
   simp only[oneOwn,hp,Bool.and_eq_true,Option.isNone_iff_eq_none]at h1
   simp only[ownV,hp]at hv
   rw[hp]at hm
   obtain ⟨g1,g2⟩:=ZGd (So:=So) hrec (fun k hk=>hk) hm.1 hm.2 hv
   obtain ⟨_,f2⟩:=ZuB hro hr0 h1.1.1 h1.1.2 hrest
   refine ⟨⟨_,by simp only[ownObjs,giveI,hp],g2⟩,fun i y hy=> ?_⟩
   simp only[initTmps,hp]at hy
   cases i with
   |zero=>
    simp only[List.getElem?_cons_zero]at hy
    injection hy with hy
    subst hy
    exact ⟨v,rfl,Zka hsh g1⟩
   |succ i=>exact f2 i y (by simpa using hy)
theorem ZpM: ∀{ps:List PK} {x:Tup ps} {vs:List Value} {e:TypeId} {t:Ty} {Sro So:Nat→Prop},oneOwn ps=true→boxI ps=some (e,t)→ArgsR w Sro So ps x vs→
  ownI ps=none∧ ∃(g:Nat) (c:Value) (r:List Value) (x0:t.D),boxV ps vs=some g∧So g∧w.heap[g]? =some (.cells (c::r).toArray e (0,0))∧BoxT w Sro t x0 c r∧ownObjs ps x=boxObjs e t x0
 | [], _, _, _, _, _, _, _, h, _ => by cases h
 |p::ps,x,vs,e,t,Sro,So,h1,hb,h=>by
  obtain ⟨v,vs',rfl,hsh,hm,hrest⟩:=h
  cases hp:p.own with
  |some q=>
   simp only[oneOwn,hp,Bool.and_eq_true,Option.isNone_iff_eq_none]at h1
   simp only[boxI,h1.2,h1.1.2]at hb
   cases hb
  |none=>
   cases hpb:p.box with
   |none=>
    simp only[oneOwn,hp,hpb]at h1
    simp only[boxI,hpb]at hb
    obtain ⟨g0,g,c,r,x0,g1,g2,g3,g4,g5⟩:=ZpM h1 hb hrest
    exact ⟨by simp only[ownI,hp];exact g0,g,c,r,x0,by simp only[boxV,hpb];exact g1,g2,g3,g4,by simp only[ownObjs,hp,hpb];exact g5⟩
   |some e'=>
    simp only[oneOwn,hp,hpb,Bool.and_eq_true,Option.isNone_iff_eq_none]at h1
    simp only[boxI,hpb]at hb
    injection hb with hb
    injection hb with hb1 hb2
    subst hb1 hb2
    rw[hp,hpb]at hm
    obtain ⟨g,c,r,hv,hg,hh,hB⟩:=hm
    exact ⟨by simp only[ownI,hp];exact h1.1,g,c,r,x.1,by simp only[boxV,hpb,hv],hg,hh,hB,by simp only[ownObjs,hp,hpb]⟩
theorem ZRF{rec0 rec:ORec}{Sro So:Nat→Prop}(hro:μ[0]? =some rec0)(hr0:rec0.ok=Sro)(hrec:μ[1]? =some rec): ∀{ps:List PK} {x:Tup ps} {vs:List Value} {e:TypeId} {t:Ty},oneOwn ps=true→boxI ps=some (e,t)→boxV ps vs=some rec.blk→ArgsR w Sro So ps x vs→
  ∀ (i : Nat) y, (initTmps ps x)[i]? = some y → ∃ v, vs[i]? = some v ∧ TR μ w y v
 | [], _, _, _, _, _, h, _, _ => by cases h
 |p::ps,x,vs,e,t,h1,hb,hv,h=>by
  obtain ⟨v,vs',rfl,hsh,hm,hrest⟩:=h
  intro i y hy
  cases hp:p.own with
  |some q=>
   simp only[oneOwn,hp,Bool.and_eq_true,Option.isNone_iff_eq_none]at h1
   simp only[boxI,h1.2,h1.1.2]at hb
   cases hb
  |none=>
   cases hpb:p.box with
   |none=>
    simp only[oneOwn,hp,hpb]at h1
    simp only[boxI,hpb]at hb
    simp only[boxV,hpb]at hv
    rw[hp,hpb]at hm
    simp only[initTmps,hp,hpb]at hy
    cases i with
    |zero=>
     simp only[List.getElem?_cons_zero]at hy
     injection hy with hy
     subst hy
     exact ⟨v,rfl,Zka hsh (AL.of_rd hro (by rw[hr0];exact hm))⟩
    |succ i=>exact ZRF hro hr0 hrec h1 hb hv hrest i y (by simpa using hy)
   |some e'=>
    simp only[oneOwn,hp,hpb,Bool.and_eq_true,Option.isNone_iff_eq_none]at h1
    rw[hp,hpb]at hm
    obtain ⟨g,c,r,hvv,_⟩:=hm
    simp only[boxV,hpb,hvv]at hv
    injection hv with hv
    simp only[initTmps,hp,hpb]at hy
    cases i with
    |zero=>
     simp only[List.getElem?_cons_zero]at hy
     injection hy with hy
     subst hy
     exact ⟨v,rfl,⟨rec,hrec,by rw[hvv,←hv]⟩,.inr (by rw[hvv];rfl)⟩
    |succ i=>exact (ZuB hro hr0 h1.1 h1.2 hrest).2 i y (by simpa using hy)
theorem ZFO: ∀{ps:List PK} {x:Tup ps},(initTmps ps x).length=ps.length
 |[],_=>rfl
 |p::ps,x=>by simp[initTmps,ZFO]
theorem ZGt: ∀{ps:List PK} {x:Tup ps} {vs:List Value} {q:Nat×TypeId×Ty} {Sro So:Nat→Prop},ownI ps=some q→ArgsR w Sro So ps x vs→ ∃v,ownV ps vs=some v
 | [], _, _, _, _, _, h, _ => by cases h
 |p::ps,x,vs,q,Sro,So,ho,h=>by
  obtain ⟨v,vs',rfl,hsh,hm,hrest⟩:=h
  cases hp:p.own with
  |none=>
   simp only[ownI,hp]at ho
   simp only[ownV,hp]
   exact ZGt ho hrest
  |some q'=>
   simp only[ownV,hp]
   rw[hp]at hm
   have h1:=ZNa hm.1
   have h2:=hm.2.len
   exact ⟨_,List.getElem?_eq_getElem (by omega)⟩
theorem ZMw{ps:List PK}{n:Nat}{x:Tup ps}{vs:List Value}{Sro So:Nat→Prop}(h1:oneOwn ps=true)(h:ArgsR w Sro So ps x vs)(hd: ∀k,So k→ ¬Sro k)(hl: ∀k,So k→k<w.heap.size)(hl2: ∀k,Sro k→k<w.heap.size)(hgl:GlOK w So):
  ∃S0:Own,S0.ok=So∧(∀k,S0.gv k→giveI ps=true∧So k)∧(∀hv,ownI ps≠none→ownV ps vs=some hv→S0.ov[0]? =some (hv,0))∧(∀e t,boxI ps=some (e,t)→ ∃(g:Nat) (c:Value) (r:List Value),boxV ps vs=some g∧w.heap[g]? =some (.cells (c::r).toArray e (0,0))∧(∃p,S0.ov[0]? =some (p,g))∧S0.ov[1]? =some (c,0))∧S0.ov.length=noOf ps∧ ∃μ,Rel w S0 (initSt ps n x) μ {tmps:=vs.toArray++Array.replicate (n-vs.toArray.size) undef,defers:=[]} w:=by
 have hlen := h.len
 have hun : ∀ (μ : List ORec) (i : Nat) y, (∀ (i : Nat) y, (initTmps ps x)[i]? = some y → ∃ v, vs[i]? = some v ∧ TR μ w y v) → (initTmps ps x ++ List.replicate (n - ps.length) (.sv (.at .un)))[i]? = some y → TR μ w y ((vs.toArray ++ Array.replicate (n - vs.toArray.size) undef).getD i undef) := by
  intro μ i y hI hy
  rw [List.getElem?_append] at hy
  split at hy
  ·rename_i hi
   obtain ⟨v,hv,ht⟩:=hI i y hy
   have : (vs.toArray ++ Array.replicate (n - vs.toArray.size) undef).getD i undef = v := by
    rw [Array.getD_eq_getD_getElem?, Array.getElem?_append_left (by simp; exact (List.getElem?_eq_some_iff.1 hv).1)]
    simp[hv]
   rw [this]; exact ht
  ·rw [List.getElem?_replicate] at hy
   split at hy
   ·injection hy with hy
    subst hy
    exact ⟨trivial,.inl rfl⟩
   ·cases hy
 have hsz : (vs.toArray ++ Array.replicate (n - vs.toArray.size) undef).size = (initSt ps n x).tmps.length := by
  simp [initSt, ZFO, hlen]
 cases ho:ownI ps with
 |none=>
  cases hbx:boxI ps with
  |some et=>
   obtain ⟨e,t⟩:=et
   obtain ⟨_,g,c,r,x0,b1,b2,b3,b4,b5⟩:=ZpM h1 hbx h
   match t,x0,b4,b5,hbx with
   | .pair (.slice es u) b,x0,b4,b5,hbx=>
    obtain ⟨hflat,hrd,hrep⟩:=b4
    obtain ⟨A,cc,hcv,hl3,hm3,hA3⟩:=hrd
    have g2:=ZRF (μ:=[⟨undef,0,Sro⟩,⟨.pointer (some ⟨g,0,none⟩),g,So⟩,⟨c,0,Sro⟩]) (rec0:=⟨undef,0,Sro⟩) (rec:=⟨.pointer (some ⟨g,0,none⟩),g,So⟩) rfl rfl rfl h1 hbx b1 h
    have b5':ownObjs ps x=[.box e (.sl 2::ownAtoms 0 b x0.2),.fx u x0.1]:=b5
    refine ⟨{ok:=So,ov:=[(.pointer (some ⟨g,0,none⟩),g),(c,0)]},rfl,fun _ hf=>hf.elim,(fun _ hn=>(hn rfl).elim),(fun e2 t2 he2=> ?_),by simp[noOf,ho,hbx],[⟨undef,0,Sro⟩,⟨.pointer (some ⟨g,0,none⟩),g,So⟩,⟨c,0,Sro⟩],?_⟩
    ·injection he2 with he2
     injection he2 with he2 he3
     subst he2 he3
     exact ⟨g,c,r,b1,b3,⟨_,rfl⟩,rfl⟩
    refine ⟨by simp[initSt,b5'],hsz,fun i y hy=>hun _ i y g2 hy,fun i o q hob hr=> ?_,fun i j o ri rj hij hob hw hri hrj k hk=> ?_,fun i o q hob hr hw k hk=> ?_,fun i e t xs q hob hr k hk=> ?_,fun i q hr k hk=> ?_,.refl w _,rfl,fun j v hv=> ?_,hgl,fun _ _ _ _ _=> .inl trivial⟩
    ·simp only [initSt, b5'] at hob
     match i,hob,hr with
     | 0, hob, hr => simp at hob; subst hob; trivial
     | 1, hob, hr =>
      simp at hob hr
      subst hob hr
      refine ⟨b2,c::r,b3,?_,fun v hv=> ?_⟩
      ·have h3 := Zxo (μ := [⟨undef, 0, Sro⟩, ⟨.pointer (some ⟨g, 0, none⟩), g, So⟩, ⟨c, 0, Sro⟩]) (j := 0) hflat hrep
       refine ⟨by have:=h3.1;simp[this],fun m y v hy hv=> ?_⟩
       cases m with
       |zero=>
        obtain rfl: .sl 2=y:=by simpa using hy
        obtain rfl:c=v:=by simpa using hv
        exact ⟨_,rfl,rfl,A,_,cc,hcv⟩
       |succ m=>exact h3.2 m y v (by simpa using hy) (by simpa using hv)
      ·rcases List.mem_cons.1 hv with rfl | hv
       ·rw[hcv];rfl
       ·exact hrep.one v hv
     |2,hob,hr=>
      simp at hob hr
      subst hob hr
      exact ⟨⟨A,cc,hcv,hl3,hm3,hA3⟩,A,_,cc,hcv⟩
     |i+3,hob,hr=>simp at hob
    ·simp only [initSt, b5'] at hob
     match i,hob,hri with
     |0,hob,hri=>simp at hob;subst hob;cases hw
     |1,hob,hri=>
      simp at hri;subst hri
      match j,hrj with
      |0,hrj=>simp at hrj;subst hrj;exact hd k hk
      |1,hrj=>exact absurd rfl hij
      |2,hrj=>simp at hrj;subst hrj;exact hd k hk
      |j+3,hrj=>simp at hrj
     |2,hob,hri=>simp at hob;subst hob;cases hw
     |i+3,hob,hri=>simp at hob
    ·simp only [initSt, b5'] at hob
     match i,hob,hr with
     |0,hob,hr=>simp at hob;subst hob;cases hw
     |1,hob,hr=>simp at hr;subst hr;exact .inl hk
     |2,hob,hr=>simp at hob;subst hob;cases hw
     |i+3,hob,hr=>simp at hob
    ·simp only [initSt, b5'] at hob
     match i,hob,hr with
     |0,hob,hr=>simp at hob
     |1,hob,hr=>simp at hob
     |2,hob,hr=>simp at hob
     |i+3,hob,hr=>simp at hob
    ·match i, hr with
     |0,hr=>simp at hr;subst hr;exact hl2 k hk
     |1,hr=>simp at hr;subst hr;exact hl k hk
     |2,hr=>simp at hr;subst hr;exact hl2 k hk
     |i+3,hr=>simp at hr
    ·match j, hv with
     |0,hv=>simp at hv;subst hv;exact ⟨_,rfl,rfl,rfl⟩
     |1,hv=>simp at hv;subst hv;exact ⟨_,rfl,rfl,rfl⟩
     |j+2,hv=>simp at hv
   | .pair (.int _) b,x0,b4,b5,hbx=>exact b4.elim
   | .pair .bool b,x0,b4,b5,hbx=>exact b4.elim
   | .pair .str b,x0,b4,b5,hbx=>exact b4.elim
   | .pair (.pair _ _) b,x0,b4,b5,hbx=>exact b4.elim
   | .int _,x0,b4,b5,hbx=>exact b4.elim
   | .bool,x0,b4,b5,hbx=>exact b4.elim
   | .str,x0,b4,b5,hbx=>exact b4.elim
   | .slice _ _,x0,b4,b5,hbx=>exact b4.elim
  |none=>
   refine ⟨{ok:=So,ov:=[]},rfl,fun _ hf=>hf.elim,(fun _ hn=>(hn rfl).elim),(fun e t he=>by cases he),by simp[noOf,ho,hbx],[⟨undef,0,Sro⟩],?_⟩
   obtain ⟨g1,g2⟩:=ZuB (μ:=[⟨undef,0,Sro⟩]) (rec0:=⟨undef,0,Sro⟩) rfl rfl ho hbx h
   refine ⟨by simp[initSt,g1],hsz,fun i y hy=>hun _ i y g2 hy,fun i o r hob hr=> ?_,fun i j o ri rj hij hob hw hri hrj k hk=> ?_,fun i o r hob hr hw k hk=> ?_,fun i e t xs r hob hr k hk=> ?_,fun i r hr k hk=> ?_,.refl w _,rfl,(fun j v hv=>by simp at hv),hgl,fun _ _ _ _ _=> .inl trivial⟩
   ·simp only [initSt, g1] at hob
    cases i with
    |zero=>simp at hob;subst hob;trivial
    |succ i=>simp at hob
   ·simp only [initSt, g1] at hob
    cases i with
    |zero=>simp at hob;subst hob;cases hw
    |succ i=>simp at hob
   ·simp only [initSt, g1] at hob
    cases i with
    |zero=>simp at hob;subst hob;cases hw
    |succ i=>simp at hob
   ·simp only [initSt, g1] at hob
    cases i with
    |zero=>simp at hob
    |succ i=>simp at hob
   ·cases i with
    |zero=>simp at hr;subst hr;exact hl2 k hk
    |succ i=>simp at hr
 |some q=>
  obtain ⟨hv,hhv⟩:=ZGt ho h
  refine ⟨{ok:=So,ov:=[(hv,0)],gv:=fun k=>giveI ps=true∧So k,go:=fun k hk=>hk.2},rfl,fun _ hk=>hk,fun hv2 _ hh2=>by rw[hhv]at hh2;injection hh2 with hh2;rw[←hh2];rfl,fun e t he=>(by have:=(ZpM h1 he h).1;rw[ho]at this;cases this),by simp[noOf,ho],[⟨undef,0,Sro⟩,⟨hv,0,So⟩],?_⟩
  obtain ⟨⟨xs,g1,g3⟩,g2⟩:=ZRG (μ:=[⟨undef,0,Sro⟩,⟨hv,0,So⟩]) (rec0:=⟨undef,0,Sro⟩) (rec:=⟨hv,0,So⟩) rfl rfl rfl rfl ho h1 hhv h
  refine ⟨by simp[initSt,g1],hsz,fun i y hy=>hun _ i y g2 hy,fun i o r hob hr=> ?_,fun i j o ri rj hij hob hw hri hrj k hk=> ?_,fun i o r hob hr hw k hk=> ?_,fun i e t ys r hob hr k hk=> ?_,fun i r hr k hk=> ?_,.refl w _,rfl,fun j v hv=> ?_,hgl,fun _ _ _ _ _=> .inl trivial⟩
  ·simp only [initSt, g1] at hob
   match i,hob,hr with
   |0,hob,hr=>simp at hob;subst hob;trivial
   |1,hob,hr=>simp at hob hr;subst hob hr;exact g3
   |i+2,hob,hr=>simp at hob
  ·simp only [initSt, g1] at hob
   match i,hob,hri with
   |0,hob,hri=>simp at hob;subst hob;cases hw
   |1,hob,hri=>
    simp at hri;subst hri
    match j,hrj with
    |0,hrj=>simp at hrj;subst hrj;exact hd k hk
    |1,hrj=>exact absurd rfl hij
    |j+2,hrj=>simp at hrj
   |i+2,hob,hri=>simp at hob
  ·simp only [initSt, g1] at hob
   match i,hob,hr with
   |0,hob,hr=>simp at hob;subst hob;cases hw
   |1,hob,hr=>simp at hr;subst hr;exact .inl hk
   |i+2,hob,hr=>simp at hob
  ·simp only [initSt, g1] at hob
   match i,hob,hr with
   |0,hob,hr=>simp at hob
   |1,hob,hr=>
    simp at hob hr
    subst hr
    exact .inl ⟨hob.1,hk⟩
   |i+2,hob,hr=>simp at hob
  ·match i, hr with
   |0,hr=>simp at hr;subst hr;exact hl2 k hk
   |1,hr=>simp at hr;subst hr;exact hl k hk
   |i+2,hr=>simp at hr
  ·cases j with
   |zero=>simp at hv;subst hv;exact ⟨_,rfl,rfl,rfl⟩
   |succ j=>simp at hv
end
end
section
def resTV(T:TT)(st:St):ResultVar→Option TV
 | .tmp t=>st.tmps[t]?
 | .cell a t=>match T.get t with
  |some i=>match st.tmps[a]? with
   |some (.sv (.at (.ptr j f)))=>match st.objs[j]? with
    |some (.box _ cells)=>if f+i.ty.sz≤cells.length then some (mkV i ((cells.drop f).take i.ty.sz)) else none
    |_=>none
   |_=>none
  |none=>none
def takeRes(T:TT):(rs:List PK)→List ResultVar→St→Option (Tup rs×St)
 | [], [], st => some ((), st)
 |p::rs,v::vs,st=>match resTV T st v with
  |some x=>match x.cells with
   |some l=>if aggOK p.agg x then match takeTree p.t st l with
     |some (y,st1)=>match takeRes T rs vs st1 with
      |some (ys,st2)=>some ((y,ys),st2)
      |none=>none
     |none=>none
    else none
   |none=>none
  |none=>none
 |_,_,_=>none
def boxBack(st:St):(t:Ty)→List At→Option t.D
 | .pair (.slice _ u) b,.sl 2::r=>if b.flat=true then match readTree st [] b r with
  |some y=>some (([]:List u.D),y)
  |none=>none
  else none
 |_,_=>none
def resOf(T:TT)(ps rs:List PK)(vars:List ResultVar)(st:St):Option (Tup rs×OutD):=match takeRes T rs vars st with
 |some (res,st1)=>match ownI ps with
  |none=>match boxI ps with
   |none=>some (res,none)
   |some (e,t)=>match st1.objs[1]? with
    |some (Ob.box e' cells)=>if e'=e then match boxBack st1 t cells with
     |some y=>some (res,some ⟨t,[y]⟩)
     |none=>none
     else none
    |_=>none
  |some q=>if giveI ps=true then some (res,none) else match st1.objs[1]? with
   |some (Ob.row _ e u xs)=>if e=q.2.1∧u=q.2.2 then some (res,some ⟨u,xs⟩) else none
   |_=>none
 |none=>none
structure FnDef where
 ps:List PK
 rs:List PK
 R:Type
 f:Nat→Tup ps→Option R
 dsp:{γ:Type}→R→(Tup rs→OutD→Option γ)→Option γ
 ret:Tup rs×OutD→Option R
 hret: ∀{γ:Type} (b:Tup rs×OutD) (z:R) (K:Tup rs→OutD→Option γ),ret b=some z→dsp z K=K b.1 b.2
def FnDef.E(D:FnDef):CallE where
 ps:=D.ps
 rs:=D.rs
 fn:=fun k x K=>match D.f k x with
  |some z=>D.dsp z K
  |none=>none
def endK{B:Type}(X:Ctx B){R:Type}(mk:B→Option R)(st:St):Option R:=match X.res st with
 |some b=>mk b
 |none=>none
noncomputable def fnK(D:FnDef)(X:Ctx (Tup D.rs×OutD))(body:Code)(k:Nat)(x:Tup D.ps):Option D.R:=
 exec X k body (initSt D.ps X.n x) (endK X D.ret) (fun _ _=>none) D.ret
section
variable {P:Program} {w w1 w0:World} {S0:Own} {st:St} {μ μ':List ORec} {a:Act}
def resSem(tmps:Array Value):ResultVar→Sem Value
 | .tmp t=>pure (tmps.getD t undef)
 | .cell a t=>do loadVar t (←asAddr (tmps.getD a undef))
theorem ZSN{T:TT}(hT:TTok P T)(h:Rel w0 S0 st μ a w){v:ResultVar}{x:TV}(hr:resTV T st v=some x): ∃u,(resSem a.tmps v).run P w= .ok u w∧TR μ w x u:=by
 cases v with
 |tmp t=>exact ⟨_,rfl,h.tv t x hr⟩
 |cell ad t=>
  simp only[resTV]at hr
  split at hr
  ·rename_i i hi
   split at hr
   ·rename_i j f hp
    split at hr
    ·rename_i e cells hob
     split at hr
     ·rename_i hle
      injection hr with hr
      subst hr
      have ok:=hT.1 t i hi
      obtain ⟨rec,hrec,hv⟩:=(h.tv ad _ hp).1
      obtain ⟨h0,vs,h1,h2,h3⟩:=h.ob j _ rec hob hrec
      have hl:((vs.drop f).take i.ty.sz).length=i.ty.sz:=by rw[List.length_take,List.length_drop,h2.1];omega
      refine ⟨packV i ((vs.drop f).take i.ty.sz),?_,ZRt ok.one (by simp;omega) ((h2.drop f).take i.ty.sz)⟩
      simp only[resSem,hv,Sem.run_bind,asAddr,Sem.run_pure,Result.andThen_ok]
      refine Zx9 ok _ _ hl (fun m u hm=> ?_)
      rw[ZgF,ZlE h1]
      rw[List.getElem?_take]at hm
      split at hm
      ·rw [List.getElem?_drop] at hm
       simpa using hm
      ·cases hm
     ·cases hr
    ·cases hr
   ·cases hr
  ·cases hr
theorem ZpW{T:TT}(hT:TTok P T): ∀{rs:List PK} {vars:List ResultVar} {st st1:St} {μ:List ORec} {res:Tup rs},Rel w0 S0 st μ a w→takeRes T rs vars st=some (res,st1)→
  ∃us μ1 S,(vars.mapM (resSem a.tmps)).run P w= .ok us w∧ResL w rs S res us∧Rel w0 S0 st1 μ1 a w∧Less μ μ1∧Taken S0 w0 w μ1 S∧ ∀k,S k→ ∃(i:Nat) (r:ORec),μ[i]? =some r∧r.ok k
 | [], [], st, st1, μ, res, h, hr => by
  simp only[takeRes]at hr
  injection hr with hr
  injection hr with h1 h2
  subst h2
  exact ⟨[], μ, fun _ => False, rfl, rfl, h, .refl μ, .none _ _ _ _, fun _ hf => hf.elim⟩
 | [], _ :: _, st, st1, μ, res, h, hr => by simp [takeRes] at hr
 | _ :: _, [], st, st1, μ, res, h, hr => by simp [takeRes] at hr
 | p :: rs, v :: vars, st, st1, μ, res, h, hr => by
  simp only[takeRes]at hr
  split at hr
  ·rename_i x hx
   split at hr
   ·rename_i l hl
    split at hr
    ·rename_i hag
     split at hr
     ·rename_i y st2 hy
      split at hr
      ·rename_i ys st3 hys
       injection hr with hr
       injection hr with h1 h2
       subst h1 h2
       obtain ⟨u,hu,htr⟩:=ZSN hT h hx
       have hA:=htr.cells_sound hl
       obtain ⟨μ1,S1,r1,l1,t1,i1,rep1⟩:=Z9b h hA.al0 hy
       obtain ⟨us,μ2,S2,hus,hres,r2,l2,t2,i2⟩:=ZpW hT r1 hys
       refine ⟨u::us,μ2,fun k=>S1 k∨S2 k,?_,⟨u,us,S1,S2,rfl,ZgR htr hl hag,rep1,fun k hk=>⟨.inl hk,fun hk2=> ?_⟩,fun k hk=> .inr hk,hres⟩,r2,l1.trans l2,⟨fun k hk=>hk.elim (t1.new k) (t2.new k),fun k hk=>hk.elim (t1.lt k) (t2.lt k),fun j q hq k hk=>hk.elim ((t1.less l2).apart j q hq k) (t2.apart j q hq k)⟩,fun k hk=> ?_⟩
       ·simp only [List.mapM_cons, Sem.run_bind, hu, Result.andThen_ok, hus, Sem.run_pure]
       ·obtain ⟨j, q, hq, hqk⟩ := i2 k hk2
        exact t1.apart j q hq k hk hqk
       ·rcases hk with hk | hk
        ·exact i1 k hk
        ·obtain ⟨j, q, hq, hqk⟩ := i2 k hk
         obtain ⟨q0,g0,_,_,g3⟩:=l1.at_ j q hq
         exact ⟨j,q0,g0,g3 k hqk⟩
      ·cases hr
     ·cases hr
    ·cases hr
   ·cases hr
  ·cases hr
theorem Ze0{fn:Func}{tmps:Array Value}{us:List Value}(h:(fn.results.toList.mapM (resSem tmps)).run P w= .ok us w):(results fn tmps).run P w= .ok (packR us) w:=by
 have he:results fn tmps=(do let vs←fn.results.mapM (resSem tmps);pure (if h:vs.size=1 then vs[0] else .tuple vs)):=by
  unfold results
  congr 1
 rw[he,Sem.run_bind,Array.mapM_eq_mapM_toList]
 have:((List.toArray<$>fn.results.toList.mapM (resSem tmps)).run P w)= .ok us.toArray w:=by
  rw[map_eq_pure_bind,Sem.run_bind,h];rfl
 rw[this,Result.andThen_ok,Sem.run_pure]
 congr 1
 match us with
 |[]=>rfl
 |[u]=>rfl
 |u::u'::us=>simp[packR]
theorem SoundAt.zero{D:FnDef}{f:FuncId}(he: ∀vs w,(callFunc f vs).run P w= .ok (.enter f vs) w)(h0: ∀x,D.f 0 x=none):SoundAt P 0 f D.E:=
 ⟨he, fun w Sro So x vs _ _ _ _ _ _ hk => by
  simp only[FnDef.E]at hk
  split at hk
  ·rename_i z hz
   exact nomatch (h0 x).symm.trans hz
  ·cases hk⟩
theorem Z4a{f:FuncId}{fn:Func}(hf:P.funcs[f]? =some fn)(hn:(fn.name== "runtime.NumGoroutine")=false)(hb:fn.body.isNone=false)(vs:Array Value)(w:World):(callFunc f vs).run P w= .ok (.enter f vs) w:=by
 have h2: ¬fn.name= "runtime.NumGoroutine" :=by simpa using hn
 have h3: ¬fn.body=none:=by intro h;rw[h]at hb;cases hb
 unfold callFunc
 simp[hf,h2,h3]
theorem ZVc{D:FnDef}{X:Ctx (Tup D.rs×OutD)}{f:FuncId}{fn:Func}{body:Code}{k:Nat}(hX:X.res=resOf X.T D.ps D.rs fn.results.toList)(hXno:X.no=noOf D.ps)(hXn:X.n=fn.ntmps)(hf:P.funcs[f]? =some fn)(hb:fn.body=some body)
    (hn : (fn.name == "runtime.NumGoroutine") = false) (h1 : oneOwn D.ps = true) (hT : TTok P X.T) (hG : EnvOK P k X.G) (hL : LOK P X k body) (hs : ∀ x, D.f (k + 1) x = fnK D X body k x) : SoundAt P (k + 1) f D.E := by
  refine ⟨Z4a hf hn (by rw [hb]; rfl), fun {γ} {K} {r} w Sro So x vs hA hd hl hl2 hso hgl hk => ?_⟩
  simp only [FnDef.E] at hk
  split at hk
  · rename_i z hz
    obtain ⟨S0, hS0, hgv, hov, hovB, hno, μ, h⟩ := ZMw (n := X.n) h1 hA hd hl hl2 hgl
    have hno2 : S0.ov.length = X.no := hno.trans hXno.symm
    have hz := (hs x).symm.trans hz
    rw [hXn] at h
    have hz2 : exec X k body (initSt D.ps fn.ntmps x) (endK X D.ret) (fun _ _ => none) D.ret = some z := by rw [← hXn]; exact hz
    refine calls_of_wp hf hb (Code.wp_mono (fun e a' w' hq=> ?_) (Z9C hT hG hno2 hL h hz2))
    have fin : ∀ (st1 : St) (μ1 : List ORec) (b : Tup D.rs × OutD), Rel w S0 st1 μ1 a' w' → X.res st1 = some b → D.ret b = some z → ∃ v, (results fn a'.tmps).run P w' = .ok v w' ∧ ∃ res out, K res out = some r ∧ Fin w w' So D.E vs res out v := by
      intro st1 μ1 b r1 hb2 hmk
      rw [hX] at hb2
      unfold resOf at hb2
      split at hb2
      · rename_i res st2 hres
        obtain ⟨us, μ2, S, hus, hR, r2, l2, t2, _⟩ := ZpW hT r1 hres
        refine ⟨packR us, Ze0 hus, b.1, b.2, by rw [← D.hret b z K hmk]; exact hk, ?_⟩
        have hchg : Chg w w' So := by rw [← hS0]; exact r1.kp
        have hnew : ∀ k, S k → ((giveI D.E.ps = true ∧ So k) ∨ w.heap.size ≤ k) ∧ k < w'.heap.size := fun k hk => ⟨(t2.new k hk).imp (hgv k) id, t2.lt k hk⟩
        split at hb2
        · rename_i hown
          split at hb2
          · rename_i hbox
            injection hb2 with hb2
            subst hb2
            exact ⟨hchg, (fun e t he => by rw [show boxI D.E.ps = boxI D.ps from rfl, hbox] at he; cases he), S, us, hnew, rfl, hR, fun q _ hq => by rw [show ownI D.E.ps = ownI D.ps from rfl, hown] at hq; cases hq⟩
          · rename_i e t hbox
            split at hb2
            · rename_i e' cells hob
              split at hb2
              · rename_i hee
                subst hee
                split at hb2
                · rename_i y hy
                  injection hb2 with hb2
                  subst hb2
                  refine ⟨hchg, fun e t he => ?_, S, us, hnew, rfl, hR, fun q _ hq => by rw [show ownI D.E.ps = ownI D.ps from rfl, hown] at hq; cases hq⟩
                  rw [show boxI D.E.ps = boxI D.ps from rfl, hbox] at he
                  injection he with he
                  injection he with he1 he2
                  subst he1 he2
                  obtain ⟨g, c, r0, q1, q2, ⟨pv, q3⟩, q4⟩ := hovB _ _ hbox
                  obtain ⟨rec, hrec, _, hrb⟩ := r2.ov 0 _ q3
                  obtain ⟨rec2, hrec2, hrv2, _⟩ := r2.ov 1 _ q4
                  obtain ⟨hok, vs2, hh, hAl, _⟩ := r2.ob 1 _ rec hob hrec
                  unfold boxBack at hy
                  split at hy
                  · rename_i u b r2' yo
                    split at hy
                    · rename_i hflat
                      split at hy
                      · rename_i y2 hy2
                        injection hy with hy
                        subst hy
                        match vs2,hAl,hh with
                        | [], hAl, hh => have := hAl.1; simp at this
                        |v2::vr,hAl,hh=>
                          have hv2:AR μ2 w' (.sl 2) v2:=hAl.2 0 _ v2 rfl rfl
                          obtain ⟨rr,hrr,hvv,_⟩:=hv2
                          rw[hrec2]at hrr
                          injection hrr with hrr
                          subst hrr
                          have hAr:AL μ2 w' r2' vr:=⟨by have:=hAl.1;simpa using this,fun j x v hx hv=>hAl.2 (j+1) x v (by simpa using hx) (by simpa using hv)⟩
                          have hrep:=ZfD (S:=okBut μ2 []) hflat (Z1w r2 hAr hy2)
                          refine ⟨g,c,r0,vr,_,rfl,q1,q2,?_,hrep⟩
                          have hcc:v2=c:=by rw[hvv];exact hrv2
                          have hbb:rec.blk=g:=hrb
                          rw[hbb,hcc]at hh
                          exact hh
                      ·cases hy
                    ·cases hy
                  ·cases hy
                ·cases hb2
              ·cases hb2
            · cases hb2
        · rename_i q hown
          split at hb2
          · rename_i hg
            injection hb2 with hb2
            subst hb2
            exact ⟨hchg,fun e t he=>(by have:=(ZpM h1 he hA).1;rw[hown]at this;cases this),S,us,hnew,rfl,hR,fun q hf=>by rw[show giveI D.E.ps=giveI D.ps from rfl,hg]at hf;cases hf⟩
          split at hb2
          · rename_i fr e u xs hob
            split at hb2
            · rename_i heu
              obtain ⟨rfl,rfl⟩:=heu
              injection hb2 with hb2
              subst hb2
              refine ⟨hchg,fun e t he=>(by have:=(ZpM h1 he hA).1;rw[hown]at this;cases this),S,us,hnew,rfl,hR,fun q' _ hq=> ?_⟩
              rw[show ownI D.E.ps=ownI D.ps from rfl,hown]at hq
              injection hq with hq
              subst hq
              obtain ⟨hv,hhv⟩:=ZGt hown hA
              obtain ⟨rec,hrec,hrv,_⟩:=r2.ov 0 (hv,0) (hov hv (by rw[hown];exact fun hn=>by cases hn) hhv)
              refine ⟨xs,hv,rec.ok,rfl,hhv,by have hrv':rec.v=hv:=hrv;rw[←hrv'];exact r2.ob 1 _ rec hob hrec,fun k hk=>⟨?_,r2.lt 1 rec hrec k hk,fun hk2=>t2.apart 1 rec hrec k hk2 hk⟩⟩
              have:=r2.wr 1 _ rec hob hrec rfl k hk
              rw[hS0]at this
              exact this
            ·cases hb2
          ·cases hb2
      · cases hb2
    cases e with
    |normal=>
      obtain ⟨st1,μ1,r1,hr1⟩:=hq
      unfold endK at hr1
      split at hr1
      · rename_i b hb2
        obtain ⟨v,g1,g2⟩:=fin st1 μ1 b r1 hb2 hr1
        exact ⟨r1.df.trans h.df.symm,v,g1,g2⟩
      ·cases hr1
    |ret=>
      obtain ⟨st1,μ1,b,r1,hb2,hr1⟩:=hq
      obtain ⟨v,g1,g2⟩:=fin st1 μ1 b r1 hb2 hr1
      exact ⟨r1.df.trans h.df.symm,v,g1,g2⟩
    |exit id=>obtain ⟨st1,μ1,r1,hr1⟩:=hq;cases hr1
    |goto l=>exact False.elim hq
    |panic ch=>exact False.elim hq
    |outgrown=>exact False.elim hq
  ·cases hk
end
end
end Go.Proofs.YtmhfhiofcoggbaaGreat.Vs
