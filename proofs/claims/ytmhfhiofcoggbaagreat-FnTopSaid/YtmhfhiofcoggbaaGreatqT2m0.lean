/- The proof, part 1. -/
import Derived.Below
import Derived.Deep.Draws
import Derived.Maps.AppendAt
import Derived.OwnWalk
import Derived.Laws.MakeOwn
import Derived.Laws.OwnMore
import Derived.Deep.OwnRows
import Derived.Tactics
import Derived.Laws.Slices
import Derived.WalkKit
import Derived.KernelRfl
import Derived.RowKit3
import Derived.Deep.LoopGhost
import Derived.ArgAppend
import Derived.OrdersHeld
import Derived.Laws.BitsLemmas
import Derived.RowKit
import Derived.Laws.Rows
import Derived.Laws.CopyRow
set_option linter.unusedVariables false
set_option linter.unusedSimpArgs false
namespace Go.Proofs.YtmhfhiofcoggbaaGreat.Vs
open Go.RowKit
section
inductive Ty where
 |int (k:IntKind)|bool|str|pair (a b:Ty)|slice (e:TypeId) (t:Ty)
 deriving DecidableEq
abbrev I6:Ty:= .int .i64
abbrev P6:Ty:= .pair I6 I6
abbrev T6:Ty:= .pair I6 P6
@[reducible] def Ty.D : Ty → Type
 | .int _=>Int| .bool=>Bool| .str=>ByteArray| .pair a b=>a.D×b.D| .slice _ t=>List t.D
def Ty.sz:Ty→Nat
 | .pair a b=>a.sz+b.sz|_=>1
def Ty.zero:(t:Ty)→t.D
 | .int _=>(0:Int)| .bool=>false| .str=>(⟨#[]⟩:ByteArray)| .pair a b=>(a.zero,b.zero)| .slice _ _=>[]
def Ty.flat:Ty→Bool
 | .pair a b=>a.flat&&b.flat| .slice _ _=>false|_=>true
theorem Ty.sz_pos: ∀t:Ty,0<t.sz
 | .int _=>Nat.one_pos| .bool=>Nat.one_pos| .str=>Nat.one_pos| .slice _ _=>Nat.one_pos
 | .pair a b=>by have:=a.sz_pos;simp only[Ty.sz];omega
theorem ZgF(g o j:Nat):(⟨g,o,none⟩:Addr).add j=⟨g,o+j,none⟩:=by unfold Addr.add;split<;>simp_all
theorem ZbQ(a:Addr)(i j:Nat):(a.add i).add j=a.add (i+j):=by
 unfold Addr.add
 by_cases hi:i=0<;>by_cases hj:j=0<;>simp[hi,hj,Nat.add_assoc]
theorem Z9U(a:Addr)(i:Nat):(a.add i).block=a.block:=by unfold Addr.add;split<;>rfl
theorem ZlE{w:World}{g o:Nat}{cur:Array Value}{e:TypeId}{fr:Nat×Nat}(h:w.heap[g]? =some (.cells cur e fr)):w.cell? ⟨g,o,none⟩=cur[o]? :=by simp[World.cell?,h]
theorem ZUq{w:World}{g o:Nat}{cur:Array Value}{e:TypeId}(h:w.heap[g]? =some (.cells cur e (0,0))):w.frozen? ⟨g,o,none⟩=false:=by simp[World.frozen?,h]
theorem ZLU{w:World}{g:Nat}{o:Obj}(h:w.heap[g]? =some o):g<w.heap.size:=(Array.getElem?_eq_some_iff.1 h).1
def QRow(w:World)(e:TypeId)(size:Nat)(v:Value)(n:Nat)(xs:List Value):Prop:=
  xs.length=n*size∧
  ((n = 0 ∧ ∃ A, v = .slice A 0 0 ∧ ∀ a, A = some a → ∃ cur, w.heap[a.block]? = some (.cells cur e (0, 0))) ∨
   ∃g off cap cur,v= .slice (some ⟨g,off*size,none⟩) n cap∧w.heap[g]? =some (.cells cur e (0,0))∧n≤cap∧off+cap≤maxLen∧cur.size=(off+cap)*size∧(cur.toList.drop (off*size)).take (n*size)=xs)
section
variable {w w1:World} {n size:Nat} {e:TypeId} {v:Value} {xs:List Value}
theorem ZX4(w:World)(e:TypeId)(size:Nat):QRow w e size (.slice none 0 0) 0 []:=⟨by simp,.inl ⟨rfl,none,rfl,fun a ha=>by cases ha⟩⟩
theorem ZJm{base:Nat}(h:w.ownsRow base e size v n xs):QRow w e size v n xs:=by
 obtain ⟨h1,h2⟩:=h
 refine ⟨h1,?_⟩
 rcases h2 with ⟨rfl,h0⟩|⟨g,cap,cur,rfl,hb,hh,hnc,hcm,hcs,ht⟩
 ·exact .inl ⟨h0,none,rfl,fun a ha=>by cases ha⟩
 ·exact .inr ⟨g,0,cap,cur,by rw[Nat.zero_mul],hh,hnc,by rw[Nat.zero_add];exact hcm,by rw[Nat.zero_add];exact hcs,by rw[Nat.zero_mul,List.drop_zero];exact ht⟩
theorem ZEM(h:QRow w e size v n xs)(hm: ∀k,v.ownBlock=some k→w1.heap[k]? =w.heap[k]?):QRow w1 e size v n xs:=by
 obtain ⟨h1,h2⟩:=h
 refine ⟨h1,?_⟩
 rcases h2 with ⟨h0,A,rfl,hA⟩|⟨g,off,cap,cur,rfl,hh,r⟩
 ·refine .inl ⟨h0, A, rfl, fun a ha => ?_⟩
  obtain ⟨cur,hc⟩:=hA a ha
  subst ha
  exact ⟨cur,(hm a.block (by simp[Value.ownBlock])).trans hc⟩
 ·exact .inr ⟨g,off,cap,cur,rfl,(hm g (by simp[Value.ownBlock])).trans hh,r⟩
theorem ZTV(h:QRow w e size v n xs)(k:Nat)(hk:v.ownBlock=some k): ∃cells,w.heap[k]? =some (.cells cells e (0,0)):=by
 rcases h.2 with ⟨_,A,rfl,hA⟩|⟨g,off,cap,cur,rfl,hh,r⟩
 ·cases A with
  |none=>simp[Value.ownBlock]at hk
  |some a=>
   have:a.block=k:=by simpa[Value.ownBlock]using hk
   subst this
   exact hA a rfl
 ·have : g = k := by simpa [Value.ownBlock] using hk
  subst this
  exact ⟨cur,hh⟩
theorem q_lt(h:QRow w e size v n xs)(k:Nat)(hk:v.ownBlock=some k):k<w.heap.size:=by
 obtain ⟨cells,hc⟩:=ZTV h k hk
 exact ZLU hc
theorem ZaL(h:QRow w e size v n xs): ∃A c,v= .slice A n c∧n≤c:=by
 rcases h.2 with ⟨h0,A,rfl,_⟩|⟨g,off,cap,cur,rfl,hh,hnc,r⟩
 ·exact ⟨A,0,by rw[h0],by omega⟩
 ·exact ⟨_,cap,rfl,hnc⟩
theorem ZVq(h:QRow w e size v n xs):n≤9223372036854775807:=by
 rcases h.2 with ⟨h0,_⟩|⟨g,off,cap,cur,rfl,hh,hnc,hm,r⟩
 ·omega
 ·simp only [maxLen] at hm
  omega
theorem ZrL{A:Option Addr}{c:Nat}(h:QRow w e size (.slice A n c) n xs)(hn:0<n): ∃ad,A=some ad∧ ∀j u,xs[j]? =some u→w.cell? (ad.add j)=some u:=by
 rcases h.2 with ⟨h0,_⟩|⟨g,off,cap,cur,he,hh,hnc,hm,hcs,ht⟩
 ·omega
 ·injection he with ha _ hc
  subst ha
  refine ⟨_,rfl,fun j u hu=> ?_⟩
  rw[ZgF,ZlE hh]
  rw[←ht,List.getElem?_take]at hu
  split at hu
  ·rw [List.getElem?_drop] at hu
   rw[←Array.getElem?_toList]
   exact hu
  ·cases hu
theorem ZWz{A:Option Addr}{c k:Nat}(h:QRow w e size (.slice A n c) n xs)(hk:k≤n):QRow w e size (.slice (if c=k then A else A.map (·.add (k*size))) (n-k) (c-k)) (n-k) (xs.drop (k*size)):=by
 obtain ⟨h1,h2⟩:=h
 refine ⟨by rw[List.length_drop,h1,Nat.sub_mul],?_⟩
 rcases h2 with ⟨h0,A',he,hA⟩|⟨g,off,cap,cur,he,hh,hnc,hcm,hcs,ht⟩
 ·injection he with ha hb hc
  subst ha;subst hc
  have hk0:k=0:=by omega
  subst hk0
  exact .inl ⟨by omega,A,by rw[if_pos rfl,h0],hA⟩
 ·injection he with ha _ hc
  subst ha;subst hc
  by_cases hck : c = k
  ·rw [if_pos hck]
   refine .inl ⟨by omega,some ⟨g,off*size,none⟩,?_,fun a ha=> ?_⟩
   ·rw [show n - k = 0 by omega, show c - k = 0 by omega]
   ·injection ha with ha
    subst ha
    exact ⟨cur,hh⟩
  ·rw [if_neg hck]
   refine .inr ⟨g,off+k,c-k,cur,?_,hh,by omega,by omega,by rw[hcs];congr 1;omega,?_⟩
   ·rw[Option.map_some,ZgF,Nat.add_mul]
   ·rw[←ht,List.drop_take,List.drop_drop,Nat.add_mul,Nat.sub_mul]
theorem ZWM{A:Option Addr}{c m:Nat}(h:QRow w e size (.slice A n c) n xs)(hm:m≤n):QRow w e size (.slice A m c) m (xs.take (m*size)):=by
 obtain ⟨h1,h2⟩:=h
 refine ⟨by rw[List.length_take,h1];exact Nat.min_eq_left (Nat.mul_le_mul_right _ hm),?_⟩
 rcases h2 with ⟨h0,A',he,hA⟩|⟨g,off,cap,cur,he,hh,hnc,hcm,hcs,ht⟩
 ·injection he with ha hb hc
  subst ha;subst hc
  exact .inl ⟨by omega,A,by rw[show m=0 by omega],hA⟩
 ·injection he with ha _ hc
  subst ha;subst hc
  refine .inr ⟨g,off,c,cur,rfl,hh,by omega,hcm,hcs,?_⟩
  rw[←ht,List.take_take,Nat.min_eq_left (Nat.mul_le_mul_right _ hm)]
theorem ZFc{g:Nat}: ∀(vs:List Value) (o:Nat) {w:World} (k:Nat),k≠g→(w.setCells g o vs).heap[k]? =w.heap[k]?
 |[],_,_,_,_=>rfl
 |v::r,o,w,k,hk=>by
  rw[World.setCells,ZFc r (o+1) k hk]
  exact Below.heap_setCell w ⟨g,o,none⟩ v k hk
theorem ZBj(g:Nat): ∀(vs:List Value) (o:Nat) (w:World),(w.setCells g o vs).os=w.os∧(w.setCells g o vs).tape=w.tape∧(w.setCells g o vs).output=w.output∧(w.setCells g o vs).heap.size=w.heap.size
 |[],_,_=>⟨rfl,rfl,rfl,rfl⟩
 |v::r,o,w=>by
  obtain ⟨h1,h2,h3,h4⟩:=ZBj g r (o+1) (w.setCell ⟨g,o,none⟩ v)
  rw[World.setCells]
  exact ⟨h1,h2,h3,by rw[h4];simp[World.setCell]⟩
theorem ZWa{g:Nat}{cur:Array Value}{e:TypeId}(h:w.heap[g]? =some (.cells cur e (0,0)))(o:Nat)(v:Value):(w.setCell ⟨g,o,none⟩ v).heap[g]? =some (.cells (cur.setIfInBounds o v) e (0,0)):=by
 have hlt:=ZLU h
 have hg:w.heap[g]= .cells cur e (0,0):=by rw[Array.getElem?_eq_getElem hlt]at h;exact Option.some.inj h
 simp[World.setCell,Array.getElem_modify,hlt,hg]
theorem ZEq{g:Nat}{e:TypeId}: ∀(vs:List Value) (o:Nat) (w:World) (cur:Array Value),w.heap[g]? =some (.cells cur e (0,0))→o+vs.length≤cur.size→
  ∃cur',(w.setCells g o vs).heap[g]? =some (.cells cur' e (0,0))∧cur'.size=cur.size∧cur'.toList=cur.toList.take o++vs++cur.toList.drop (o+vs.length)
 |[],o,w,cur,h,_=>⟨cur,h,rfl,by simp⟩
 |v::r,o,w,cur,h,hl=>by
  have h2:=ZWa h o v
  simp only[List.length_cons]at hl
  obtain ⟨cur',h3,h4,h5⟩:=ZEq r (o+1) (w.setCell ⟨g,o,none⟩ v) _ h2 (by simp;omega)
  refine ⟨cur',h3,by rw[h4];simp,?_⟩
  rw[h5,Array.toList_setIfInBounds]
  have ho:o<cur.toList.length:=by rw[Array.length_toList];omega
  rw[List.take_set,List.drop_set_of_lt (by omega)]
  simp only[List.length_cons]
  rw[show o+1+r.length=o+(r.length+1) by omega]
  congr 1
  rw[List.take_succ_eq_append_getElem ho,List.set_append_right _ _ (by rw[List.length_take];omega)]
  have ho':o<cur.size:=by omega
  simp[Nat.min_eq_left (Nat.le_of_lt ho')]
end
section
variable {P:Program}
theorem ZVh(w:World)(t ty e:TypeId)(i:TypeInfo)(z:Value)(size bytes:Nat)(ht:P.underlying t=some (.slice e))(hi:P.info? e=some i)(hz:i.zero=some z)
  (hsize : i.size = size) (hby : i.bytes = bytes) (hzs : z.cells.size = size) (hsz : 0 < size)
  (v : Value) (n : Nat) (xs : List Value) (hown : QRow w e size v n xs)
  (a : Addr) (m c : Nat) (news : List Value) (hl : news.length = m * size) (hnews : ∀ j u, news[j]? = some u → w.cell? (a.add j) = some u) (h1 : ∀ u ∈ news, u.oneCell' = true) (hm : 0 < m)
  (h63 : n + m ≤ maxLen) (hbytes : (n + m) * bytes ≤ 140737488355328) :
  ∃v' w',(Builtin.append_ #[t,t] ty #[v,.slice (some a) m c]).run P w= .ok v' w'∧QRow w' e size v' (n+m) (xs++news)∧w.grownBy w' v.ownBlock∧(v'.ownBlock=v.ownBlock∨ ∃b,v'.ownBlock=some b∧w.heap.size≤b)∧QRow w' e size v n xs:=by
 have grows: ∀(b:Addr) (cap:Nat),cap<n+m→(∀j u,xs[j]? =some u→w.cell? (b.add j)=some u)→v= .slice (some b) n cap→
   ∃v' w',(Builtin.append_ #[t,t] ty #[v,.slice (some a) m c]).run P w= .ok v' w'∧QRow w' e size v' (n+m) (xs++news)∧w.grownBy w' v.ownBlock∧(v'.ownBlock=v.ownBlock∨ ∃b,v'.ownBlock=some b∧w.heap.size≤b)∧QRow w' e size v n xs:=by
  intro b cap hcap hcells hv
  obtain ⟨v',w',hr,ho,hg⟩:=run_append_arg_grows (P:=P) (w:=w) t ty e i z size bytes ht hi hz hsize hby hzs hsz b n cap xs hown.1 hcells a m c news hl hnews hcap h63 hbytes
  refine ⟨v',w',by rw[hv];exact hr,ZJm ho,⟨hg.os,hg.tape,hg.output,hg.size,fun k hk _=>hg.block k hk (by simp)⟩,?_,ZEM hown (fun k hk=>hg.block k (q_lt hown k hk) (by simp))⟩
  rcases ho.2 with ⟨_,h0⟩|⟨g',cap',cur',he,hb,_⟩
  ·omega
  ·exact .inr ⟨g', by rw [he]; simp [Value.ownBlock], hb⟩
 rcases hown.2 with ⟨h0,A,hv,hA⟩|⟨g,off,cap,cur,hv,hg,hnc,hcm,hcs,htake⟩
 ·cases A with
  |none=>
   subst h0
   have ho:w.ownsRow 0 e size v 0 xs:=⟨hown.1,.inl ⟨hv,rfl⟩⟩
   obtain ⟨v',w',hr,ho',hg,_,hat⟩:=run_append_own_at (P:=P) w 0 t ty e i z size bytes ht hi hz hsize hby hzs hsz v 0 xs ho a m c news hl hnews h1 h63 hbytes (Nat.zero_le _)
   refine ⟨v',w',hr,ZJm ho',hg,?_,ZEM hown (fun k hk=>by rw[hv]at hk;simp[Value.ownBlock]at hk)⟩
   rcases hat with hat|hat
   ·exact .inl hat
   ·exact .inr ⟨_, hat, Nat.le_refl _⟩
  |some b=>
   have hx:xs=[]:=List.eq_nil_of_length_eq_zero (by rw[hown.1,h0,Nat.zero_mul])
   exact grows b 0 (by omega) (fun j u hu=>by rw[hx]at hu;simp at hu) (by rw[hv,h0])
 ·by_cases hroom : n + m ≤ cap
  ·have hfit : off * size + n * size + news.length ≤ cur.size := by
    rw[hl,hcs,←Nat.add_mul,←Nat.add_mul]
    exact Nat.mul_le_mul_right _ (by omega)
   subst hsize
   have hr:=run_append_room_cells (P:=P) (w:=w) t ty e i ht hi g (off*i.size) n cap a m c news hl hnews h1 hroom
    (fun j hj=>by rw[ZlE hg];simp;omega) (fun j _=>ZUq hg)
   obtain ⟨cur',h3,h4,h5⟩:=ZEq news (off*i.size+n*i.size) w cur hg hfit
   obtain ⟨s1,s2,s3,s4⟩:=ZBj g news (off*i.size+n*i.size) w
   refine ⟨_,_,by rw[hv];exact hr,⟨by rw[List.length_append,hown.1,hl,Nat.add_mul],.inr ⟨g,off,cap,cur',rfl,h3,hroom,hcm,by rw[h4,hcs],?_⟩⟩,
    ⟨s1,s2,s3,by rw[s4];exact Nat.le_refl _,fun k _ hk=>ZFc news _ k (fun he=>hk (by rw[hv,he];simp[Value.ownBlock]))⟩,.inl (by rw[hv];rfl),⟨hown.1,.inr ⟨g,off,cap,cur',hv,h3,hnc,hcm,by rw[h4,hcs],?_⟩⟩⟩
   ·rw [h5, List.append_assoc, List.drop_append_of_le_length (by rw [List.length_take, Array.length_toList]; omega), List.drop_take]
    rw[show off*i.size+n*i.size-off*i.size=n*i.size by omega,htake]
    rw[←List.append_assoc]
    exact List.take_left' (by rw[List.length_append,hown.1,hl,Nat.add_mul])
   ·rw [h5, List.append_assoc, List.drop_append_of_le_length (by rw [List.length_take, Array.length_toList]; omega), List.drop_take]
    rw[show off*i.size+n*i.size-off*i.size=n*i.size by omega,htake]
    exact List.take_left' hown.1
  ·refine grows ⟨g, off * size, none⟩ cap (by omega) (fun j u hu => ?_) hv
   rw[ZgF,ZlE hg]
   rw[←htake,List.getElem?_take]at hu
   split at hu
   ·rw [List.getElem?_drop] at hu
    rw[←Array.getElem?_toList]
    exact hu
   ·cases hu
end
def seg(inner:List Value)(sz j:Nat):List Value:=(inner.drop (j*sz)).take sz
def RowRep{α:Type}(R:World→(Nat→Prop)→α→List Value→Prop)(sz:Nat)(e:TypeId)(w:World)(S:Nat→Prop)(xs:List α)(v:Value):Prop:=
 ∃inner,QRow w e sz v xs.length inner∧(∀k,v.ownBlock=some k→S k)∧
  ∃f:Nat→Nat,∀j x,xs[j]? =some x→R w (fun k=>S k∧v.ownBlock≠some k∧f k=j) x (seg inner sz j)
def Rep:(t:Ty)→World→(Nat→Prop)→t.D→List Value→Prop
 | .int k,_,_,n,cs=>cs=[.int k n]
 | .bool,_,_,b,cs=>cs=[.bool b]
 | .str,_,_,s,cs=>cs=[.string s]
 | .pair a b,w,S,x,cs=> ∃c0 c1 S0 S1,cs=c0++c1∧Rep a w S0 x.1 c0∧Rep b w S1 x.2 c1∧(∀k,S0 k→S k∧ ¬S1 k)∧(∀k,S1 k→S k)
 | .slice e t,w,S,xs,cs=> ∃v,cs=[v]∧RowRep (Rep t) t.sz e w S xs v
def RowRd{α:Type}(R:World→(Nat→Prop)→α→List Value→Prop)(sz:Nat)(w:World)(S:Nat→Prop)(xs:List α)(v:Value):Prop:=
 ∃A c,v= .slice A xs.length c∧xs.length≤c∧xs.length≤9223372036854775807∧
  (0<xs.length→ ∃a,A=some a∧S a.block∧ ∀j x,xs[j]? =some x→ ∃cs:List Value,cs.length=sz∧(∀i u,cs[i]? =some u→w.cell? (a.add (j*sz+i))=some u)∧R w S x cs)
def Rd:(t:Ty)→World→(Nat→Prop)→t.D→List Value→Prop
 | .int k,_,_,n,cs=>cs=[.int k n]
 | .bool,_,_,b,cs=>cs=[.bool b]
 | .str,_,_,s,cs=>cs=[.string s]
 | .pair a b,w,S,x,cs=> ∃c0 c1,cs=c0++c1∧Rd a w S x.1 c0∧Rd b w S x.2 c1
 | .slice e t,w,S,xs,cs=> ∃v,cs=[v]∧RowRd (Rd t) t.sz w S xs v
theorem RowRep.imp{α:Type}{R R':World→(Nat→Prop)→α→List Value→Prop}{sz:Nat}{e:TypeId}{w w1:World}{S S':Nat→Prop}{xs:List α}{v:Value}
  (h:RowRep R sz e w S xs v) (hS: ∀k,S k→S' k) (hm: ∀k,S k→w1.heap[k]? =w.heap[k]?)
  (hR: ∀T T' x cs,(∀k,T k→S k)→(∀k,T k→T' k)→R w T x cs→R' w1 T' x cs):RowRep R' sz e w1 S' xs v:=by
 obtain ⟨inner,hq,hb,f,hr⟩:=h
 exact ⟨inner,ZEM hq (fun k hk=>hm k (hb k hk)),fun k hk=>hS k (hb k hk),f,fun j x hj=>hR _ _ x _ (fun k hk=>hk.1) (fun k hk=>⟨hS k hk.1,hk.2⟩) (hr j x hj)⟩
theorem Rep.len: ∀{t:Ty} {w:World} {S:Nat→Prop} {x:t.D} {cs:List Value},Rep t w S x cs→cs.length=t.sz
 | .int _,_,_,_,_,h=>by rw[show _=_ from h];rfl
 | .bool,_,_,_,_,h=>by rw[show _=_ from h];rfl
 | .str,_,_,_,_,h=>by rw[show _=_ from h];rfl
 | .pair a b,_,_,_,_,h=>by
  obtain ⟨c0,c1,S0,S1,rfl,h0,h1,_⟩:=h
  rw[List.length_append,Rep.len h0,Rep.len h1];rfl
 | .slice _ _,_,_,_,_,h=>by
  obtain ⟨v,rfl,_⟩:=h
  rfl
theorem Rep.move: ∀{t:Ty} {w w1:World} {S S':Nat→Prop} {x:t.D} {cs:List Value},Rep t w S x cs→(∀k,S k→S' k)→(∀k,S k→w1.heap[k]? =w.heap[k]?)→Rep t w1 S' x cs
 | .int _,_,_,_,_,_,_,h,_,_=>h
 | .bool,_,_,_,_,_,_,h,_,_=>h
 | .str,_,_,_,_,_,_,h,_,_=>h
 | .pair a b,_,_,_,_,_,_,h,hS,hm=>by
  obtain ⟨c0,c1,S0,S1,rfl,h0,h1,h2,h3⟩:=h
  exact ⟨c0,c1,S0,S1,rfl,h0.move (fun _ hk=>hk) (fun k hk=>hm k (h2 k hk).1),h1.move (fun _ hk=>hk) (fun k hk=>hm k (h3 k hk)),fun k hk=>⟨hS k (h2 k hk).1,(h2 k hk).2⟩,fun k hk=>hS k (h3 k hk)⟩
 | .slice e t,_,_,_,_,_,_,h,hS,hm=>by
  obtain ⟨v,rfl,hr⟩:=h
  exact ⟨v,rfl,hr.imp hS hm (fun T T' x cs h1 h2 h3=>h3.move h2 (fun k hk=>hm k (h1 k hk)))⟩
theorem Rep.wide{t:Ty}{w:World}{S S':Nat→Prop}{x:t.D}{cs:List Value}(h:Rep t w S x cs)(hS: ∀k,S k→S' k):Rep t w S' x cs:=h.move hS (fun _ _=>rfl)
theorem Rep.bound: ∀{t:Ty} {w:World} {S:Nat→Prop} {x:t.D} {cs:List Value},Rep t w S x cs→Rep t w (fun k=>S k∧k<w.heap.size) x cs
 | .int _,_,_,_,_,h=>h
 | .bool,_,_,_,_,h=>h
 | .str,_,_,_,_,h=>h
 | .pair a b,_,_,_,_,h=>by
  obtain ⟨c0,c1,S0,S1,rfl,h0,h1,h2,h3⟩:=h
  exact ⟨c0,c1,_,_,rfl,h0.bound,h1.bound,fun k hk=>⟨⟨(h2 k hk.1).1,hk.2⟩,fun h=>(h2 k hk.1).2 h.1⟩,fun k hk=>⟨h3 k hk.1,hk.2⟩⟩
 | .slice e t,w,_,_,_,h=>by
  obtain ⟨v,rfl,inner,hq,hb,f,hr⟩:=h
  exact ⟨v,rfl,inner,hq,fun k hk=>⟨hb k hk,q_lt hq k hk⟩,f,fun j x hj=>(hr j x hj).bound.wide (fun k hk=>⟨⟨hk.1.1,hk.2⟩,hk.1.2⟩)⟩
theorem Rep.one: ∀{t:Ty} {w:World} {S:Nat→Prop} {x:t.D} {cs:List Value},Rep t w S x cs→ ∀u∈cs,u.oneCell'=true
 | .int _,_,_,_,_,h,u,hu=>by rw[show _=_ from h]at hu;rw[List.mem_singleton.1 hu];rfl
 | .bool,_,_,_,_,h,u,hu=>by rw[show _=_ from h]at hu;rw[List.mem_singleton.1 hu];rfl
 | .str,_,_,_,_,h,u,hu=>by rw[show _=_ from h]at hu;rw[List.mem_singleton.1 hu];rfl
 | .pair a b,_,_,_,_,h,u,hu=>by
  obtain ⟨c0,c1,S0,S1,rfl,h0,h1,_⟩:=h
  rcases List.mem_append.1 hu with hu|hu
  ·exact h0.one u hu
  ·exact h1.one u hu
 | .slice _ _,_,_,_,_,h,u,hu=>by
  obtain ⟨v,rfl,inner,hq,_⟩:=h
  obtain ⟨A,c,rfl,_⟩:=ZaL hq
  rw[List.mem_singleton.1 hu];rfl
theorem Rd.len: ∀{t:Ty} {w:World} {S:Nat→Prop} {x:t.D} {cs:List Value},Rd t w S x cs→cs.length=t.sz
 | .int _,_,_,_,_,h=>by rw[show _=_ from h];rfl
 | .bool,_,_,_,_,h=>by rw[show _=_ from h];rfl
 | .str,_,_,_,_,h=>by rw[show _=_ from h];rfl
 | .pair a b,_,_,_,_,h=>by
  obtain ⟨c0,c1,rfl,h0,h1⟩:=h
  rw[List.length_append,Rd.len h0,Rd.len h1];rfl
 | .slice _ _,_,_,_,_,h=>by
  obtain ⟨v,rfl,_⟩:=h
  rfl
theorem Zfu{w w1:World}{a:Addr}{u:Value}(h:w1.heap[a.block]? =w.heap[a.block]?)(hc:w.cell? a=some u):w1.cell? a=some u:=by simpa[World.cell?,h]using hc
theorem Rd.move: ∀{t:Ty} {w w1:World} {S S':Nat→Prop} {x:t.D} {cs:List Value},Rd t w S x cs→(∀k,S k→S' k)→(∀k,S k→w1.heap[k]? =w.heap[k]?)→Rd t w1 S' x cs
 | .int _,_,_,_,_,_,_,h,_,_=>h
 | .bool,_,_,_,_,_,_,h,_,_=>h
 | .str,_,_,_,_,_,_,h,_,_=>h
 | .pair a b,_,_,_,_,_,_,h,hS,hm=>by
  obtain ⟨c0,c1,rfl,h0,h1⟩:=h
  exact ⟨c0,c1,rfl,h0.move hS hm,h1.move hS hm⟩
 | .slice e t,_,_,_,_,_,_,h,hS,hm=>by
  obtain ⟨v,rfl,A,c,hv,hl,hx,hr⟩:=h
  refine ⟨v,rfl,A,c,hv,hl,hx,fun h0=> ?_⟩
  obtain ⟨a,ha,hs,hel⟩:=hr h0
  refine ⟨a,ha,hS _ hs,fun j x hj=> ?_⟩
  obtain ⟨cs,h1,h2,h3⟩:=hel j x hj
  exact ⟨cs,h1,fun i u hu=>Zfu (by rw[Z9U];exact hm _ hs) (h2 i u hu),h3.move hS hm⟩
theorem Rd.wide{t:Ty}{w:World}{S S':Nat→Prop}{x:t.D}{cs:List Value}(h:Rd t w S x cs)(hS: ∀k,S k→S' k):Rd t w S' x cs:=h.move hS (fun _ _=>rfl)
theorem Rd.bound: ∀{t:Ty} {w:World} {S:Nat→Prop} {x:t.D} {cs:List Value},Rd t w S x cs→Rd t w (fun k=>S k∧k<w.heap.size) x cs
 | .int _,_,_,_,_,h=>h
 | .bool,_,_,_,_,h=>h
 | .str,_,_,_,_,h=>h
 | .pair a b,_,_,_,_,h=>by
  obtain ⟨c0,c1,rfl,h0,h1⟩:=h
  exact ⟨c0,c1,rfl,h0.bound,h1.bound⟩
 | .slice e t,w,S,xs,_,h=>by
  obtain ⟨v,rfl,A,c,hv,hl,hx,hr⟩:=h
  refine ⟨v,rfl,A,c,hv,hl,hx,fun h0=> ?_⟩
  obtain ⟨a,ha,hs,hel⟩:=hr h0
  refine ⟨a,ha,⟨hs,?_⟩,fun j x hj=> ?_⟩
  ·obtain ⟨cs, h1, h2, h3⟩ := hel 0 xs[0] (List.getElem?_eq_getElem h0)
   have hp:=t.sz_pos
   have hc:=h2 0 cs[0] (List.getElem?_eq_getElem (by omega))
   have hb:=World.block_lt_of_cell? w _ hc
   rwa [Z9U]at hb
  ·obtain ⟨cs, h1, h2, h3⟩ := hel j x hj
   exact ⟨cs,h1,h2,h3.bound⟩
theorem ZW5{inner:List Value}{sz n j:Nat}(h:inner.length=n*sz)(hj:j<n):(seg inner sz j).length=sz:=by
 have:(j+1)*sz≤n*sz:=Nat.mul_le_mul_right _ hj
 rw[Nat.succ_mul]at this
 simp only[seg,List.length_take,List.length_drop]
 omega
theorem ZFu{inner:List Value}{sz j i:Nat}{u:Value}(h:(seg inner sz j)[i]? =some u):inner[j*sz+i]? =some u:=by
 simp only[seg,List.getElem?_take,List.getElem?_drop]at h
 split at h
 ·exact h
 ·cases h
theorem Rep.rd: ∀{t:Ty} {w:World} {S:Nat→Prop} {x:t.D} {cs:List Value},Rep t w S x cs→Rd t w S x cs
 | .int _,_,_,_,_,h=>h
 | .bool,_,_,_,_,h=>h
 | .str,_,_,_,_,h=>h
 | .pair a b,_,_,_,_,h=>by
  obtain ⟨c0,c1,S0,S1,rfl,h0,h1,h2,h3⟩:=h
  exact ⟨c0,c1,rfl,h0.rd.wide (fun k hk=>(h2 k hk).1),h1.rd.wide h3⟩
 | .slice e t,w,S,xs,_,h=>by
  obtain ⟨v,rfl,inner,hq,hb,f,hr⟩:=h
  obtain ⟨A,c,rfl,hc⟩:=ZaL hq
  refine ⟨_,rfl,A,c,rfl,hc,ZVq hq,fun h0=> ?_⟩
  obtain ⟨a,rfl,hcell⟩:=ZrL hq h0
  refine ⟨a,rfl,hb _ rfl,fun j x hj=>⟨seg inner t.sz j,(hr j x hj).len,fun i u hu=>hcell _ u (ZFu hu),(hr j x hj).rd.wide (fun k hk=>hk.1)⟩⟩
end
section
def GL:List (Nat×List ByteArray):=[]
def convS(t:TypeId):Bool:=t==0&&t==1
end
section
inductive At where
 |un
 |int (k:IntKind) (n:Int)
 |bool (b:Bool)
 |str (s:ByteArray)
 |nils
 |sl (i:Nat)
 |snap (i:Nat) (t:Ty) (xs:List t.D)
 |inn (i:Nat) (j:Int)
 |ptr (i f:Nat)
 |ep (i:Nat) (t:Ty) (j:Int) (f:Nat)
 |es (i:Nat) (t:Ty) (x:t.D) (f:Nat)
 |app (i:Nat) (j:Int) (t:Ty) (xs:List t.D)
 |mp (i:Nat)
 |ip (i:Nat) (q:Int) (t:Ty) (n:Int) (f:Nat)
 |inf (i:Nat) (q:Int) (t:Ty) (f:Nat)
 |gp (g f:Nat)
 |cv (i:Nat)
 |pc (i j:Nat)
inductive SV where
 |at (x:At)
 |agg (l:List At)
inductive TV where
 |sv (x:SV)
 |tup (l:List SV)
inductive Ob where
 |dead
 |ro
 |row (fresh:Bool) (e:TypeId) (t:Ty) (xs:List t.D)
 |box (e:TypeId) (cells:List At)
 |mp (t:TypeId) (ag:Bool) (n:Nat) (u:Ty) (es:List (List Int×u.D))
 |fx (t:Ty) (xs:List t.D)
 |clo (f:Nat) (l:List At)
 |vrow (d:Option Nat) (e:TypeId) (u:Ty) (xs:List (List u.D))
structure St where
 tmps:List TV
 objs:List Ob
structure ORec where
 v:Value
 blk:Nat
 ok:Nat→Prop
def Ob.owned:Ob→Bool
 | .row .. =>true| .box .. =>true| .mp .. =>true| .vrow .. =>true|_=>false
def At.dep:At→Option Nat
 | .snap i _ _=>some i| .es i _ _ _=>some i| .inn i _=>some i| .app i _ _ _=>some i| .ip i _ _ _ _=>some i| .inf i _ _ _=>some i| .pc i _=>some i|_=>none
def At.kill(i:Nat)(x:At):At:=if x.dep=some i then .un else x
def SV.kill(i:Nat):SV→SV
 | .at x=> .at (x.kill i)| .agg l=> .agg (l.map (At.kill i))
def TV.kill(i:Nat):TV→TV
 | .sv x=> .sv (x.kill i)| .tup l=> .tup (l.map (SV.kill i))
def Ob.kill(i:Nat):Ob→Ob
 | .box e l=> .box e (l.map (At.kill i))| .clo f l=> .clo f (l.map (At.kill i))| .vrow d e u xs=> .vrow (if d=some i then none else d) e u xs|o=>o
def St.kill(i:Nat)(st:St):St:={tmps:=st.tmps.map (TV.kill i),objs:=st.objs.map (Ob.kill i)}
def St.die(i:Nat)(st:St):St:={tmps:=st.tmps.map (TV.kill i),objs:=(st.objs.map (Ob.kill i)).set i .dead}
def St.put(st:St)(dst:Option Tmp)(x:TV):St:=
 match dst with
 |some d=>{st with tmps:=st.tmps.set d x}
 |none=>st
def keyV(ag:Bool)(ks:List Int):Value:=if ag then .agg (ks.map (Value.int .i64)).toArray else match ks with|[k]=> .int .i64 k|_=>undef
def valV:(u:Ty)→u.D→Value
 | .int k,n=> .int k n| .bool,b=> .bool b|_,_=>undef
def AppR(w:World)(r:ORec)(j:Int)(t:Ty)(xs:List t.D)(v:Value):Prop:=
 ∃(g off n c:Nat) (e:TypeId) (cur:Array Value),r.v= .slice (some ⟨g,off*t.sz,none⟩) n c∧0≤j∧j<n∧r.ok g∧w.heap[g]? =some (.cells cur e (0,0))∧off*t.sz+(j.toNat*t.sz+0)+1≤cur.size∧(∃A m c',v= .slice A m c')∧
  RowRep (Rep t) t.sz e (w.setRow g (cur.toList.take (off*t.sz+(j.toNat*t.sz+0))++[v]++cur.toList.drop (off*t.sz+(j.toNat*t.sz+0)+1)).toArray) r.ok xs r.v
theorem AppR.move{w w1:World}{r:ORec}{j:Int}{t:Ty}{xs:List t.D}{v:Value}(h:AppR w r j t xs v)(hm: ∀k,r.ok k→w1.heap[k]? =w.heap[k]?):AppR w1 r j t xs v:=by
 obtain ⟨g,off,n,c,e,cur,h1,h2,h3,h4,h5,h6,h7,h8⟩:=h
 have h5':=(hm g h4).trans h5
 refine ⟨g,off,n,c,e,cur,h1,h2,h3,h4,h5',h6,h7,?_⟩
 obtain ⟨u,hu,h9⟩:=Rep.move (t:= .slice e t) (S':=r.ok) (show Rep (.slice e t) _ r.ok xs [r.v] from ⟨_,rfl,h8⟩) (fun _ hk=>hk) (w1:=w1.setRow g (cur.toList.take (off*t.sz+(j.toNat*t.sz+0))++[v]++cur.toList.drop (off*t.sz+(j.toNat*t.sz+0)+1)).toArray) (fun k hk=>by
  by_cases hkg:k=g
  ·subst hkg
   rw[setRow_heap _ _ _ _ _ _ h5',setRow_heap _ _ _ _ _ _ h5]
  ·rw [setRow_other _ _ _ _ hkg, setRow_other _ _ _ _ hkg]
   exact hm k hk)
 obtain rfl:r.v=u:=by simpa using hu
 exact h9
section
variable (μ:List ORec) (w:World)
def AR:At→Value→Prop
 | .un,_=>True
 | .int k n,v=>v= .int k n
 | .bool b,v=>v= .bool b
 | .str s,v=>v= .string s
 | .nils,v=>v= .slice none 0 0
 | .sl i,v=> ∃r,μ[i]? =some r∧v=r.v∧ ∃A n c,v= .slice A n c
 | .snap i t xs,v=> ∃r,μ[i]? =some r∧RowRd (Rd t) t.sz w r.ok xs v
 | .inn i j,v=> ∃(r:ORec) (a:Addr) (n c:Nat),μ[i]? =some r∧r.v= .slice (some a) n c∧0≤j∧j<n∧r.ok a.block∧w.cell? (a.add j.toNat)=some v∧ ∃A m c',v= .slice A m c'
 | .ptr i f,v=> ∃r,μ[i]? =some r∧v= .pointer (some ⟨r.blk,f,none⟩)
 | .ep i t j f,v=> ∃(r:ORec) (a:Addr) (n c:Nat),μ[i]? =some r∧r.v= .slice (some a) n c∧0≤j∧j<n∧v= .pointer (some (a.add (j.toNat*t.sz+f)))
 | .es i t x f,v=> ∃(r:ORec) (a:Addr) (cs:List Value),μ[i]? =some r∧r.ok a.block∧v= .pointer (some (a.add f))∧cs.length=t.sz∧(∀j u,cs[j]? =some u→w.cell? (a.add j)=some u)∧Rd t w r.ok x cs
 | .app i j t xs,v=> ∃r,μ[i]? =some r∧AppR w r j t xs v
 | .mp i,v=> ∃r,μ[i]? =some r∧v= .map (some r.blk)
 | .ip i q t n f,v=> ∃(r:ORec) (a:Addr) (m c:Nat) (b:Addr) (m' c':Nat),μ[i]? =some r∧r.v= .slice (some a) m c∧0≤q∧q<m∧r.ok a.block∧w.cell? (a.add q.toNat)=some (.slice (some b) m' c')∧0≤n∧n<m'∧v= .pointer (some (b.add (n.toNat*t.sz+f)))
 | .inf i q t f,v=> ∃(r:ORec) (a:Addr) (n c:Nat),μ[i]? =some r∧r.v= .slice (some a) n c∧0≤q∧q<n∧r.ok a.block∧w.cell? (a.add (q.toNat*t.sz+f))=some v∧ ∃A m c',v= .slice A m c'
 | .gp g f,v=>v= .pointer (some ⟨g,f,none⟩)
 | .cv i,v=> ∃r,μ[i]? =some r∧v=r.v∧ ∃f vs,v= .func (.func f) #[] vs
 | .pc i j,v=> ∃(r q:ORec) (g:Nat),μ[i]? =some r∧μ[j]? =some q∧r.ok g∧v= .pointer (some ⟨g,0,none⟩)∧w.cell? ⟨g,0,none⟩=some q.v∧ ∃f vs,q.v= .func (.func f) #[] vs
def VRow(μ:List ORec)(i:Nat)(u:Ty):World→(Nat→Prop)→List u.D→List Value→Prop:=fun w' _ x cs=> ∃c,cs=[c]∧AR μ w' (.snap i u x) c
def AL(l:List At)(vs:List Value):Prop:=vs.length=l.length∧ ∀(j:Nat) x v,l[j]? =some x→vs[j]? =some v→AR μ w x v
def SR:SV→Value→Prop
 | .at x,v=>AR μ w x v∧(x= .un∨v.cells= #[v])
 | .agg l,v=> ∃vs,v= .agg vs.toArray∧AL μ w l vs
def TR:TV→Value→Prop
 | .sv x,v=>SR μ w x v
 | .tup l,v=> ∃vs:List Value,v= .tuple vs.toArray∧vs.length=l.length∧ ∀(j:Nat) x u,l[j]? =some x→vs[j]? =some u→SR μ w x u
def OR:Ob→ORec→Prop
 | .dead,_=>True
 | .ro,_=>True
 | .row _ e t xs,r=>RowRep (Rep t) t.sz e w r.ok xs r.v
 | .box e l,r=>r.ok r.blk∧ ∃vs,w.heap[r.blk]? =some (.cells vs.toArray e (0,0))∧AL μ w l vs∧ ∀v∈vs,v.oneCell'=true
 | .fx t xs,r=>RowRd (Rd t) t.sz w r.ok xs r.v∧ ∃A n c,r.v= .slice A n c
 | .clo f l,r=> ∃vs:List Value,r.v= .func (.func f) #[] vs.toArray∧AL μ w l vs
 | .vrow none _ _ _,_=>True
 | .vrow (some i) e u xs,r=>RowRep (VRow μ i u) 1 e w r.ok xs r.v
 | .mp _ ag n u es,r=>r.ok r.blk∧ ∃(ms:Array MapEntry) (clock:Nat),w.heap[r.blk]? =some (.map ms clock)∧ms.toList.map (fun m=>(m.key,m.val))=es.map (fun e=>(keyV ag e.1,valV u e.2))∧(∀e∈es,e.1.length=n)
end
structure Chg (w w1:World) (T:Nat→Prop):Prop where
 os:w1.os=w.os
 tape:w1.tape=w.tape
 output:w1.output=w.output
 size:w.heap.size≤w1.heap.size
 block: ∀k,k<w.heap.size→ ¬T k→w1.heap[k]? =w.heap[k]?
theorem Chg.refl(w:World)(T:Nat→Prop):Chg w w T:=⟨rfl,rfl,rfl,Nat.le_refl _,fun _ _ _=>rfl⟩
theorem Chg.trans{w w1 w2:World}{T T2:Nat→Prop}(h:Chg w w1 T)(h2:Chg w1 w2 T2)(hT: ∀k,T2 k→T k∨w.heap.size≤k):Chg w w2 T:=
 ⟨h2.os.trans h.os, h2.tape.trans h.tape, h2.output.trans h.output, Nat.le_trans h.size h2.size, fun k hk hn =>
  (h2.block k (Nat.lt_of_lt_of_le hk h.size) (fun h3=>(hT k h3).elim hn (fun h4=>by omega))).trans (h.block k hk hn)⟩
theorem Chg.wide{w w1:World}{T T2:Nat→Prop}(h:Chg w w1 T)(hT: ∀k,T k→T2 k):Chg w w1 T2:=⟨h.os,h.tape,h.output,h.size,fun k hk hn=>h.block k hk (fun h3=>hn (hT k h3))⟩
theorem Chg.of_grown{w w1:World}{row:Option Nat}(h:w.grownBy w1 row){T:Nat→Prop}(hT: ∀k,row=some k→T k):Chg w w1 T:=⟨h.os,h.tape,h.output,h.size,fun k hk hn=>h.block k hk (fun he=>hn (hT k he.symm))⟩
theorem Chg.alloc(w:World)(o:Obj)(T:Nat→Prop):Chg w (w.alloc o) T:=⟨rfl,rfl,rfl,by simp,fun k hk _=>heap_alloc_old w o hk⟩
theorem Chg.set(w:World)(g o:Nat)(v:Value){T:Nat→Prop}(hT:T g):Chg w (w.setCell ⟨g,o,none⟩ v) T:=
 ⟨rfl,rfl,rfl,by simp[World.setCell],fun k _ hn=>Below.heap_setCell w ⟨g,o,none⟩ v k (fun he=>hn (by rw[he];exact hT))⟩
theorem Chg.drew(w:World)(T:Nat→Prop):Chg w w.drew T:=⟨rfl,rfl,rfl,Nat.le_refl _,fun _ _ _=>rfl⟩
theorem Chg.below{w w1:World}{T:Nat→Prop}(h:Chg w w1 T)(hT: ∀k,¬T k):Below w.heap.size w w1:=⟨h.os,h.tape,h.output,h.size,fun k hk=>h.block k hk (hT k)⟩
theorem AR.move{μ:List ORec}{w w1:World}{x:At}{v:Value}(h:AR μ w x v)(hm: ∀i r,x.dep=some i→μ[i]? =some r→ ∀k,r.ok k→w1.heap[k]? =w.heap[k]?):AR μ w1 x v:=by
 cases x with
 |snap i t xs=>
  obtain ⟨r,hr,h⟩:=h
  obtain ⟨u,hu,h2⟩:=Rd.move (t:= .slice 0 t) (S':=r.ok) (show Rd (.slice 0 t) w r.ok xs [v] from ⟨v,rfl,h⟩) (fun _ hk=>hk) (hm i r rfl hr)
  obtain rfl:v=u:=by simpa using hu
  exact ⟨r,hr,h2⟩
 |es i t x f=>
  obtain ⟨r,a,cs,hr,hk,hv,hl,hc,hx⟩:=h
  exact ⟨r,a,cs,hr,hk,hv,hl,fun j u hu=>Zfu (by rw[Z9U];exact hm i r rfl hr _ hk) (hc j u hu),hx.move (fun _ hk=>hk) (hm i r rfl hr)⟩
 |inn i j=>
  obtain ⟨r,a,n,c,hr,hv,h0,h1,hk,hc,hs⟩:=h
  exact ⟨r,a,n,c,hr,hv,h0,h1,hk,Zfu (by rw[Z9U];exact hm i r rfl hr _ hk) hc,hs⟩
 |app i j t xs=>obtain ⟨r,hr,h⟩:=h;exact ⟨r,hr,h.move (hm i r rfl hr)⟩
 |ip i q t n f=>
  obtain ⟨r,a,m,c,b,m',c',hr,hv,h0,h1,hk,hc,hs⟩:=h
  exact ⟨r,a,m,c,b,m',c',hr,hv,h0,h1,hk,Zfu (by rw[Z9U];exact hm i r rfl hr _ hk) hc,hs⟩
 |inf i q t f=>
  obtain ⟨r,a,n,c,hr,hv,h0,h1,hk,hc,hs⟩:=h
  exact ⟨r,a,n,c,hr,hv,h0,h1,hk,Zfu (by rw[Z9U];exact hm i r rfl hr _ hk) hc,hs⟩
 |pc i j=>
  obtain ⟨r,q,g,hr,hq,hk,hv,hc,hf⟩:=h
  exact ⟨r,q,g,hr,hq,hk,hv,Zfu (hm i r rfl hr _ hk) hc,hf⟩
 |_=>exact h
theorem AR.more{μ μ':List ORec}{w:World}{x:At}{v:Value}(h:AR μ w x v)(hμ: ∀(i:Nat) r,μ[i]? =some r→μ'[i]? =some r):AR μ' w x v:=by
 cases x with
 |un=>exact h
 |int=>exact h
 |bool=>exact h
 |str=>exact h
 |nils=>exact h
 |sl i=>obtain ⟨r,hr,h⟩:=h;exact ⟨r,hμ i r hr,h⟩
 |snap i t xs=>obtain ⟨r,hr,h⟩:=h;exact ⟨r,hμ i r hr,h⟩
 |inn i j=>obtain ⟨r,a,n,c,hr,h⟩:=h;exact ⟨r,a,n,c,hμ i r hr,h⟩
 |ptr i f=>obtain ⟨r,hr,h⟩:=h;exact ⟨r,hμ i r hr,h⟩
 |ep i t j f=>obtain ⟨r,a,n,c,hr,h⟩:=h;exact ⟨r,a,n,c,hμ i r hr,h⟩
 |es i t x f=>obtain ⟨r,a,cs,hr,h⟩:=h;exact ⟨r,a,cs,hμ i r hr,h⟩
 |app i j t xs=>obtain ⟨r,hr,h⟩:=h;exact ⟨r,hμ i r hr,h⟩
 |mp i=>obtain ⟨r,hr,h⟩:=h;exact ⟨r,hμ i r hr,h⟩
 |ip i q t n f=>obtain ⟨r,a,m,c,b,m',c',hr,h⟩:=h;exact ⟨r,a,m,c,b,m',c',hμ i r hr,h⟩
 |inf i q t f=>obtain ⟨r,a,n,c,hr,h⟩:=h;exact ⟨r,a,n,c,hμ i r hr,h⟩
 |gp g f=>exact h
 |cv i=>obtain ⟨r,hr,h⟩:=h;exact ⟨r,hμ i r hr,h⟩
 |pc i j=>obtain ⟨r,q,g,hr,hq,h⟩:=h;exact ⟨r,q,g,hμ i r hr,hμ j q hq,h⟩
theorem AR.kill{μ:List ORec}{w:World}{x:At}{v:Value}(i:Nat)(h:AR μ w x v):AR μ w (x.kill i) v:=by
 unfold At.kill
 split
 ·trivial
 ·exact h
theorem ZSf{x:At}{i j:Nat}(h:(x.kill i).dep=some j):j≠i∧x.dep=some j:=by
 unfold At.kill at h
 split at h
 ·cases h
 ·rename_i hn
  exact ⟨fun e=>hn (e▸h),h⟩
theorem AL.imp{μ μ':List ORec}{w w1:World}{l l':List At}{vs:List Value}(g:At→At)(hl:l'=l.map g)(h:AL μ w l vs)(hg: ∀x v,x∈l→AR μ w x v→AR μ' w1 (g x) v):AL μ' w1 l' vs:=by
 subst hl
 refine ⟨by simpa using h.1,fun j x v hx hv=> ?_⟩
 rw[List.getElem?_map]at hx
 obtain ⟨y,hy,rfl⟩:=Option.map_eq_some_iff.1 hx
 exact hg y v (List.mem_of_getElem? hy) (h.2 j y v hy hv)
theorem SR.imp{μ μ':List ORec}{w w1:World}{x:SV}{v:Value}(i:Option Nat)(h:SR μ w x v)(hg: ∀y u,AR μ w y u→AR μ' w1 (match i with|some i=>y.kill i|none=>y) u):
  SR μ' w1 (match i with|some i=>x.kill i|none=>x) v:=by
 cases x with
 |«at» y=>
  have h1:=hg y v h.1
  cases i with
  |none=>exact ⟨h1,h.2⟩
  |some i=>
   refine ⟨h1,?_⟩
   rcases h.2 with rfl|h2
   ·left;rfl
   ·right;exact h2
 |agg l=>
  obtain ⟨vs,hv,hl⟩:=h
  cases i with
  |none=>exact ⟨vs,hv,hl.imp id (by simp) (fun y u _ hy=>hg y u hy)⟩
  |some i=>exact ⟨vs,hv,hl.imp (At.kill i) rfl (fun y u _ hy=>hg y u hy)⟩
theorem TR.imp{μ μ':List ORec}{w w1:World}{x:TV}{v:Value}(i:Option Nat)(h:TR μ w x v)(hg: ∀y u,AR μ w y u→AR μ' w1 (match i with|some i=>y.kill i|none=>y) u):
  TR μ' w1 (match i with|some i=>x.kill i|none=>x) v:=by
 cases x with
 |sv y=>
  have:=SR.imp i h hg
  cases i<;>exact this
 |tup l=>
  obtain ⟨vs,hv,hl,h⟩:=h
  cases i with
  |none=>exact ⟨vs,hv,hl,fun j x u hx hu=>SR.imp none (h j x u hx hu) hg⟩
  |some i=>
   refine ⟨vs,hv,by simpa using hl,fun j x u hx hu=> ?_⟩
   simp only[List.getElem?_map]at hx
   obtain ⟨y,hy,rfl⟩:=Option.map_eq_some_iff.1 hx
   exact SR.imp (some i) (h j y u hy hu) hg
structure Own where
 ok:Nat→Prop
 ov:List (Value×Nat)
 gv:Nat→Prop:=fun _=>False
 go: ∀k,gv k→ok k:=by intro k h;exact h.elim
 dfs:List Deferred:=[]
 al:Nat→Prop:=fun _=>True
instance : CoeFun Own (fun _ => Nat → Prop) := ⟨Own.ok⟩
def glGet(g:Nat):Option (List ByteArray):=(GL.find? (fun p=>p.1==g)).map (·.2)
def GlOK(w:World)(S:Nat→Prop):Prop:= ∀g xs,glGet g=some xs→ ¬S g∧g<w.heap.size∧ ∀(j:Nat) s,xs[j]? =some s→w.cell? ⟨g,j,none⟩=some (.string s)
theorem GlOK.nil{w:World}{S:Nat→Prop}(h:GL=[]):GlOK w S:=by
 intro g xs hg
 rw[glGet,h]at hg
 cases hg
theorem GlOK.chg{w w1:World}{S T:Nat→Prop}(h:GlOK w S)(hc:Chg w w1 S)(hT: ∀k,T k→S k∨w.heap.size≤k):GlOK w1 T:=by
 intro g xs hg
 obtain ⟨h1,h2,h3⟩:=h g xs hg
 exact ⟨fun hk=>(hT g hk).elim h1 (fun h4=>by omega),Nat.lt_of_lt_of_le h2 hc.size,fun j s hj=>Zfu (hc.block g h2 h1) (h3 j s hj)⟩
structure Rel (w0:World) (S0:Own) (st:St) (μ:List ORec) (a:Act) (w:World):Prop where
 len:μ.length=st.objs.length
 tm:a.tmps.size=st.tmps.length
 tv: ∀(i:Nat) x,st.tmps[i]? =some x→TR μ w x (a.tmps.getD i undef)
 ob: ∀(i:Nat) o r,st.objs[i]? =some o→μ[i]? =some r→OR μ w o r
 dj: ∀(i j:Nat) o ri rj,i≠j→st.objs[i]? =some o→o.owned=true→μ[i]? =some ri→μ[j]? =some rj→ ∀k,ri.ok k→ ¬rj.ok k
 wr: ∀(i:Nat) o r,st.objs[i]? =some o→μ[i]? =some r→o.owned=true→ ∀k,r.ok k→S0 k∨w0.heap.size≤k
 fr: ∀(i:Nat) e t xs r,st.objs[i]? =some (.row true e t xs)→μ[i]? =some r→ ∀k,r.ok k→S0.gv k∨w0.heap.size≤k
 lt: ∀(i:Nat) r,μ[i]? =some r→ ∀k,r.ok k→k<w.heap.size
 kp:Chg w0 w S0.ok
 df:a.defers=S0.dfs
 ov: ∀(j:Nat) v,S0.ov[j]? =some v→ ∃r,μ[j+1]? =some r∧r.v=v.1∧r.blk=v.2
 gb:GlOK w0 S0.ok
 al: ∀(i:Nat) r,μ[i]? =some r→ ∀k,r.ok k→S0.al k∨S0 k∨w0.heap.size≤k
theorem Ziv(i:Nat)(o:Ob):(o.kill i).owned=o.owned:=by cases o<;>rfl
def ORec.off(r:ORec):ORec:={r with ok:=fun _=>False}
def offAt(μ:List ORec)(i:Nat):List ORec:=μ.modify i ORec.off
theorem ZbJ{μ:List ORec}{i j:Nat}(h:i≠j):(offAt μ i)[j]? =μ[j]? :=by simp[offAt,List.getElem?_modify,h]
theorem ZdP(μ:List ORec)(i:Nat):(offAt μ i)[i]? =(μ[i]?).map ORec.off:=by simp[offAt]
theorem Z5G{μ:List ORec}{i j:Nat}{r:ORec}(h:(offAt μ i)[j]? =some r): ∃r0,μ[j]? =some r0∧r.v=r0.v∧r.blk=r0.blk∧((j=i∧ ∀k,¬r.ok k)∨(j≠i∧r=r0)):=by
 by_cases hj:i=j
 ·subst hj
  rw[ZdP]at h
  obtain ⟨r0,h0,rfl⟩:=Option.map_eq_some_iff.1 h
  exact ⟨r0,h0,rfl,rfl,.inl ⟨rfl,fun _ h=>h⟩⟩
 ·rw [ZbJ hj] at h
  exact ⟨r,h,rfl,rfl,.inr ⟨fun e=>hj e.symm,rfl⟩⟩
theorem AR.off{μ:List ORec}{w:World}{x:At}{v:Value}(i:Nat)(h:AR μ w x v):AR (offAt μ i) w (x.kill i) v:=by
 have keep: ∀(j:Nat) r,μ[j]? =some r→ ∃r',(offAt μ i)[j]? =some r'∧r'.v=r.v∧r'.blk=r.blk∧(j≠i→r'=r):=by
  intro j r hr
  by_cases hj:i=j
  ·subst hj
   exact ⟨r.off,by rw[ZdP,hr];rfl,rfl,rfl,fun h=>absurd rfl h⟩
  ·exact ⟨r, by rw [ZbJ hj]; exact hr, rfl, rfl, fun _ => rfl⟩
 unfold At.kill
 split
 ·trivial
 ·rename_i hd
  cases x with
  |un=>exact h
  |int=>exact h
  |bool=>exact h
  |str=>exact h
  |nils=>exact h
  |sl j=>
   obtain ⟨r,hr,h⟩:=h
   obtain ⟨r',h1,h2,_⟩:=keep j r hr
   exact ⟨r',h1,by rw[h2];exact h⟩
  |ptr j f=>
   obtain ⟨r,hr,h⟩:=h
   obtain ⟨r',h1,_,h2,_⟩:=keep j r hr
   exact ⟨r',h1,by rw[h2];exact h⟩
  |cv j=>
   obtain ⟨r,hr,h⟩:=h
   obtain ⟨r',h1,h2,_⟩:=keep j r hr
   exact ⟨r',h1,by rw[h2];exact h⟩
  |pc j l=>
   obtain ⟨r,q,g,hr,hq,h⟩:=h
   obtain ⟨r',h1,_,_,h2⟩:=keep j r hr
   obtain rfl:=h2 (fun e=>hd (by rw[e];rfl))
   obtain ⟨q',h3,h4,_⟩:=keep l q hq
   exact ⟨r',q',g,h1,h3,by rw[h4];exact h⟩
  |ep j t jj f=>
   obtain ⟨r,a,n,c,hr,h⟩:=h
   obtain ⟨r',h1,h2,_⟩:=keep j r hr
   exact ⟨r',a,n,c,h1,by rw[h2];exact h⟩
  |snap j t xs=>
   obtain ⟨r,hr,h⟩:=h
   obtain ⟨r',h1,_,_,h2⟩:=keep j r hr
   obtain rfl:=h2 (fun e=>hd (by rw[e];rfl))
   exact ⟨r',h1,h⟩
  |inn j jj=>
   obtain ⟨r,a,n,c,hr,h⟩:=h
   obtain ⟨r',h1,_,_,h2⟩:=keep j r hr
   obtain rfl:=h2 (fun e=>hd (by rw[e];rfl))
   exact ⟨r',a,n,c,h1,h⟩
  |es j t xx f=>
   obtain ⟨r,a,cs,hr,h⟩:=h
   obtain ⟨r',h1,_,_,h2⟩:=keep j r hr
   obtain rfl:=h2 (fun e=>hd (by rw[e];rfl))
   exact ⟨r',a,cs,h1,h⟩
  |mp j=>
   obtain ⟨r,hr,h⟩:=h
   obtain ⟨r',h1,_,h2,_⟩:=keep j r hr
   exact ⟨r',h1,by rw[h2];exact h⟩
  |app j jj t xx=>
   obtain ⟨r,hr,h⟩:=h
   obtain ⟨r',h1,_,_,h2⟩:=keep j r hr
   obtain rfl:=h2 (fun e=>hd (by rw[e];rfl))
   exact ⟨r',h1,h⟩
  |ip j q t n f=>
   obtain ⟨r,a,m,c,b,m',c',hr,h⟩:=h
   obtain ⟨r',h1,_,_,h2⟩:=keep j r hr
   obtain rfl:=h2 (fun e=>hd (by rw[e];rfl))
   exact ⟨r',a,m,c,b,m',c',h1,h⟩
  |gp g f=>exact h
  |inf j q t f=>
   obtain ⟨r,a,n,c,hr,h⟩:=h
   obtain ⟨r',h1,_,_,h2⟩:=keep j r hr
   obtain rfl:=h2 (fun e=>hd (by rw[e];rfl))
   exact ⟨r',a,n,c,h1,h⟩
theorem ZSb{α:Type}{xs:Array α}{d:α}{i:Nat}(h:i<xs.size):xs[i]? =some (xs.getD i d):=by simp[Array.getD,h]
section
variable {w0:World} {S0:Own} {st:St} {μ:List ORec} {a:Act} {w w1:World}
theorem Rel.glob(h:Rel w0 S0 st μ a w){T:Nat→Prop}(hT: ∀k,T k→S0 k∨w0.heap.size≤k):GlOK w T:=h.gb.chg h.kp hT
theorem Rel.some_rec(h:Rel w0 S0 st μ a w){i:Nat}{o:Ob}(ho:st.objs[i]? =some o): ∃r,μ[i]? =some r:=by
 have:=(List.getElem?_eq_some_iff.1 ho).1
 exact ⟨μ[i]'(by rw[h.len];exact this),List.getElem?_eq_getElem _⟩
theorem OR.vmove{μ':List ORec}{d:Option Nat}{e:TypeId}{u:Ty}{xs:List (List u.D)}{r:ORec}(h:OR μ w (.vrow d e u xs) r)(hm: ∀k,r.ok k→w1.heap[k]? =w.heap[k]?)(hA: ∀x v,AR μ w x v→AR μ' w1 x v):OR μ' w1 (.vrow d e u xs) r:=by
 cases d with
 |none=>trivial
 |some i=>exact RowRep.imp (R:=VRow μ i u) (R':=VRow μ' i u) h (fun _ hk=>hk) hm (fun T T' x cs _ _ ⟨c,hc,hx⟩=>⟨c,hc,hA _ _ hx⟩)
theorem OR.vkill{μ':List ORec}{d:Option Nat}{e:TypeId}{u:Ty}{xs:List (List u.D)}{r:ORec}{i:Nat}(h:OR μ w (.vrow d e u xs) r)(hm: ∀k,r.ok k→w1.heap[k]? =w.heap[k]?)(hA: ∀x v,AR μ w x v→AR μ' w1 (x.kill i) v):OR μ' w1 ((Ob.vrow d e u xs).kill i) r:=by
 cases d with
 |none=>trivial
 |some j=>
  by_cases hj:j=i
  ·subst hj
   simp only[Ob.kill,if_true]
   trivial
  ·have hj' : ¬ some j = some i := fun he => hj (Option.some.inj he)
   simp only[Ob.kill,hj',if_false]
   refine RowRep.imp (R:=VRow μ j u) (R':=VRow μ' j u) h (fun _ hk=>hk) hm (fun T T' x cs _ _ ⟨c,hc,hx⟩=>⟨c,hc,?_⟩)
   have:=hA _ _ hx
   unfold At.kill at this
   rw[if_neg (show¬(At.snap j u x).dep=some i from hj')]at this
   exact this
theorem OR.move{o:Ob}{r:ORec}(h:OR μ w o r)(hm: ∀k,r.ok k→w1.heap[k]? =w.heap[k]?)(hA: ∀x v,AR μ w x v→AR μ w1 x v):OR μ w1 o r:=by
 cases o with
 |dead=>trivial
 |ro=>trivial
 |row f e t xs=>
  obtain ⟨v,hv,h2⟩:=Rep.move (t:= .slice e t) (S':=r.ok) (show Rep (.slice e t) w r.ok xs [r.v] from ⟨_,rfl,h⟩) (fun _ hk=>hk) hm
  obtain rfl:r.v=v:=by simpa using hv
  exact h2
 |box e l=>
  obtain ⟨h0,vs,h1,h2,h3⟩:=h
  exact ⟨h0,vs,(hm _ h0).trans h1,h2.imp id (by simp) (fun x v _ hx=>hA x v hx),h3⟩
 |mp t ag n u es=>
  obtain ⟨h0,ms,c,h1,h2⟩:=h
  exact ⟨h0,ms,c,(hm _ h0).trans h1,h2⟩
 |fx t xs=>
  obtain ⟨v,hv,h2⟩:=Rd.move (t:= .slice 0 t) (S':=r.ok) (show Rd (.slice 0 t) w r.ok xs [r.v] from ⟨_,rfl,h.1⟩) (fun _ hk=>hk) hm
  obtain rfl:r.v=v:=by simpa using hv
  exact ⟨h2,h.2⟩
 |clo f l=>
  obtain ⟨vs,h1,h2⟩:=h
  exact ⟨vs,h1,h2.imp id (by simp) (fun x v _ hx=>hA x v hx)⟩
 |vrow d e u xs=>exact OR.vmove h hm hA
theorem Rel.world(h:Rel w0 S0 st μ a w){T:Nat→Prop}(hc:Chg w w1 T)(hT: ∀(i:Nat) r,μ[i]? =some r→ ∀k,r.ok k→ ¬T k)(hT0: ∀k,T k→S0 k∨w0.heap.size≤k):Rel w0 S0 st μ a w1:=by
 have hm: ∀(i:Nat) r,μ[i]? =some r→ ∀k,r.ok k→w1.heap[k]? =w.heap[k]? :=fun i r hr k hk=>hc.block k (h.lt i r hr k hk) (hT i r hr k hk)
 have hA: ∀x v,AR μ w x v→AR μ w1 x v:=fun x v hx=>hx.move (fun i r _ hr=>hm i r hr)
 exact ⟨h.len,h.tm,fun i x hx=>TR.imp none (h.tv i x hx) hA,fun i o r ho hr=>(h.ob i o r ho hr).move (hm i r hr) hA,h.dj,h.wr,h.fr,fun i r hr k hk=>Nat.lt_of_lt_of_le (h.lt i r hr k hk) hc.size,h.kp.trans hc hT0,h.df,h.ov,h.gb,h.al⟩
theorem Rel.put(h:Rel w0 S0 st μ a w)(dst:Option Tmp){x:TV}{v:Value}(hx:TR μ w x v):Rel w0 S0 (st.put dst x) μ (a.put dst v) w:=by
 cases dst with
 |none=>exact h
 |some d=>
  refine ⟨h.len,by simp[Act.put,St.put,h.tm],fun i y hy=> ?_,h.ob,h.dj,h.wr,h.fr,h.lt,h.kp,h.df,h.ov,h.gb,h.al⟩
  simp only[St.put,List.getElem?_set]at hy
  have hs:=h.tm
  by_cases hd : d = i
  ·subst hd
   rw[if_pos rfl]at hy
   split at hy
   ·rename_i hlt
    injection hy with hy
    subst hy
    have:(a.put (some d) v).tmps.getD d undef=v:=by simp[Act.put,Array.getD,hs,hlt]
    rw[this]
    exact hx
   ·cases hy
  ·rw [if_neg hd] at hy
   have:(a.put (some d) v).tmps.getD i undef=a.tmps.getD i undef:=by simp only[Act.put,Array.getD_eq_getD_getElem?,Array.getElem?_setIfInBounds_ne hd]
   rw[this]
   exact h.tv i y hy
theorem Rel.retell(h:Rel w0 S0 st μ a w){t:Nat}{x:TV}(hx:TR μ w x (a.tmps.getD t undef)):Rel w0 S0 {st with tmps:=st.tmps.set t x} μ a w:=by
 refine ⟨h.len,by simp[h.tm],fun i y hy=> ?_,h.ob,h.dj,h.wr,h.fr,h.lt,h.kp,h.df,h.ov,h.gb,h.al⟩
 simp only[List.getElem?_set]at hy
 by_cases hd:t=i
 ·subst hd
  rw[if_pos rfl]at hy
  split at hy
  ·injection hy with hy;subst hy;exact hx
  ·cases hy
 ·rw [if_neg hd] at hy
  exact h.tv i y hy
theorem Rel.die(h:Rel w0 S0 st μ a w)(i:Nat):Rel w0 S0 (st.die i) (offAt μ i) a w:=by
 have hob: ∀(j:Nat) o,(st.die i).objs[j]? =some o→ ∃o0,st.objs[j]? =some o0∧((j=i∧o= .dead)∨(j≠i∧o=o0.kill i)):=by
  intro j o ho
  simp only[St.die,List.getElem?_set,List.getElem?_map,List.length_map]at ho
  by_cases hj : i = j
  ·subst hj
   rw[if_pos rfl]at ho
   split at ho
   ·rename_i hlt
    injection ho with ho
    exact ⟨st.objs[i],List.getElem?_eq_getElem hlt,.inl ⟨rfl,ho.symm⟩⟩
   ·cases ho
  ·rw [if_neg hj] at ho
   obtain ⟨o0,h0,rfl⟩:=Option.map_eq_some_iff.1 ho
   exact ⟨o0,h0,.inr ⟨fun e=>hj e.symm,rfl⟩⟩
 refine ⟨by simp[offAt,St.die,h.len],by simp[St.die,h.tm],fun j x hx=> ?_,fun j o r ho hr=> ?_,fun j l o rj rl hjl ho hw hrj hrl k hk=> ?_,fun j o r ho hr hw k hk=> ?_,fun j e t xs r ho hr k hk=> ?_,fun j r hr k hk=> ?_,h.kp,h.df,fun j v hv=> ?_,h.gb,fun j r hr k hk=>by
  obtain ⟨r0,h0,_,_,hc⟩:=Z5G hr
  rcases hc with ⟨_,hc⟩|⟨_,rfl⟩
  ·exact absurd hk (hc k)
  ·exact h.al j r h0 k hk⟩
 ·simp only [St.die, List.getElem?_map] at hx
  obtain ⟨y,hy,rfl⟩:=Option.map_eq_some_iff.1 hx
  exact TR.imp (some i) (h.tv j y hy) (fun y u hy=>hy.off i)
 ·obtain ⟨o0, h0, hh⟩ := hob j o ho
  rcases hh with ⟨_,rfl⟩|⟨hj,rfl⟩
  ·trivial
  ·rw [ZbJ (Ne.symm hj)] at hr
   have h1:=h.ob j o0 r h0 hr
   cases o0 with
   |dead=>trivial
   |ro=>trivial
   |row f e t xs=>exact h1
   |mp t ag n u es=>exact h1
   |fx t xs=>exact h1
   |box e l=>
    obtain ⟨g0,vs,g1,g2,g3⟩:=h1
    exact ⟨g0,vs,g1,g2.imp (At.kill i) rfl (fun x v _ hx=>hx.off i),g3⟩
   |clo f l=>
    obtain ⟨vs,g1,g2⟩:=h1
    exact ⟨vs,g1,g2.imp (At.kill i) rfl (fun x v _ hx=>hx.off i)⟩
   |vrow d e u xs=>exact OR.vkill h1 (fun _ _=>rfl) (fun x v hx=>hx.off i)
 ·obtain ⟨o0, h0, hh⟩ := hob j o ho
  rcases hh with ⟨_,rfl⟩|⟨hj,rfl⟩
  ·cases hw
  ·rw [ZbJ (Ne.symm hj)] at hrj
   obtain ⟨r0,g0,_,_,g⟩:=Z5G hrl
   rcases g with ⟨_,g⟩|⟨_,rfl⟩
   ·exact g k
   ·exact h.dj j l o0 rj rl hjl h0 (by rw[←Ziv i];exact hw) hrj g0 k hk
 ·obtain ⟨o0, h0, hh⟩ := hob j o ho
  rcases hh with ⟨_,rfl⟩|⟨hj,rfl⟩
  ·cases hw
  ·rw [ZbJ (Ne.symm hj)] at hr
   exact h.wr j o0 r h0 hr (by rw[←Ziv i];exact hw) k hk
 ·obtain ⟨o0, h0, hh⟩ := hob j _ ho
  rcases hh with ⟨_,hh⟩|⟨hj,hh⟩
  ·cases hh
  ·rw [ZbJ (Ne.symm hj)] at hr
   cases o0<;>simp only[Ob.kill]at hh<;>cases hh
   exact h.fr j e t xs r h0 hr k hk
 ·obtain ⟨r0, g0, _, _, g⟩ := Z5G hr
  rcases g with ⟨_,g⟩|⟨_,rfl⟩
  ·exact absurd hk (g k)
  ·exact h.lt j r g0 k hk
 ·obtain ⟨r, hr, hrv⟩ := h.ov j v hv
  by_cases hj:i=j+1
  ·subst hj
   exact ⟨r.off,by rw[ZdP,hr];rfl,hrv⟩
  ·exact ⟨r,by rw[ZbJ hj];exact hr,hrv⟩
theorem Rel.push(h:Rel w0 S0 st μ a w){o:Ob}{r:ORec}(ho:OR (μ++[r]) w o r)(hd:o.owned=true→ ∀(j:Nat) rj,μ[j]? =some rj→ ∀k,r.ok k→ ¬rj.ok k)(hd2: ∀(j:Nat) oj rj,st.objs[j]? =some oj→oj.owned=true→μ[j]? =some rj→ ∀k,rj.ok k→ ¬r.ok k)
  (hw : o.owned = true → ∀ k, r.ok k → S0 k ∨ w0.heap.size ≤ k) (hf : ∀ e t xs, o = .row true e t xs → ∀ k, r.ok k → S0.gv k ∨ w0.heap.size ≤ k) (hl : ∀ k, r.ok k → k < w.heap.size)
  (hal : o.owned = true ∨ ∀ k, r.ok k → S0.al k ∨ S0 k ∨ w0.heap.size ≤ k := by exact .inl rfl) : Rel w0 S0 { st with objs := st.objs ++ [o] } (μ ++ [r]) a w := by
 have hμ: ∀(i:Nat) q,μ[i]? =some q→(μ++[r])[i]? =some q:=fun i q hq=>by
  rw [List.getElem?_append_left (List.getElem?_eq_some_iff.1 hq).1]; exact hq
 have split: ∀(i:Nat) o',(st.objs++[o])[i]? =some o'→(i<μ.length∧st.objs[i]? =some o')∨(i=μ.length∧o'=o):=by
  intro i o' hi
  rw [h.len]
  rcases Nat.lt_or_ge i st.objs.length with hlt|hge
  ·rw [List.getElem?_append_left hlt] at hi
   exact .inl ⟨hlt,hi⟩
  ·rw [List.getElem?_append_right hge] at hi
   have h1:=(List.getElem?_eq_some_iff.1 hi).1
   simp at h1
   have:i=st.objs.length:=by omega
   subst this
   simp at hi
   exact .inr ⟨rfl,hi.symm⟩
 have splitr: ∀(i:Nat) q,(μ++[r])[i]? =some q→(i<μ.length∧μ[i]? =some q)∨(i=μ.length∧q=r):=by
  intro i q hi
  rcases Nat.lt_or_ge i μ.length with hlt|hge
  ·rw [List.getElem?_append_left hlt] at hi
   exact .inl ⟨hlt,hi⟩
  ·rw [List.getElem?_append_right hge] at hi
   have h1:=(List.getElem?_eq_some_iff.1 hi).1
   simp at h1
   have:i=μ.length:=by omega
   subst this
   simp at hi
   exact .inr ⟨rfl,hi.symm⟩
 have hA: ∀x v,AR μ w x v→AR (μ++[r]) w x v:=fun x v hx=>hx.more hμ
 refine ⟨by simp[h.len],h.tm,fun i x hx=>TR.imp none (h.tv i x hx) hA,fun i o' q ho' hq=> ?_,fun i j o' ri rj hij ho' hw' hri hrj k hk=> ?_,fun i o' q ho' hq hw' k hk=> ?_,fun i e t xs q ho' hq k hk=> ?_,fun i q hq k hk=> ?_,h.kp,h.df,fun j v hv=> ?_,h.gb,fun i q hq k hk=>by
  rcases splitr i q hq with ⟨_,h2⟩|⟨_,rfl⟩
  ·exact h.al i q h2 k hk
  ·exact hal.elim (fun h3 => .inr (hw h3 k hk)) (fun h3 => h3 k hk)⟩
 ·rcases split i o' ho' with ⟨hi, h1⟩ | ⟨hi, rfl⟩
  ·rcases splitr i q hq with ⟨_, h2⟩ | ⟨h2, _⟩
   ·have h3 := h.ob i o' q h1 h2
    cases o' with
    |dead=>trivial
    |ro=>trivial
    |row=>exact h3
    |mp t ag n u es=>exact h3
    |fx t xs=>exact h3
    |box e l=>
     obtain ⟨g0,vs,g1,g2,g3⟩:=h3
     exact ⟨g0,vs,g1,g2.imp id (by simp) (fun x v _ hx=>hA x v hx),g3⟩
    |clo f l=>
     obtain ⟨vs,g1,g2⟩:=h3
     exact ⟨vs,g1,g2.imp id (by simp) (fun x v _ hx=>hA x v hx)⟩
    |vrow d e u xs=>exact OR.vmove h3 (fun _ _=>rfl) hA
   ·omega
  ·rcases splitr i q hq with ⟨h2, _⟩ | ⟨_, rfl⟩
   ·omega
   ·exact ho
 ·rcases split i o' ho' with ⟨hi, h1⟩ | ⟨hi, rfl⟩
  ·rcases splitr i ri hri with ⟨_, h2⟩ | ⟨h2, _⟩
   ·rcases splitr j rj hrj with ⟨_, h3⟩ | ⟨_, rfl⟩
    ·exact h.dj i j o' ri rj hij h1 hw' h2 h3 k hk
    ·exact hd2 i o' ri h1 hw' h2 k hk
   ·omega
  ·rcases splitr i ri hri with ⟨h2, _⟩ | ⟨_, rfl⟩
   ·omega
   ·rcases splitr j rj hrj with ⟨_, h3⟩ | ⟨h3, _⟩
    ·exact hd hw' j rj h3 k hk
    ·omega
 ·rcases split i o' ho' with ⟨hi, h1⟩ | ⟨hi, rfl⟩
  ·rcases splitr i q hq with ⟨_, h2⟩ | ⟨h2, _⟩
   ·exact h.wr i o' q h1 h2 hw' k hk
   ·omega
  ·rcases splitr i q hq with ⟨h2, _⟩ | ⟨_, rfl⟩
   ·omega
   ·exact hw hw' k hk
 ·rcases split i _ ho' with ⟨hi, h1⟩ | ⟨hi, h1⟩
  ·rcases splitr i q hq with ⟨_, h2⟩ | ⟨h2, _⟩
   ·exact h.fr i e t xs q h1 h2 k hk
   ·omega
  ·rcases splitr i q hq with ⟨h2, _⟩ | ⟨_, rfl⟩
   ·omega
   ·exact hf e t xs h1.symm k hk
 ·rcases splitr i q hq with ⟨_, h2⟩ | ⟨_, rfl⟩
  ·exact h.lt i q h2 k hk
  ·exact hl k hk
 ·obtain ⟨q, hq, hqv⟩ := h.ov j v hv
  exact ⟨q,hμ _ q hq,hqv⟩
theorem Rel.turn(h:Rel w0 S0 st μ a w){i:Nat}{o o':Ob}{r:ORec}(ho:st.objs[i]? =some o)(hr:μ[i]? =some r)(hw:o.owned=true)(hw':o'.owned=true)(hc:Chg w w1 r.ok)(hn:OR μ w1 o' r)
  (hf : ∀ e t xs, o' = .row true e t xs → ∃ e t xs, o = .row true e t xs) : Rel w0 S0 { st.kill i with objs := (st.kill i).objs.set i o' } μ a w1 := by
 have hm: ∀(j:Nat) q,j≠i→μ[j]? =some q→ ∀k,q.ok k→w1.heap[k]? =w.heap[k]? :=fun j q hj hq k hk=>hc.block k (h.lt j q hq k hk) (fun h2=>h.dj i j o r q (Ne.symm hj) ho hw hr hq k h2 hk)
 have hA: ∀x v,AR μ w x v→AR μ w1 (x.kill i) v:=fun x v hx=>(hx.kill i).move (fun j q hd hq=>hm j q (ZSf hd).1 hq)
 have hlt:i<st.objs.length:=(List.getElem?_eq_some_iff.1 ho).1
 have hob: ∀(j:Nat) p,({st.kill i with objs:=(st.kill i).objs.set i o'}:St).objs[j]? =some p→ ∃p0,st.objs[j]? =some p0∧((j=i∧p=o')∨(j≠i∧p=p0.kill i)):=by
  intro j p hp
  simp only[St.kill,List.getElem?_set,List.getElem?_map,List.length_map]at hp
  by_cases hj : i = j
  ·subst hj
   rw[if_pos rfl,if_pos hlt]at hp
   injection hp with hp
   exact ⟨o,ho,.inl ⟨rfl,hp.symm⟩⟩
  ·rw [if_neg hj] at hp
   obtain ⟨p0,h0,rfl⟩:=Option.map_eq_some_iff.1 hp
   exact ⟨p0,h0,.inr ⟨fun e=>hj e.symm,rfl⟩⟩
 refine ⟨by simp[St.kill,h.len],by simp[St.kill,h.tm],fun j x hx=> ?_,fun j p q hp hq=> ?_,fun j l p rj rl hjl hp hwp hrj hrl k hk=> ?_,fun j p q hp hq hwp k hk=> ?_,fun j e t xs q hp hq k hk=> ?_,fun j q hq k hk=>Nat.lt_of_lt_of_le (h.lt j q hq k hk) hc.size,h.kp.trans hc (fun k hk=>h.wr i o r ho hr hw k hk),h.df,h.ov,h.gb,h.al⟩
 ·simp only [St.kill, List.getElem?_map] at hx
  obtain ⟨y,hy,rfl⟩:=Option.map_eq_some_iff.1 hx
  exact TR.imp (some i) (h.tv j y hy) hA
 ·obtain ⟨p0, h0, hh⟩ := hob j p hp
  rcases hh with ⟨rfl,rfl⟩|⟨hj,rfl⟩
  ·obtain rfl : r = q := by rw [hr] at hq; exact Option.some.inj hq
   exact hn
  ·have h1 := h.ob j p0 q h0 hq
   cases p0 with
   |dead=>trivial
   |ro=>trivial
   |row f e t xs=>
    obtain ⟨v,hv,h2⟩:=Rep.move (t:= .slice e t) (S':=q.ok) (show Rep (.slice e t) w q.ok xs [q.v] from ⟨_,rfl,h1⟩) (fun _ hk=>hk) (hm j q hj hq)
    obtain rfl:q.v=v:=by simpa using hv
    exact h2
   |fx t xs=>
    obtain ⟨v,hv,h2⟩:=Rd.move (t:= .slice 0 t) (S':=q.ok) (show Rd (.slice 0 t) w q.ok xs [q.v] from ⟨_,rfl,h1.1⟩) (fun _ hk=>hk) (hm j q hj hq)
    obtain rfl:q.v=v:=by simpa using hv
    exact ⟨h2,h1.2⟩
   |clo f l=>
    obtain ⟨vs,g1,g2⟩:=h1
    exact ⟨vs,g1,g2.imp (At.kill i) rfl (fun x v _ hx=>hA x v hx)⟩
   |vrow d e u xs=>exact OR.vkill h1 (hm j q hj hq) hA
   |mp t ag n u es=>
    obtain ⟨g0,ms,c,g1,g2⟩:=h1
    exact ⟨g0,ms,c,(hm j q hj hq _ g0).trans g1,g2⟩
   |box e l=>
    obtain ⟨g0,vs,g1,g2,g3⟩:=h1
    exact ⟨g0,vs,(hm j q hj hq _ g0).trans g1,g2.imp (At.kill i) rfl (fun x v _ hx=>hA x v hx),g3⟩
 ·obtain ⟨p0, h0, hh⟩ := hob j p hp
  rcases hh with ⟨rfl,rfl⟩|⟨hj,rfl⟩
  ·exact h.dj j l o rj rl hjl ho hw hrj hrl k hk
  ·exact h.dj j l p0 rj rl hjl h0 (by rw [← Ziv i]; exact hwp) hrj hrl k hk
 ·obtain ⟨p0, h0, hh⟩ := hob j p hp
  rcases hh with ⟨rfl,rfl⟩|⟨hj,rfl⟩
  ·exact h.wr j o q ho hq hw k hk
  ·exact h.wr j p0 q h0 hq (by rw [← Ziv i]; exact hwp) k hk
 ·obtain ⟨p0, h0, hh⟩ := hob j _ hp
  rcases hh with ⟨rfl,hh⟩|⟨hj,hh⟩
  ·obtain ⟨e', t', xs', rfl⟩ := hf e t xs hh.symm
   exact h.fr j e' t' xs' q ho hq k hk
  ·cases p0 <;> simp only [Ob.kill] at hh <;> cases hh
   exact h.fr j e t xs q h0 hq k hk
theorem Rel.revive(h:Rel w0 S0 st μ a w){i:Nat}{o':Ob}{r r':ORec}(hr:μ[i]? =some r)(hv:r'.v=r.v)(hb:r'.blk=r.blk)(hlt0:i<st.objs.length)(ho: ∀μ',(∀j,j≠i→μ'[j]? =μ[j]?)→μ'[i]? =some r'→OR μ' w o' r')
  (hd : ∀ (j : Nat) q, j ≠ i → μ[j]? = some q → ∀ k, r'.ok k → ¬ q.ok k) (hw : ∀ k, r'.ok k → S0 k ∨ w0.heap.size ≤ k) (hf : ∀ e t xs, o' = .row true e t xs → ∀ k, r'.ok k → S0.gv k ∨ w0.heap.size ≤ k) (hl : ∀ k, r'.ok k → k < w.heap.size) :
  Rel w0 S0 {st.kill i with objs:=(st.kill i).objs.set i o'} (μ.set i r') a w:=by
 have hil:i<μ.length:=(List.getElem?_eq_some_iff.1 hr).1
 have same:(μ.set i r')[i]? =some r':=by rw[List.getElem?_set_self hil]
 have other: ∀j,j≠i→(μ.set i r')[j]? =μ[j]? :=fun j hj=>List.getElem?_set_ne (Ne.symm hj)
 have keep: ∀(j:Nat) q,μ[j]? =some q→ ∃q',(μ.set i r')[j]? =some q'∧q'.v=q.v∧q'.blk=q.blk∧(j≠i→q'=q):=by
  intro j q hq
  by_cases hj : j = i
  ·subst hj
   rw[hr]at hq
   injection hq with hq
   subst hq
   exact ⟨r',same,hv,hb,fun h=>absurd rfl h⟩
  ·exact ⟨q, by rw [other j hj]; exact hq, rfl, rfl, fun _ => rfl⟩
 have hA: ∀x v,AR μ w x v→AR (μ.set i r') w (x.kill i) v:=by
  intro x v hx
  unfold At.kill
  split
  ·trivial
  ·rename_i hdp
   cases x with
   |un=>exact hx
   |int=>exact hx
   |bool=>exact hx
   |str=>exact hx
   |nils=>exact hx
   |sl j=>
    obtain ⟨q,hq,hx⟩:=hx
    obtain ⟨q',h1,h2,_⟩:=keep j q hq
    exact ⟨q',h1,by rw[h2];exact hx⟩
   |ptr j f=>
    obtain ⟨q,hq,hx⟩:=hx
    obtain ⟨q',h1,_,h2,_⟩:=keep j q hq
    exact ⟨q',h1,by rw[h2];exact hx⟩
   |cv j=>
    obtain ⟨q,hq,hx⟩:=hx
    obtain ⟨q',h1,h2,_⟩:=keep j q hq
    exact ⟨q',h1,by rw[h2];exact hx⟩
   |pc j l=>
    obtain ⟨q,p,g,hq,hp,hx⟩:=hx
    obtain ⟨q',h1,_,_,h2⟩:=keep j q hq
    obtain rfl:=h2 (fun e=>hdp (by rw[e];rfl))
    obtain ⟨p',h3,h4,_⟩:=keep l p hp
    exact ⟨q',p',g,h1,h3,by rw[h4];exact hx⟩
   |ep j t jj f=>
    obtain ⟨q,ad,n,c,hq,hx⟩:=hx
    obtain ⟨q',h1,h2,_⟩:=keep j q hq
    exact ⟨q',ad,n,c,h1,by rw[h2];exact hx⟩
   |snap j t xs=>
    obtain ⟨q,hq,hx⟩:=hx
    obtain ⟨q',h1,_,_,h2⟩:=keep j q hq
    obtain rfl:=h2 (fun e=>hdp (by rw[e];rfl))
    exact ⟨q',h1,hx⟩
   |inn j jj=>
    obtain ⟨q,ad,n,c,hq,hx⟩:=hx
    obtain ⟨q',h1,_,_,h2⟩:=keep j q hq
    obtain rfl:=h2 (fun e=>hdp (by rw[e];rfl))
    exact ⟨q',ad,n,c,h1,hx⟩
   |es j t xx f=>
    obtain ⟨q,ad,cs,hq,hx⟩:=hx
    obtain ⟨q',h1,_,_,h2⟩:=keep j q hq
    obtain rfl:=h2 (fun e=>hdp (by rw[e];rfl))
    exact ⟨q',ad,cs,h1,hx⟩
   |mp j=>
    obtain ⟨q,hq,hx⟩:=hx
    obtain ⟨q',h1,_,h2,_⟩:=keep j q hq
    exact ⟨q',h1,by rw[h2];exact hx⟩
   |app j jj t xx=>
    obtain ⟨q,hq,hx⟩:=hx
    obtain ⟨q',h1,_,_,h2⟩:=keep j q hq
    obtain rfl:=h2 (fun e=>hdp (by rw[e];rfl))
    exact ⟨q',h1,hx⟩
   |ip j q0 t n f=>
    obtain ⟨q,a,m,c,b,m',c',hq,hx⟩:=hx
    obtain ⟨q',h1,_,_,h2⟩:=keep j q hq
    obtain rfl:=h2 (fun e=>hdp (by rw[e];rfl))
    exact ⟨q',a,m,c,b,m',c',h1,hx⟩
   |gp g f=>exact hx
   |inf j q0 t f=>
    obtain ⟨q,a,n,c,hq,hx⟩:=hx
    obtain ⟨q',h1,_,_,h2⟩:=keep j q hq
    obtain rfl:=h2 (fun e=>hdp (by rw[e];rfl))
    exact ⟨q',a,n,c,h1,hx⟩
 have hob: ∀(j:Nat) p,({st.kill i with objs:=(st.kill i).objs.set i o'}:St).objs[j]? =some p→(j=i∧p=o')∨(j≠i∧ ∃p0,st.objs[j]? =some p0∧p=p0.kill i):=by
  intro j p hp
  simp only[St.kill,List.getElem?_set,List.getElem?_map,List.length_map]at hp
  by_cases hj : i = j
  ·subst hj
   rw[if_pos rfl,if_pos hlt0]at hp
   injection hp with hp
   exact .inl ⟨rfl,hp.symm⟩
  ·rw [if_neg hj] at hp
   obtain ⟨p0,h0,rfl⟩:=Option.map_eq_some_iff.1 hp
   exact .inr ⟨fun e=>hj e.symm,p0,h0,rfl⟩
 have hrec: ∀(j:Nat) q,(μ.set i r')[j]? =some q→(j=i∧q=r')∨(j≠i∧μ[j]? =some q):=by
  intro j q hq
  by_cases hj : j = i
  ·subst hj
   rw[same]at hq
   exact .inl ⟨rfl,(Option.some.inj hq).symm⟩
  ·rw [other j hj] at hq
   exact .inr ⟨hj,hq⟩
 refine ⟨by simp[St.kill,h.len],by simp[St.kill,h.tm],fun j x hx=> ?_,fun j p q hp hq=> ?_,fun j l p rj rl hjl hp hwp hrj hrl k hk=> ?_,fun j p q hp hq hwp k hk=> ?_,fun j e t xs q hp hq k hk=> ?_,fun j q hq k hk=> ?_,h.kp,h.df,fun j v hv2=> ?_,h.gb,fun j q hq k hk=>by
  rcases hrec j q hq with ⟨_,rfl⟩|⟨_,h2⟩
  ·exact .inr (hw k hk)
  ·exact h.al j q h2 k hk⟩
 ·simp only [St.kill, List.getElem?_map] at hx
  obtain ⟨y,hy,rfl⟩:=Option.map_eq_some_iff.1 hx
  exact TR.imp (some i) (h.tv j y hy) hA
 ·rcases hob j p hp with ⟨rfl, rfl⟩ | ⟨hj, p0, h0, rfl⟩
  ·rw [same] at hq
   injection hq with hq
   subst hq
   exact ho _ other same
  ·rw [other j hj] at hq
   have h1:=h.ob j p0 q h0 hq
   cases p0 with
   |dead=>trivial
   |ro=>trivial
   |row f e t xs=>exact h1
   |mp t ag n u es=>exact h1
   |fx t xs=>exact h1
   |box e l=>
    obtain ⟨g0,vs,g1,g2,g3⟩:=h1
    exact ⟨g0,vs,g1,g2.imp (At.kill i) rfl (fun x v _ hx=>hA x v hx),g3⟩
   |clo f l=>
    obtain ⟨vs,g1,g2⟩:=h1
    exact ⟨vs,g1,g2.imp (At.kill i) rfl (fun x v _ hx=>hA x v hx)⟩
   |vrow d e u xs=>exact OR.vkill h1 (fun _ _=>rfl) hA
 ·rcases hob j p hp with ⟨rfl, rfl⟩ | ⟨hj, p0, h0, rfl⟩
  ·rcases hrec j rj hrj with ⟨_, rfl⟩ | ⟨hn, _⟩
   ·rcases hrec l rl hrl with ⟨hl, _⟩ | ⟨hl, hql⟩
    ·exact absurd hl.symm hjl
    ·exact hd l rl hl hql k hk
   ·exact absurd rfl hn
  ·rcases hrec j rj hrj with ⟨hn, _⟩ | ⟨_, hqj⟩
   ·exact absurd hn hj
   ·rcases hrec l rl hrl with ⟨rfl, rfl⟩ | ⟨hl, hql⟩
    ·exact fun hk2=>hd j rj hj hqj k hk2 hk
    ·exact h.dj j l p0 rj rl hjl h0 (by rw[←Ziv i];exact hwp) hqj hql k hk
 ·rcases hob j p hp with ⟨rfl, rfl⟩ | ⟨hj, p0, h0, rfl⟩
  ·rw [same] at hq
   injection hq with hq
   subst hq
   exact hw k hk
  ·rw [other j hj] at hq
   exact h.wr j p0 q h0 hq (by rw[←Ziv i];exact hwp) k hk
 ·rcases hob j _ hp with ⟨rfl, he⟩ | ⟨hj, p0, h0, he⟩
  ·rw [same] at hq
   injection hq with hq
   subst hq
   exact hf e t xs he.symm k hk
  ·rw [other j hj] at hq
   cases p0<;>simp only[Ob.kill]at he<;>cases he
   exact h.fr j e t xs q h0 hq k hk
 ·rcases hrec j q hq with ⟨rfl, rfl⟩ | ⟨hj, hq2⟩
  ·exact hl k hk
  ·exact h.lt j q hq2 k hk
 ·obtain ⟨q, hq, hqv⟩ := h.ov j v hv2
  obtain ⟨q',h1,h2,h3,_⟩:=keep (j+1) q hq
  exact ⟨q',h1,h2.trans hqv.1,h3.trans hqv.2⟩
end
end
section
inductive TD where
 |scal|slice (e:TypeId)|struct (fs:List (Nat×TypeId))|arr (n:Nat) (e:TypeId)|map (k e:TypeId) (ag:Bool) (n:Nat)|fn
structure TI where
 d:TD
 ty:Ty
 bytes:Nat
 eqs:Bool:=false
abbrev TT:=List (TypeId×TI)
def TI.isMap(i:TI):Bool:=match i.d with| .map _ _ _ _=>true|_=>false
def TI.isFn(i:TI):Bool:=match i.d with| .fn=>true|_=>false
def TT.get(T:TT)(t:TypeId):Option TI:=(T.find? (fun p=>p.1==t&& !p.2.isMap&& !p.2.isFn)).map (·.2)
def TT.isFn(T:TT)(t:TypeId):Bool:=T.any fun p=>p.1==t&&p.2.isFn
def TT.mapOf(T:TT)(t:TypeId):Option (TypeId×TypeId×Bool×Nat):=match T.find? (fun p=>p.1==t&&p.2.isMap) with
 |some p=>match p.2.d with| .map k e ag n=>some (k,e,ag,n)|_=>none
 |none=>none
def TI.isAgg(i:TI):Bool:=match i.d with| .struct _=>true| .arr _ _=>true|_=>false
def TI.isScal(i:TI):Bool:=match i.d with| .scal=>true|_=>false
structure PK where
 t:Ty
 agg:Bool:=false
 own:Option (Nat×TypeId×Ty):=none
 give:Bool:=false
 box:Option TypeId:=none
@[reducible] def Tup : List PK → Type
 |[]=>Unit
 |p::l=>p.t.D×Tup l
abbrev OutD:=Option (Sigma fun u:Ty=>List u.D)
structure CloE where
 act:{γ:Type}→Nat→St→Option Tmp→List TV→(St→Option γ)→Option γ
structure CallE where
 ps:List PK
 rs:List PK
 fn:{γ:Type}→Nat→Tup ps→(Tup rs→OutD→Option γ)→Option γ
 cl:Option CloE:=none
abbrev Env:=List (FuncId×CallE)
def Env.get(G:Env)(f:FuncId):Option CallE:=(G.find? (fun p=>p.1==f)).map (·.2)
def zatoms:Ty→List At
 | .int k=>[.int k 0]| .bool=>[.bool false]| .str=>[.str ⟨#[]⟩]| .pair a b=>zatoms a++zatoms b| .slice _ _=>[.nils]
def atomsOf(i:Nat):(t:Ty)→t.D→List At
 | .int k,n=>[.int k n]| .bool,b=>[.bool b]| .str,s=>[.str s]| .pair a b,x=>atomsOf i a x.1++atomsOf i b x.2| .slice _ t,xs=>[.snap i t xs]
def readV:(t:Ty)→(u:Ty)→List (List u.D)→Option (List t.D)
 | .slice _ t',u,xs=>if h:u=t' then some (h▸xs) else none
 |_,_,_=>none
def readSl(st:St)(ex:List Nat)(t:Ty):At→Option (List t.D)
 | .nils=>some []
 | .sl i=>if ex.contains i then none else match st.objs[i]? with
  |some (.row _ _ t' xs)=>if h:t'=t then some (h▸xs) else none
  |some (.fx t' xs)=>if h:t'=t then some (h▸xs) else none
  |some (.vrow (some d) _ u xs)=>if ex.contains d then none else readV t u xs
  |_=>none
 | .snap i t' xs=>if ex.contains i then none else if h:t'=t then some (h▸xs) else none
 | .inn i j=>if ex.contains i then none else match st.objs[i]? with
  |some (.row _ _ (.slice _ t') xs)=>if h:t'=t then some (h▸xs.getD j.toNat []) else none
  |_=>none
 |_=>none
def readTree(st:St)(ex:List Nat):(t:Ty)→List At→Option t.D
 | .int k,[.int k' n]=>if k'=k then some n else none
 | .bool,[.bool b]=>some b
 | .str,[.str s]=>some s
 | .pair a b,l=>match readTree st ex a (l.take a.sz),readTree st ex b (l.drop a.sz) with
  |some x,some y=>some (x,y)
  |_,_=>none
 | .slice _ t,[x]=>readSl st ex t x
 |_,_=>none
def takeTree:(t:Ty)→St→List At→Option (t.D×St)
 | .int k,st,[.int k' n]=>if k'=k then some (n,st) else none
 | .bool,st,[.bool b]=>some (b,st)
 | .str,st,[.str s]=>some (s,st)
 | .pair a b,st,l=>match takeTree a st (l.take a.sz) with
  |some (x,st1)=>match takeTree b st1 (l.drop a.sz) with
   |some (y,st2)=>some ((x,y),st2)
   |none=>none
  |none=>none
 | .slice e t,st,[x]=>match x with
  | .nils=>some ([],st)
  | .sl i=>match st.objs[i]? with
   |some (.row true e' t' xs)=>if h:t'=t then if e'=e then some (h▸xs,st.die i) else none else none
   |_=>none
  |_=>none
 |_,_,_=>none
def setLeaf:(t:Ty)→t.D→Nat→At→Option t.D
 | .int k,_,0,.int k' n=>if k'=k then some n else none
 | .bool,_,0,.bool b=>some b
 | .str,_,0,.str s=>some s
 | .pair a b,x,f,c=>if f<a.sz then (match setLeaf a x.1 f c with|some y=>some (y,x.2)|none=>none) else (match setLeaf b x.2 (f-a.sz) c with|some y=>some (x.1,y)|none=>none)
 |_,_,_,_=>none
def setLeaves(t:Ty):t.D→Nat→List At→Option t.D
 |x,_,[]=>some x
 |x,f,c::l=>match setLeaf t x f c with|some y=>setLeaves t y (f+1) l|none=>none
def ofV1:Value→At
 | .int k n=> .int k n| .bool b=> .bool b| .string s=> .str s| .slice none 0 0=> .nils|_=> .un
def ofV:Value→TV
 | .agg cs=> .sv (.agg (cs.toList.map ofV1))
 |v=> .sv (.at (ofV1 v))
def St.ev(st:St):Operand→TV
 | .tmp t=>st.tmps.getD t (.sv (.at .un))
 | .const v=>ofV v
 | .global g=> .sv (.at (.gp g 0))
 |_=> .sv (.at .un)
def At.isUn:At→Bool
 | .un=>true|_=>false
def SV.cells:SV→Option (List At)
 | .at x=>if x.isUn then none else some [x]
 | .agg l=>some l
def TV.cells:TV→Option (List At)
 | .sv x=>x.cells| .tup _=>none
def TV.atom:TV→At
 | .sv (.at x)=>x|_=> .un
def mkV(i:TI)(l:List At):TV:=if i.isAgg then .sv (.agg l) else .sv (.at (l.headD .un))
def St.push(st:St)(o:Ob):St:={st with objs:=st.objs++[o]}
def St.mk1(st:St)(dst:Option Tmp)(o:Ob)(x:At):St:=(st.push o).put dst (.sv (.at x))
def wrapK:IntKind→Int→Int
 | .i64,n=>wrap64 n|k,n=>k.wrap n
noncomputable def shlS:Int→Int→Int:=Classical.choose (⟨fun a b=>wrap64 (a*2^(min b.toNat 64)),rfl⟩: ∃f:Int→Int→Int,f=fun a b=>wrap64 (a*2^(min b.toNat 64)))
theorem ZTP(a b:Int):shlS a b=wrap64 (a*2^(min b.toNat 64)):=congrFun (congrFun (Classical.choose_spec (⟨fun a b=>wrap64 (a*2^(min b.toNat 64)),rfl⟩: ∃f:Int→Int→Int,f=fun a b=>wrap64 (a*2^(min b.toNat 64)))) a) b
section
variable {β:Type}
def opInt(op:BinOp)(k:IntKind)(a b:Int)(K:At→Option β):Option β:=
 match op with
 | .add=>K (.int k (wrapK k (a+b)))| .sub=>K (.int k (wrapK k (a-b)))| .mul=>K (.int k (wrapK k (a*b)))
 | .quo=>if b=0 then none else K (.int k (wrapK k (Int.tdiv a b)))
 | .rem=>if b=0 then none else K (.int k (Int.tmod a b))
 | .and=>K (.int k (bits .and k a b))| .or=>K (.int k (bits .or k a b))| .xor=>K (.int k (bits .xor k a b))| .andNot=>K (.int k (bits .andNot k a b))
 | .eql=>K (.bool (decide (a=b)))| .neq=>K (.bool (decide (a≠b)))
 | .lss=>K (.bool (decide (a<b)))| .leq=>K (.bool (decide (a≤b)))| .gtr=>K (.bool (decide (a>b)))| .geq=>K (.bool (decide (a≥b)))
 |_=>none
noncomputable def opShift(op:BinOp)(k:IntKind)(a b:Int)(K:At→Option β):Option β:=
 match op with
 | .shl=>if b<0 then none else match k with
  | .i64=>K (.int .i64 (shlS a b))
  |k=>K (.int k (wrapK k (a*2^(min b.toNat k.bits))))
 | .shr=>if b<0 then none else K (.int k (Int.fdiv a (2^(min b.toNat k.bits))))
 |_=>none
def isShift:BinOp→Bool
 | .shl=>true| .shr=>true|_=>false
def eqAtoms:List At→List At→Option Bool
 |[],[]=>some true
 | .int .i64 a::l,.int .i64 b::l'=>(eqAtoms l l').map (fun r=>decide (a=b)&&r)
 |_,_=>none
noncomputable def opBin(T:TT)(op:BinOp)(t:TypeId)(x y:TV)(K:At→Option β):Option β:=
 match x,y with
 | .sv (.at (.int k a)),.sv (.at (.int k' b))=>if isShift op then opShift op k a b K else if k=k' then opInt op k a b K else none
 | .sv (.at (.bool a)),.sv (.at (.bool b))=>match T.get t with
  |some i=>if i.isScal=true∧i.ty= .bool then (match op with
   | .eql=>K (.bool (a==b))| .neq=>K (.bool (!(a==b)))|_=>none) else none
  |none=>none
 | .sv (.at (.str a)),.sv (.at (.str b))=>match op with
  | .add=>if a.size+b.size≤9223372036854775807 then K (.str (a++b)) else none
  | .eql=>K (.bool (a.toList==b.toList))| .neq=>K (.bool (!(a.toList==b.toList)))|_=>none
 | .sv (.agg l),.sv (.agg l')=>match T.get t with
  |some i=>if i.eqs&&l.length==i.ty.sz then match eqAtoms l l' with
    |some r=>match op with
     | .eql=>K (.bool r)| .neq=>K (.bool (!r))|_=>none
    |none=>none
   else none
  |none=>none
 |_,_=>none
def opUn(op:UnOp)(x:TV)(K:At→Option β):Option β:=
 match op,x with
 | .not,.sv (.at (.bool b))=>K (.bool (!b))
 | .neg,.sv (.at (.int k n))=>K (.int k (wrapK k (0-n)))
 |_,_=>none
def lim(bytes:Nat):Nat:=140737488355328/bytes
def inRange(j:Int)(n:Nat)(K:Option β):Option β:=if 0≤j then if j<(n:Int) then K else none else none
def fillParts(T:TT)(fs:List (Nat×TypeId))(st:St):List (Nat×Operand)→List At→Option (List At)
 | [], acc => some acc
 | (i, x) :: ps, acc => match fs[i]? with
  |some (off,t)=>match T.get t,(st.ev x).cells with
   |some ti,some l=>if l.length=ti.ty.sz∧off+l.length≤acc.length then fillParts T fs st ps (acc.take off++l++acc.drop (off+l.length)) else none
   |_,_=>none
  |none=>none
def fillElems(t:Ty):Nat→St→List (Nat×Operand)→Option (List t.D×St)
 | _, st, [] => some ([], st)
 | n, st, (i, x) :: ps => if i = n then match (st.ev x).cells with
   |some l=>match takeTree t st l with
    |some (y,st1)=>match fillElems t (n+1) st1 ps with
     |some (ys,st2)=>some (y::ys,st2)
     |none=>none
    |none=>none
   |none=>none
  else none
def intsOf(k:IntKind):List At→Option (List Int)
 | [] => some []
 |x::l=>match x with
  | .int k' n=>if k'=k then match intsOf k l with
    |some ns=>some (n::ns)
    |none=>none
   else none
  |_=>none
def cellsFrom(k:IntKind)(ns:List Int):Nat→List Int→List At
 |_,[]=>[]
 |j,_::r=> .int k (List.getD ns j 0)::cellsFrom k ns (j+1) r
def dynInt(i:TI)(cells:List At):Option (IntKind×List Int):=
 match i.ty with
 | .int k=>if 8≤cells.length∧i.isAgg=false then match intsOf k cells with
   |some ns=>some (k,ns)
   |none=>none
  else none
 |_=>none
def At.setw(l:List At)(f:Nat)(new:List At):List At:=l.take f++new++l.drop (f+new.length)
def setCells(i:TI)(cells:List At)(f:Nat)(l:List At)(K:List At→Option β):Option β:=
 match dynInt i cells with
 |some (k,ns)=>match l with
  |[.int k' m]=>if k'=k then if f<ns.length then K (cellsFrom k (List.set ns f m) 0 ns) else none else none
  |_=>none
 |none=>if f+l.length≤cells.length then K (At.setw cells f l) else none
def opLoad(i:TI)(st:St)(p:At)(K:TV→Option β):Option β:=
 match p with
 | .ptr j f=>match st.objs[j]? with
  |some (.box _ cells)=>match dynInt i cells with
   |some (k,ns)=>if f<ns.length then K (.sv (.at (.int k (List.getD ns f 0)))) else none
   |none=>if f+i.ty.sz≤cells.length then K (mkV i ((cells.drop f).take i.ty.sz)) else none
  |_=>none
 | .ep j t q f=>match st.objs[j]? with
  |some (.row _ _ t' xs)=>if h:t'=t then
    match t,h▸xs with
    | .slice _ _,_=>if f=0∧i.isAgg=false then K (.sv (.at (.inn j q))) else none
    |t,xs=>if f+i.ty.sz≤t.sz then K (mkV i (((atomsOf j t (xs.getD q.toNat t.zero)).drop f).take i.ty.sz)) else none
   else none
  |_=>none
 | .es j t x f=>if f+i.ty.sz≤t.sz then K (mkV i (((atomsOf j t x).drop f).take i.ty.sz)) else none
 | .gp g f=>match glGet g with
  |some xs=>if i.ty.sz=1∧i.isAgg=false then if f<xs.length then K (.sv (.at (.str (xs.getD f ⟨#[]⟩)))) else none else none
  |none=>none
 |_=>none
def backSt(st:St)(i:Nat)(o:Ob):St:={(st.die i).kill i with objs:=((st.die i).kill i).objs.set i o}
def appOf:List At→Option (Nat×Int×Sigma fun t:Ty=>List t.D)
 |[.app j q t xs]=>some (j,q,⟨t,xs⟩)
 |_=>none
def opStore (i : TI) (st : St) (p : At) (v : TV) (K : St → Option β) : Option β :=
  match v.cells with
  | some l => if l.length = i.ty.sz ∧ l.all (fun x => !x.isUn) then
      match p with
      | .ptr j f => match st.objs[j]? with
        | some (.box e cells) => setCells i cells f l fun cs => K { st.kill j with objs := (st.kill j).objs.set j (.box e (cs.map (At.kill j))) }
        | _ => none
      | .ep j t q f=>match st.objs[j]? with
        | some (.row fr e t' xs) => if h : t' = t then
            match setLeaves t (List.getD (h ▸ xs : List t.D) q.toNat t.zero) f l with
            |some y=>K {st.kill j with objs:=(st.kill j).objs.set j (.row fr e t ((h▸xs:List t.D).set q.toNat y))}
            |none=>match appOf l with
              |some (j2,q2,⟨t2,ys⟩)=>if f=0∧j2=j then if q2=q then if h2:t2=t then K {st.kill j with objs:=(st.kill j).objs.set j (.row fr e t (h2▸ys:List t.D))} else none else none else none
              |none=>if f=0 then match takeTree t st l with
                |some (y,st1)=>match st1.objs[j]? with
                  |some (.row fr2 e2 t2 xs2)=>if h2:t2=t then K (backSt st1 j (.row fr2 e2 t ((h2▸xs2:List t.D).set q.toNat y))) else none
                  |_=>none
                |none=>none
                else none
          else none
        |_=>none
      |_=>none
    else none
  |none=>none
def opIndexAddr(i:TI)(st:St)(x:At)(n:Int)(K:At→Option β):Option β:=
 match x with
 | .sl j=>match st.objs[j]? with
  |some (.row _ _ t xs)=>if t=i.ty then inRange n xs.length (K (.ep j t n 0)) else none
  |some (.fx t xs)=>if t=i.ty then inRange n xs.length (K (.es j t (xs.getD n.toNat t.zero) 0)) else none
  |_=>none
 | .snap j t xs=>if t=i.ty then inRange n xs.length (K (.es j t (xs.getD n.toNat t.zero) 0)) else none
 | .inn j q=>match st.objs[j]? with
  |some (.row _ _ (.slice _ t) xs)=>if t=i.ty then inRange n (xs.getD q.toNat []).length (K (.es j t ((xs.getD q.toNat []).getD n.toNat t.zero) 0)) else none
  |_=>none
 |_=>none
def opFieldAddr(fs:List (Nat×TypeId))(x:At)(f:Nat):Option At:=
 match fs[f]? with
 |some (off,_)=>match x with
  | .ptr j g=>some (.ptr j (g+off))| .ep j t q g=>some (.ep j t q (g+off))| .es j t y g=>some (.es j t y (g+off))|_=>none
 |none=>none
def lenOf(st:St):At→Option Int
 | .nils=>some 0
 | .sl i=>match st.objs[i]? with|some (.row _ _ _ xs)=>some (xs.length:Int)|some (.fx _ xs)=>some (xs.length:Int)|_=>none
 | .snap _ _ xs=>some (xs.length:Int)
 | .inn i j=>match st.objs[i]? with|some (.row _ _ (.slice _ _) xs)=>some ((xs.getD j.toNat []).length:Int)|_=>none
 |_=>none
def opLen(i:TI)(st:St)(x:At):Option Int:=
 match i.d with
 | .slice _=>lenOf st x
 | .scal=>match x with| .str s=>if i.ty= .str then some (s.size:Int) else none|_=>none
 |_=>none
def opAppend0(e:TypeId)(i:TI)(st:St)(dst:Option Tmp)(x y:At)(K:St→Option β):Option β:=
 match (if i.ty.flat then (readSl st [] i.ty y).map (fun ys=>(ys,st)) else takeTree (.slice e i.ty) st [y]) with
 |some (ys,st1)=>match x with
  | .nils=>if ys.length≤lim i.bytes then K (st1.mk1 dst (.row true e i.ty ys) (.sl st1.objs.length)) else none
  | .sl j=>match st1.objs[j]? with
   |some (.row fr e' t' xs)=>if h:t'=i.ty then if e'=e then
     if xs.length+ys.length≤lim i.bytes then K ((st1.die j).mk1 dst (.row fr e i.ty ((h▸xs)++ys)) (.sl st1.objs.length)) else none
    else none else none
   |_=>none
  |_=>none
 |none=>none
def opAppendIn(e:TypeId)(ti:TI)(st:St)(dst:Option Tmp)(i:Nat)(j:Int)(y:At)(K:St→Option β):Option β:=
 if ti.ty.flat then match readSl st [] ti.ty y with
  |some ys=>match st.objs[i]? with
   |some (.row fr e1 (.slice e' t') zs)=>if h:t'=ti.ty then if e'=e then
     if (List.getD zs j.toNat []).length+ys.length≤lim ti.bytes then K ((backSt st i (.row fr e1 (.slice e' t') zs)).put dst (.sv (.at (.app i j (.slice e' t') (List.set (α:=(Ty.slice e' t').D) zs j.toNat (List.getD zs j.toNat []++h▸ys)))))) else none
    else none else none
   |_=>none
  |none=>none
 else none
def innOf:At→Option (Nat×Int)
 | .inn i j=>some (i,j)
 |_=>none
def opAppend(e:TypeId)(i:TI)(st:St)(dst:Option Tmp)(x y:At)(K:St→Option β):Option β:=
 match innOf x with
 |some (k,j)=>opAppendIn e i st dst k j y K
 |none=>opAppend0 e i st dst x y K
def cutAt(lo hi:Option TV)(n:Nat)(K:Nat→Nat→Option β):Option β:=
 let l:Option Int:=match lo with|none=>some 0|some (.sv (.at (.int _ a)))=>some a|_=>none
 let h:Option Int:=match hi with|none=>some (n:Int)|some (.sv (.at (.int _ a)))=>some a|_=>none
 match l,h with
 |some a,some b=>if 0≤a then if a≤b then if b≤(n:Int) then K a.toNat b.toNat else none else none else none
 |_,_=>none
def opSlice(mv:Bool)(e:TypeId)(i:TI)(st:St)(dst:Option Tmp)(x:At)(lo hi:Option TV)(K:St→Option β):Option β:=
 match x with
 | .nils=>cutAt lo hi 0 fun _ _=>K (st.put dst (.sv (.at .nils)))
 | .sl j=>match st.objs[j]? with
  |some (.row fr e' t xs)=>if t=i.ty then cutAt lo hi xs.length fun a b=>
    if mv then (if hi.isNone∧e'=e then K ((st.die j).mk1 dst (.row fr e' t (xs.drop a)) (.sl st.objs.length)) else if e'=e then K ((st.die j).mk1 dst (.row fr e' t ((xs.drop a).take (b-a))) (.sl st.objs.length)) else none)
    else K (st.put dst (.sv (.at (.snap j t ((xs.drop a).take (b-a)))))) else none
  |_=>none
 | .snap j t xs=>if t=i.ty then cutAt lo hi xs.length fun a b=>K (st.put dst (.sv (.at (.snap j t ((xs.drop a).take (b-a)))))) else none
 | .inn j q=>match st.objs[j]? with
  |some (.row _ _ (.slice _ t) xs)=>if t=i.ty then cutAt lo hi (xs.getD q.toNat []).length fun a b=>K (st.put dst (.sv (.at (.snap j t (((xs.getD q.toNat []).drop a).take (b-a)))))) else none
  |_=>none
 |_=>none
end
end
section
section
variable {μ μ':List ORec} {w w1 w0:World} {S0:Own} {st st':St} {a:Act}
theorem AL.nil:AL μ w [] []:=⟨rfl,fun j x v hx=>by simp at hx⟩
theorem AL.one{x:At}{v:Value}(h:AR μ w x v):AL μ w [x] [v]:=by
 refine ⟨rfl,fun j y u hy hu=> ?_⟩
 cases j with
 |zero=>simp at hy hu;subst hy hu;exact h
 |succ j=>simp at hy
theorem AL.append{l l':List At}{vs vs':List Value}(h:AL μ w l vs)(h':AL μ w l' vs'):AL μ w (l++l') (vs++vs'):=by
 refine ⟨by simp[h.1,h'.1],fun j x v hx hv=> ?_⟩
 rw[List.getElem?_append]at hx hv
 rw[h.1]at hv
 split at hx
 ·rename_i hj
  rw[if_pos hj]at hv
  exact h.2 j x v hx hv
 ·rename_i hj
  rw[if_neg hj]at hv
  exact h'.2 _ x v hx hv
theorem AL.take{l:List At}{vs:List Value}(n:Nat)(h:AL μ w l vs):AL μ w (l.take n) (vs.take n):=by
 refine ⟨by simp[h.1],fun j x v hx hv=> ?_⟩
 rw[List.getElem?_take]at hx hv
 split at hx
 ·rename_i hj
  rw[if_pos hj]at hv
  exact h.2 j x v hx hv
 ·cases hx
theorem AL.drop{l:List At}{vs:List Value}(n:Nat)(h:AL μ w l vs):AL μ w (l.drop n) (vs.drop n):=by
 refine ⟨by simp[h.1],fun j x v hx hv=> ?_⟩
 rw[List.getElem?_drop]at hx hv
 exact h.2 _ x v hx hv
theorem AL.single{x:At}{vs:List Value}(h:AL μ w [x] vs): ∃v,vs=[v]∧AR μ w x v:=by
 have h1:=h.1
 match vs,h1 with
 |[v],_=>exact ⟨v,rfl,h.2 0 x v rfl rfl⟩
theorem AL.of_rd{i:Nat}{r:ORec}(hr:μ[i]? =some r): ∀{t:Ty} {x:t.D} {cs:List Value},Rd t w r.ok x cs→AL μ w (atomsOf i t x) cs
 | .int _,_,_,h=>by rw[show _=_ from h];exact .one rfl
 | .bool,_,_,h=>by rw[show _=_ from h];exact .one rfl
 | .str,_,_,h=>by rw[show _=_ from h];exact .one rfl
 | .pair a b,_,_,h=>by
  obtain ⟨c0,c1,rfl,h0,h1⟩:=h
  exact (AL.of_rd hr h0).append (AL.of_rd hr h1)
 | .slice _ t,_,_,h=>by
  obtain ⟨v,rfl,h⟩:=h
  exact .one ⟨r,hr,h⟩
def zcells:Ty→List Value
 | .int k=>[.int k 0]| .bool=>[.bool false]| .str=>[.string ⟨#[]⟩]| .pair a b=>zcells a++zcells b| .slice _ _=>[.slice none 0 0]
theorem AL.zero: ∀t:Ty,AL μ w (zatoms t) (zcells t)
 | .int _=> .one rfl| .bool=> .one rfl| .str=> .one rfl| .slice _ _=> .one rfl
 | .pair a b=>(AL.zero a).append (AL.zero b)
theorem ZlV: ∀t:Ty,(zcells t).length=t.sz
 | .int _=>rfl| .bool=>rfl| .str=>rfl| .slice _ _=>rfl
 | .pair a b=>by simp[zcells,Ty.sz,ZlV a,ZlV b]
theorem Zrs: ∀t:Ty,∀u∈zcells t,u.oneCell'=true
 | .int _,u,hu=>by simp[zcells]at hu;subst hu;rfl
 | .bool,u,hu=>by simp[zcells]at hu;subst hu;rfl
 | .str,u,hu=>by simp[zcells]at hu;subst hu;rfl
 | .slice _ _,u,hu=>by simp[zcells]at hu;subst hu;rfl
 | .pair a b,u,hu=>by
  simp only[zcells,List.mem_append]at hu
  exact hu.elim (Zrs a u) (Zrs b u)
theorem Rep.nils{α:Type}(R:World→(Nat→Prop)→α→List Value→Prop)(sz:Nat)(e:TypeId)(w:World)(S:Nat→Prop):RowRep R sz e w S [] (.slice none 0 0):=
 ⟨[],ZX4 w e sz,fun k hk=>by simp[Value.ownBlock]at hk,fun _=>0,fun j x hj=>by simp at hj⟩
theorem Rep.zero: ∀(t:Ty) (w:World),Rep t w (fun _=>False) t.zero (zcells t)
 | .int _,_=>rfl| .bool,_=>rfl| .str,_=>rfl
 | .slice e t,w=>⟨_,rfl,Rep.nils _ _ _ _ _⟩
 | .pair a b,w=>⟨_,_,_,_,rfl,Rep.zero a w,Rep.zero b w,fun _ h=>h.elim,fun _ h=>h.elim⟩
theorem RowRd.nils{α:Type}(R:World→(Nat→Prop)→α→List Value→Prop)(sz:Nat)(w:World)(S:Nat→Prop):RowRd R sz w S [] (.slice none 0 0):=
 ⟨none,0,rfl,Nat.le_refl _,Nat.zero_le _,fun h=>absurd h (Nat.lt_irrefl _)⟩
theorem RowRep.rd{t:Ty}{e:TypeId}{S:Nat→Prop}{xs:List t.D}{v:Value}(h:RowRep (Rep t) t.sz e w S xs v):RowRd (Rd t) t.sz w S xs v:=by
 obtain ⟨u,hu,h2⟩:=Rep.rd (t:= .slice e t) ⟨v,rfl,h⟩
 obtain rfl:v=u:=by simpa using hu
 exact h2
theorem RowRd.wide{t:Ty}{S S':Nat→Prop}{xs:List t.D}{v:Value}(h:RowRd (Rd t) t.sz w S xs v)(hS: ∀k,S k→S' k):RowRd (Rd t) t.sz w S' xs v:=by
 obtain ⟨u,hu,h2⟩:=Rd.wide (t:= .slice 0 t) ⟨v,rfl,h⟩ hS
 obtain rfl:v=u:=by simpa using hu
 exact h2
theorem RowRep.elem{t:Ty}{e:TypeId}{S:Nat→Prop}{xs:List t.D}{v:Value}(h:RowRep (Rep t) t.sz e w S xs v){j:Nat}(hj:j<xs.length):
  ∃A c cs,v= .slice (some A) xs.length c∧S A.block∧cs.length=t.sz∧(∀i u,cs[i]? =some u→w.cell? (A.add (j*t.sz+i))=some u)∧Rep t w S xs[j] cs:=by
 obtain ⟨inner,hq,hb,f,hr⟩:=h
 obtain ⟨A,c,rfl,hc⟩:=ZaL hq
 obtain ⟨ad,rfl,hcell⟩:=ZrL hq (by omega)
 have h2:=hr j xs[j] (List.getElem?_eq_getElem hj)
 exact ⟨ad,c,seg inner t.sz j,rfl,hb _ rfl,h2.len,fun i u hu=>hcell _ u (ZFu hu),h2.wide (fun k hk=>hk.1)⟩
def okBut(μ:List ORec)(ex:List Nat)(k:Nat):Prop:= ∃(i:Nat) (r:ORec),ex.contains i=false∧μ[i]? =some r∧r.ok k
theorem Zfe (h : Rel w0 S0 st μ a w) {ex : List Nat} {t : Ty} {x : At} {v : Value} {xs : List t.D} (hx : AR μ w x v) (hr : readSl st ex t x = some xs) : RowRd (Rd t) t.sz w (okBut μ ex) xs v := by
  cases x with
  | nils => simp only [readSl] at hr; injection hr with hr; subst hr; rw [show v = _ from hx]; exact RowRd.nils _ _ _ _
  |sl i=>
    simp only [readSl] at hr
    split at hr
    · cases hr
    · rename_i hex
      split at hr
      · rename_i fr e t' ys ho
        split at hr
        · rename_i ht
          subst ht
          injection hr with hr
          subst hr
          obtain ⟨r,hr,rfl,_⟩:=hx
          exact (RowRep.rd (h.ob i _ r ho hr)).wide (fun k hk=>⟨i,r,by simpa using hex,hr,hk⟩)
        · cases hr
      · rename_i t' ys ho
        split at hr
        · rename_i ht
          subst ht
          injection hr with hr
          subst hr
          obtain ⟨r,hr,rfl,_⟩:=hx
          exact (h.ob i _ r ho hr).1.wide (fun k hk=>⟨i,r,by simpa using hex,hr,hk⟩)
        · cases hr
      · rename_i d e u ys ho
        split at hr
        · cases hr
        · rename_i hexd
          obtain ⟨r,hr0,hvr,_⟩:=hx
          have hv:RowRep (VRow μ d u) 1 e w r.ok ys r.v:=h.ob i _ r ho hr0
          rw [← hvr] at hv
          unfold readV at hr
          split at hr
          · rename_i e2 t'
            split at hr
            · rename_i hu
              subst hu
              injection hr with hr
              subst hr
              obtain ⟨inner,hq,hb,f,hrr⟩:=hv
              obtain ⟨A,c,rfl,hc⟩:=ZaL hq
              refine ⟨A,c,rfl,hc,ZVq hq,fun h0=> ?_⟩
              obtain ⟨a1,rfl,hcell⟩:=ZrL hq h0
              refine ⟨a1,rfl,⟨i,r,by simpa using hex,hr0,hb _ rfl⟩,fun j x hj=> ?_⟩
              obtain ⟨cc,hcc,q,hqd,hrd⟩:=hrr j x hj
              refine ⟨seg inner 1 j,by rw[hcc];rfl,fun m uu hu=>hcell _ uu (ZFu hu),?_⟩
              rw[hcc]
              exact ⟨cc,rfl,hrd.wide (fun k hk=>⟨d,q,by simpa using hexd,hqd,hk⟩)⟩
            ·cases hr
          · cases hr
      · cases hr
  |snap i t' ys=>
    simp only[readSl]at hr
    split at hr
    · cases hr
    · rename_i hex
      split at hr
      · rename_i ht
        subst ht
        injection hr with hr
        subst hr
        obtain ⟨r,hr,h2⟩:=hx
        exact h2.wide (fun k hk=>⟨i,r,by simpa using hex,hr,hk⟩)
      · cases hr
  |inn i j=>
    simp only[readSl]at hr
    split at hr
    · cases hr
    · rename_i hex
      split at hr
      · rename_i fr e e2 t' ys ho
        split at hr
        · rename_i ht
          subst ht
          injection hr with hr
          subst hr
          obtain ⟨r,ad,n,c,hr,hv,h0,h1,hk,hc,_⟩:=hx
          have hrow:RowRep (Rep (.slice e2 t')) (Ty.slice e2 t').sz e w r.ok ys r.v:=h.ob i _ r ho hr
          have hn:n=ys.length:=by
            obtain ⟨inner,hq,_⟩:=hrow
            obtain ⟨A',c',hv',_⟩:=ZaL hq
            rw[hv]at hv'
            injection hv'
          have hj:j.toNat<ys.length:=by omega
          obtain ⟨A,c',cs,hv',hs,hl,hcell,hrep⟩:=hrow.elem hj
          rw[hv]at hv'
          injection hv' with ha _ _
          injection ha with ha
          subst ha
          obtain ⟨u,rfl,hrow2⟩:=hrep
          have hu:=hcell 0 u rfl
          simp only[Ty.sz,Nat.mul_one,Nat.add_zero]at hu
          rw[hc]at hu
          injection hu with hu
          subst hu
          have hg:List.getD ys j.toNat []=ys[j.toNat]:=by simp[List.getD,List.getElem?_eq_getElem hj]
          rw[hg]
          exact hrow2.rd.wide (fun k hk=>⟨i,r,by simpa using hex,hr,hk⟩)
        ·cases hr
      ·cases hr
  |_=>simp[readSl]at hr
theorem Z1w(h:Rel w0 S0 st μ a w){ex:List Nat}: ∀{t:Ty} {l:List At} {vs:List Value} {x:t.D},AL μ w l vs→readTree st ex t l=some x→Rd t w (okBut μ ex) x vs
 | .int k,l,vs,x,hl,hr=>by
  match l,hr with
  | [.int k' n], hr =>
   simp only[readTree]at hr
   split at hr
   ·rename_i hk; subst hk; injection hr with hr; subst hr
    obtain ⟨v,rfl,hv⟩:=hl.single
    rw[show v=_ from hv];rfl
   ·cases hr
 | .bool,l,vs,x,hl,hr=>by
  match l,hr with
  |[.bool b],hr=>
   simp only[readTree]at hr
   injection hr with hr;subst hr
   obtain ⟨v,rfl,hv⟩:=hl.single
   rw[show v=_ from hv];rfl
 | .str,l,vs,x,hl,hr=>by
  match l,hr with
  |[.str b],hr=>
   simp only[readTree]at hr
   injection hr with hr;subst hr
   obtain ⟨v,rfl,hv⟩:=hl.single
   rw[show v=_ from hv];rfl
 | .pair t u,l,vs,x,hl,hr=>by
  simp only[readTree]at hr
  split at hr
  ·rename_i y z hy hz
   injection hr with hr;subst hr
   have h1:=Z1w h (hl.take t.sz) hy
   have h2:=Z1w h (hl.drop t.sz) hz
   exact ⟨_,_,(List.take_append_drop _ _).symm,h1,h2⟩
  ·cases hr
 | .slice e t,l,vs,x,hl,hr=>by
  match l,hr with
  |[y],hr=>
   simp only[readTree]at hr
   obtain ⟨v,rfl,hv⟩:=hl.single
   exact ⟨v,rfl,Zfe h hv hr⟩
def AL0(μ:List ORec)(w:World)(l:List At)(vs:List Value):Prop:=vs.length=l.length∧ ∀(j:Nat) x v,l[j]? =some x→vs[j]? =some v→x.dep=none→AR μ w x v
theorem AL.al0{l:List At}{vs:List Value}(h:AL μ w l vs):AL0 μ w l vs:=⟨h.1,fun j x v hx hv _=>h.2 j x v hx hv⟩
theorem AL0.take{l:List At}{vs:List Value}(n:Nat)(h:AL0 μ w l vs):AL0 μ w (l.take n) (vs.take n):=by
 refine ⟨by simp[h.1],fun j x v hx hv hd=> ?_⟩
 rw[List.getElem?_take]at hx hv
 split at hx
 ·rename_i hj
  rw[if_pos hj]at hv
  exact h.2 j x v hx hv hd
 ·cases hx
theorem AL0.drop{l:List At}{vs:List Value}(n:Nat)(h:AL0 μ w l vs):AL0 μ w (l.drop n) (vs.drop n):=by
 refine ⟨by simp[h.1],fun j x v hx hv hd=> ?_⟩
 rw[List.getElem?_drop]at hx hv
 exact h.2 _ x v hx hv hd
theorem AL0.single{x:At}{vs:List Value}(hd:x.dep=none)(h:AL0 μ w [x] vs): ∃v,vs=[v]∧AR μ w x v:=by
 have h1:=h.1
 match vs,h1 with
 |[v],_=>exact ⟨v,rfl,h.2 0 x v rfl rfl hd⟩
structure Less (μ μ':List ORec):Prop where
 len:μ'.length=μ.length
 at_: ∀(i:Nat) r',μ'[i]? =some r'→ ∃r,μ[i]? =some r∧r'.v=r.v∧r'.blk=r.blk∧ ∀k,r'.ok k→r.ok k
 dep: ∀x v w,x.dep=none→AR μ w x v→AR μ' w x v
theorem Less.refl(μ:List ORec):Less μ μ:=⟨rfl,fun i r h=>⟨r,h,rfl,rfl,fun _ h=>h⟩,fun _ _ _ _ h=>h⟩
theorem Less.trans{μ'':List ORec}(h:Less μ μ')(h':Less μ' μ''):Less μ μ'':=
 ⟨h'.len.trans h.len, (fun i r2 h2 => by
  obtain ⟨r1,g1,e1,e2,e3⟩:=h'.at_ i r2 h2
  obtain ⟨r0,g0,f1,f2,f3⟩:=h.at_ i r1 g1
  exact ⟨r0,g0,e1.trans f1,e2.trans f2,fun k hk=>f3 k (e3 k hk)⟩),fun x v w hd hx=>h'.dep x v w hd (h.dep x v w hd hx)⟩
theorem Less.off(μ:List ORec)(i:Nat):Less μ (offAt μ i):=
 ⟨by simp[offAt],(fun j r hr=>by
  obtain ⟨r0,h0,h1,h2,h3⟩:=Z5G hr
  refine ⟨r0,h0,h1,h2,fun k hk=> ?_⟩
  rcases h3 with ⟨_,h3⟩|⟨_,rfl⟩
  ·exact absurd hk (h3 k)
  ·exact hk),(fun x v w hd hx=>by
  have:=hx.off i
  rwa [At.kill,if_neg (by rw[hd];simp)]at this)⟩
theorem AL0.less(hl:Less μ μ'){l:List At}{vs:List Value}(h:AL0 μ w l vs):AL0 μ' w l vs:=⟨h.1,fun j x v hx hv hd=>hl.dep x v w hd (h.2 j x v hx hv hd)⟩
structure Taken (S0:Own) (w0 w:World) (μ':List ORec) (S:Nat→Prop):Prop where
 new: ∀k,S k→S0.gv k∨w0.heap.size≤k
 lt: ∀k,S k→k<w.heap.size
 apart: ∀(i:Nat) r,μ'[i]? =some r→ ∀k,S k→ ¬r.ok k
theorem Taken.none(S0:Own)(w0 w:World)(μ':List ORec):Taken S0 w0 w μ' (fun _=>False):=⟨fun _ h=>h.elim,fun _ h=>h.elim,fun _ _ _ _ h=>h.elim⟩
theorem Taken.less{S:Nat→Prop}(h:Taken S0 w0 w μ S)(hl:Less μ μ'):Taken S0 w0 w μ' S:=⟨h.new,h.lt,fun i r hr k hk h2=>by
 obtain ⟨r0,g0,_,_,g3⟩:=hl.at_ i r hr
 exact h.apart i r0 g0 k hk (g3 k h2)⟩
theorem Z9b: ∀{t:Ty} {st st':St} {μ:List ORec} {l:List At} {vs:List Value} {x:t.D},Rel w0 S0 st μ a w→AL0 μ w l vs→takeTree t st l=some (x,st')→
  ∃μ' S,Rel w0 S0 st' μ' a w∧Less μ μ'∧Taken S0 w0 w μ' S∧(∀k,S k→ ∃(i:Nat) (r:ORec),μ[i]? =some r∧r.ok k)∧Rep t w S x vs
 | .int k,st,st',μ,l,vs,x,h,hl,hr=>by
  match l,hr with
  | [.int k' n], hr =>
   simp only[takeTree]at hr
   split at hr
   ·rename_i hk; subst hk; injection hr with hr; injection hr with h1 h2; subst h1 h2
    obtain ⟨v,rfl,hv⟩:=hl.single rfl
    exact ⟨μ,_,h,.refl μ,.none _ _ _ _,fun _ h=>h.elim,by rw[show v=_ from hv];rfl⟩
   ·cases hr
 | .bool,st,st',μ,l,vs,x,h,hl,hr=>by
  match l,hr with
  | [.bool n], hr =>
   simp only[takeTree]at hr
   injection hr with hr;injection hr with h1 h2;subst h1 h2
   obtain ⟨v,rfl,hv⟩:=hl.single rfl
   exact ⟨μ,_,h,.refl μ,.none _ _ _ _,fun _ h=>h.elim,by rw[show v=_ from hv];rfl⟩
 | .str,st,st',μ,l,vs,x,h,hl,hr=>by
  match l,hr with
  | [.str n], hr =>
   simp only[takeTree]at hr
   injection hr with hr;injection hr with h1 h2;subst h1 h2
   obtain ⟨v,rfl,hv⟩:=hl.single rfl
   exact ⟨μ,_,h,.refl μ,.none _ _ _ _,fun _ h=>h.elim,by rw[show v=_ from hv];rfl⟩
 | .pair t u,st,st',μ,l,vs,x,h,hl,hr=>by
  simp only[takeTree]at hr
  split at hr
  ·rename_i y st1 hy
   split at hr
   ·rename_i z st2 hz
    injection hr with hr;injection hr with h1 h2;subst h1 h2
    obtain ⟨μ1,Sa,r1,l1,t1,o1,p1⟩:=Z9b h (hl.take t.sz) hy
    obtain ⟨μ2,Sb,r2,l2,t2,o2,p2⟩:=Z9b r1 ((hl.drop t.sz).less l1) hz
    refine ⟨μ2,fun k=>Sa k∨Sb k,r2,l1.trans l2,⟨fun k hk=>hk.elim (t1.new k) (t2.new k),fun k hk=>hk.elim (t1.lt k) (t2.lt k),fun i r hr k hk=>hk.elim ((t1.less l2).apart i r hr k) (t2.apart i r hr k)⟩,fun k hk=> ?_,?_⟩
    ·rcases hk with hk | hk
     ·exact o1 k hk
     ·obtain ⟨i, r, hr, h3⟩ := o2 k hk
      obtain ⟨r0,g0,_,_,g3⟩:=l1.at_ i r hr
      exact ⟨i,r0,g0,g3 k h3⟩
    ·exact ⟨_, _, Sa, Sb, (List.take_append_drop _ _).symm, p1, p2, fun k hk => ⟨.inl hk, fun h3 => by
      obtain ⟨i,r,hr,h4⟩:=o2 k h3
      exact t1.apart i r hr k hk h4⟩,fun k hk=> .inr hk⟩
   ·cases hr
  ·cases hr
 | .slice e t,st,st',μ,l,vs,x,h,hl,hr=>by
  match l,hr with
  | [y], hr =>
   simp only[takeTree]at hr
   split at hr
   ·injection hr with hr; injection hr with h1 h2; subst h1 h2
    obtain ⟨v,rfl,hv⟩:=hl.single rfl
    exact ⟨μ,_,h,.refl μ,.none _ _ _ _,fun _ h=>h.elim,v,rfl,by rw[show v=_ from hv];exact Rep.nils _ _ _ _ _⟩
   ·rename_i i
    split at hr
    ·rename_i e' t' xs ho
     split at hr
     ·rename_i ht
      subst ht
      split at hr
      ·rename_i he
       subst he
       injection hr with hr;injection hr with h1 h2;subst h1 h2
       obtain ⟨v,rfl,r,hr,rfl,_⟩:=hl.single rfl
       refine ⟨offAt μ i,r.ok,h.die i,.off μ i,⟨h.fr i _ _ _ r ho hr,h.lt i r hr,fun j q hq k hk h2=> ?_⟩,fun k hk=>⟨i,r,hr,hk⟩,_,rfl,h.ob i _ r ho hr⟩
       obtain ⟨q0,g0,_,_,g3⟩:=Z5G hq
       rcases g3 with ⟨_,g3⟩|⟨hj,rfl⟩
       ·exact g3 k h2
       ·exact h.dj i j _ r q (Ne.symm hj) ho rfl hr g0 k hk h2
      ·cases hr
     ·cases hr
    ·cases hr
   ·cases hr
theorem ZpS{S:Nat→Prop}: ∀{t:Ty} {x y:t.D} {f:Nat} {c:At} {v:Value} {cs:List Value},Rep t w S x cs→AR μ w c v→setLeaf t x f c=some y→Rep t w S y (cs.set f v)
 | .int k,x,y,f,c,v,cs,hx,hc,hr=>by
  match f,c,hr with
  |0,.int k' n,hr=>
   simp only[setLeaf]at hr
   split at hr
   ·rename_i hk; subst hk; injection hr with hr; subst hr
    rw[show cs=_ from hx,show v=_ from hc];rfl
   ·cases hr
 | .bool,x,y,f,c,v,cs,hx,hc,hr=>by
  match f,c,hr with
  |0,.bool n,hr=>
   simp only[setLeaf]at hr
   injection hr with hr;subst hr
   rw[show cs=_ from hx,show v=_ from hc];rfl
 | .str,x,y,f,c,v,cs,hx,hc,hr=>by
  match f,c,hr with
  |0,.str n,hr=>
   simp only[setLeaf]at hr
   injection hr with hr;subst hr
   rw[show cs=_ from hx,show v=_ from hc];rfl
 | .pair t u,x,y,f,c,v,cs,hx,hc,hr=>by
  simp only[setLeaf]at hr
  obtain ⟨c0,c1,Sa,Sb,rfl,h0,h1,h2,h3⟩:=hx
  have hl:=h0.len
  split at hr
  ·rename_i hf
   split at hr
   ·rename_i z hz
    injection hr with hr;subst hr
    rw[List.set_append_left _ _ (by omega)]
    exact ⟨_,_,Sa,Sb,rfl,ZpS h0 hc hz,h1,h2,h3⟩
   ·cases hr
  ·rename_i hf
   split at hr
   ·rename_i z hz
    injection hr with hr;subst hr
    rw[List.set_append_right _ _ (by omega),hl]
    exact ⟨_,_,Sa,Sb,rfl,h0,ZpS h1 hc hz,h2,h3⟩
   ·cases hr
 | .slice e t,x,y,f,c,v,cs,hx,hc,hr=>by
  unfold setLeaf at hr
  cases f<;>cases c<;>cases hr
def setRun:List Value→Nat→List Value→List Value
 |cs,_,[]=>cs
 |cs,f,v::vs=>setRun (cs.set f v) (f+1) vs
theorem Zvh{S:Nat→Prop}{t:Ty}: ∀{l:List At} {x y:t.D} {f:Nat} {vs:List Value} {cs:List Value},Rep t w S x cs→AL μ w l vs→setLeaves t x f l=some y→Rep t w S y (setRun cs f vs)
 | [], x, y, f, vs, cs, hx, hl, hr => by
  simp only[setLeaves]at hr
  injection hr with hr;subst hr
  obtain rfl:vs=[]:=List.eq_nil_of_length_eq_zero hl.1
  exact hx
 |c::l,x,y,f,vs,cs,hx,hl,hr=>by
  simp only[setLeaves]at hr
  split at hr
  ·rename_i z hz
   match vs,hl with
   |[],hl=>exact absurd hl.1 (by simp)
   |v::vs,hl=>
    have h1:AR μ w c v:=hl.2 0 c v rfl rfl
    have h2:AL μ w l vs:=⟨by simpa using hl.1,fun j x u hx hu=>hl.2 (j+1) x u hx hu⟩
    show Rep t w S y (setRun (cs.set f v) (f+1) vs)
    exact Zvh (ZpS hx h1 hz) h2 hr
  ·cases hr
theorem SR.cells_sound{x:SV}{v:Value}{l:List At}(h:SR μ w x v)(hl:x.cells=some l):AL μ w l v.cells.toList:=by
 cases x with
 |«at» y=>
  simp only[SV.cells]at hl
  split at hl
  ·cases hl
  ·rename_i hu
   injection hl with hl
   subst hl
   rcases h.2 with rfl|h2
   ·simp[At.isUn]at hu
   ·rw[h2];exact .one h.1
 |agg m=>
  simp only[SV.cells]at hl
  injection hl with hl
  subst hl
  obtain ⟨vs,rfl,h⟩:=h
  simpa[Value.cells]using h
theorem TR.cells_sound{x:TV}{v:Value}{l:List At}(h:TR μ w x v)(hl:x.cells=some l):AL μ w l v.cells.toList:=by
 cases x with
 |sv y=>exact SR.cells_sound h hl
 |tup m=>cases hl
theorem TR.atom_sound{x:TV}{v:Value}(h:TR μ w x v):AR μ w x.atom v:=by
 cases x with
 |sv y=>
  cases y with
  |«at» y=>exact h.1
  |agg l=>trivial
 |tup l=>trivial
theorem AR.oneCell{x:At}{v:Value}(h:AR μ w x v)(hu:x.isUn=false):v.oneCell'=true∧v.cells= #[v]:=by
 cases x with
 |un=>cases hu
 |int k n=>rw[show v=_ from h];exact ⟨rfl,rfl⟩
 |bool=>rw[show v=_ from h];exact ⟨rfl,rfl⟩
 |str=>rw[show v=_ from h];exact ⟨rfl,rfl⟩
 |nils=>rw[show v=_ from h];exact ⟨rfl,rfl⟩
 |inn i j=>obtain ⟨r,A,n,c,_,_,_,_,_,_,A',m,c',hv⟩:=h;rw[hv];exact ⟨rfl,rfl⟩
 |snap i t xs=>obtain ⟨r,_,A,c,hv,_⟩:=h;rw[hv];exact ⟨rfl,rfl⟩
 |ptr i f=>obtain ⟨r,_,hv⟩:=h;rw[hv];exact ⟨rfl,rfl⟩
 |ep i t j f=>obtain ⟨r,A,n,c,_,_,_,_,hv⟩:=h;rw[hv];exact ⟨rfl,rfl⟩
 |es i t x f=>obtain ⟨r,A,cs,_,_,hv,_⟩:=h;rw[hv];exact ⟨rfl,rfl⟩
 |sl i=>obtain ⟨r,hr,hv,A,n,c,hs⟩:=h;rw[hs];exact ⟨rfl,rfl⟩
 |mp i=>obtain ⟨r,_,hv⟩:=h;rw[hv];exact ⟨rfl,rfl⟩
 |gp g f=>rw[show v=_ from h];exact ⟨rfl,rfl⟩
 |cv i=>obtain ⟨r,_,hv,f,vs,hs⟩:=h;rw[hs];exact ⟨rfl,rfl⟩
 |pc i j=>obtain ⟨r,q,g,_,_,_,hv,_⟩:=h;rw[hv];exact ⟨rfl,rfl⟩
 |inf i q t f=>obtain ⟨r,A,n,c,_,_,_,_,_,_,A',m,c',hv⟩:=h;rw[hv];exact ⟨rfl,rfl⟩
 |ip i q t n f=>obtain ⟨r,a,m,c,b,m',c',_,_,_,_,_,_,_,_,hv⟩:=h;rw[hv];exact ⟨rfl,rfl⟩
 |app i j t xs=>obtain ⟨r,hr,g,off,n,c,e,cur,_,_,_,_,_,_,⟨A,m,c',hs⟩,_⟩:=h;rw[hs];exact ⟨rfl,rfl⟩
end
end
section
def zval(i:TI):Value:=if i.isAgg then .agg (zcells i.ty).toArray else (zcells i.ty).headD undef
def fieldsOf:TypeDesc→Option (List (Nat×TypeId))
 | .struct fs=>some (fs.toList.map fun f=>(f.offset,f.type))|_=>none
def scalDesc:Ty→Option TypeDesc
 | .int k=>some (.int k)| .bool=>some .bool| .str=>some .string|_=>none
structure TyOK (P:Program) (t:TypeId) (i:TI):Prop where
 info:(P.info? t).map (fun x=>(x.zero,x.size,x.bytes))=some (some (zval i),i.ty.sz,i.bytes)
 pos:0<i.bytes
 one:i.isAgg=false→i.ty.sz=1
 desc:match i.d with
  | .scal=> ∃d,scalDesc i.ty=some d∧P.underlying t=some d
  | .slice e=>P.underlying t=some (.slice e)
  | .arr n e=>P.underlying t=some (.array n e)
  | .struct fs=>(P.underlying t).bind fieldsOf=some fs∧ ∀p∈fs,∃x,P.info? p.2=some x∧x.size≠0
  | .map _ _ _ _=>False
  | .fn=>False
 eqs:i.eqs=true→ ∀(xs ys:List Int),xs.length=i.ty.sz→ys.length=i.ty.sz→ ∀(x y:Operand) (op:BinOp),op= .eql∨op= .neq→ ∀w:World,
  ((do eqGuard op t x y (.agg (xs.map (Value.int .i64)).toArray) (.agg (ys.map (Value.int .i64)).toArray);binOp op t (.agg (xs.map (Value.int .i64)).toArray) (.agg (ys.map (Value.int .i64)).toArray)):Sem Value).run P w= .ok (.bool (if op= .eql then decide (xs=ys) else !decide (xs=ys))) w
def findIx(ks:List Int):List MapEntry→List (List Int)→Nat→Option (Nat×Value)
 |e::es,x::E,i=>if x=ks then some (i,e.val) else findIx ks es E (i+1)
 |_,_,_=>none
structure KeyLaw (P:Program) (k:TypeId) (ag:Bool) (n:Nat):Prop where
 check: ∀(w:World) (em:Bool) (ks:List Int),ks.length=n→(Instr.checkKey em 10000 k (keyV ag ks)).run P w= .ok () w
 find: ∀(w:World) (ks:List Int) (es:List MapEntry) (E:List (List Int)),ks.length=n→(∀x∈E,x.length=n)→es.map (·.key)=E.map (keyV ag)→(Instr.findKey k (keyV ag ks) es).run P w= .ok (findIx ks es E 0) w
 stays: ∀(w:World) (ks:List Int),ks.length=n→(Instr.keyThatStays (keyV ag ks) (keyV ag ks)).run P w= .ok (keyV ag ks) w
structure MapOK (P:Program) (t:TypeId) (m:TypeId×TypeId×Bool×Nat):Prop where
 und:P.underlying t=some (.map m.1 m.2.1)
 law:KeyLaw P m.1 m.2.2.1 m.2.2.2
structure FnTy (P:Program) (t:TypeId):Prop where
 und: ∃ps rs v,P.underlying t=some (.func ps rs v)
 info:(P.info? t).map (fun x=>(x.zero,x.size))=some (some .nilFunc,1)
def TTok(P:Program)(T:TT):Prop:=(∀t i,T.get t=some i→TyOK P t i)∧(∀t m,T.mapOf t=some m→MapOK P t m)∧ ∀t,T.isFn t=true→FnTy P t
section
variable {P:Program} {w w1 w0:World} {S0:Own} {st:St} {μ:List ORec} {a:Act} {t:TypeId} {i:TI}
theorem TyOK.get(h:TyOK P t i): ∃x,P.info? t=some x∧x.zero=some (zval i)∧x.size=i.ty.sz∧x.bytes=i.bytes:=by
 obtain ⟨x,hx,he⟩:=Option.map_eq_some_iff.1 h.info
 injection he with h1 h2
 injection h2 with h2 h3
 exact ⟨x,hx,h1,h2,h3⟩
theorem TyOK.zcell(h:TyOK P t i):(zval i).cells.toList=zcells i.ty:=by
 unfold zval
 split
 ·rfl
 ·rename_i ha
  have h1:=h.one (by simpa using ha)
  have h2:=ZlV i.ty
  rw[h1]at h2
  have h3:=Zrs i.ty
  match hz:zcells i.ty,h2 with
  |[v],_=>
   have h4:=h3 v (by rw[hz];simp)
   show (Value.cells v).toList=[v]
   cases v<;>first|rfl|cases h4
theorem TyOK.agg(h:TyOK P t i)(w:World):(isAgg t).run P w= .ok i.isAgg w:=by
 have hd:=h.desc
 unfold TI.isAgg
 unfold isAgg
 rw[Sem.run_bind]
 cases hi:i.d with
 |scal=>
  rw[hi]at hd
  obtain ⟨d,h2,h1⟩:=hd
  rw[run_underlying h1]
  cases hty:i.ty<;>rw[hty]at h2<;>simp[scalDesc]at h2<;>subst h2<;>rfl
 |slice e=>
  rw[hi]at hd
  rw[run_underlying hd]
  rfl
 |arr n e=>
  rw[hi]at hd
  rw[run_underlying hd]
  rfl
 |struct fs=>
  rw[hi]at hd
  obtain ⟨d,h1,h2⟩:=Option.bind_eq_some_iff.1 hd.1
  rw[run_underlying h1]
  cases d<;>first|rfl|cases h2
 |map k e ag n=>rw[hi]at hd;exact hd.elim
 |fn=>rw[hi]at hd;exact hd.elim
theorem Zrc(h:TyOK P t i)(w:World):(sizeOf t).run P w= .ok i.ty.sz w:=by
 obtain ⟨x,hx,_,hs,_⟩:=h.get
 simp[sizeOf,typeInfo,hx,hs]
theorem ZV9(h:TyOK P t i)(w:World):(zeroValue t).run P w= .ok (zval i) w:=by
 obtain ⟨x,hx,hz,_,_⟩:=h.get
 simp[zeroValue,typeInfo,hx,hz]
def packV(i:TI)(cs:List Value):Value:=if i.isAgg then .agg cs.toArray else cs.headD undef
theorem Zx9(h:TyOK P t i)(ad:Addr)(cs:List Value)(hl:cs.length=i.ty.sz)(hc: ∀j v,cs[j]? =some v→w.cell? (ad.add j)=some v):(loadVar t ad).run P w= .ok (packV i cs) w:=by
 unfold loadVar packV
 rw[Sem.run_bind,h.agg]
 simp only[Result.andThen_ok]
 cases ha:i.isAgg with
 |true=>
  have:=run_loadCells_list (P:=P) w ad cs hc
  simp[Sem.run_bind,Zrc h,←hl,this]
 |false=>
  have h1:=h.one ha
  rw[h1]at hl
  match cs,hl with
  |[v],_=>
   have:=hc 0 v rfl
   rw[show ad.add 0=ad from by simp[Addr.add]]at this
   simp[this]
theorem ZRt{l:List At}{cs:List Value}(hi:i.isAgg=false→i.ty.sz=1)(hl:l.length=i.ty.sz)(h:AL μ w l cs):TR μ w (mkV i l) (packV i cs):=by
 unfold mkV packV
 split
 ·exact ⟨cs, rfl, h⟩
 ·rename_i ha
  have h1:=hi (by simpa using ha)
  rw[h1]at hl
  match l,hl with
  |[x],_=>
   obtain ⟨v,rfl,hv⟩:=h.single
   refine ⟨hv,?_⟩
   cases hu:x.isUn with
   |true=>left;cases x<;>first|rfl|cases hu
   |false=>right;exact (hv.oneCell hu).2
theorem ZTS(v:Value):AR μ w (ofV1 v) v:=by
 unfold ofV1
 split<;>first|rfl|trivial
theorem ZVV(v:Value):SR μ w (.at (ofV1 v)) v:=by
 refine ⟨ZTS v,?_⟩
 unfold ofV1
 split<;>first|(left;rfl)|(right;rfl)
theorem ZWN(v:Value):TR μ w (ofV v) v:=by
 unfold ofV
 split
 ·rename_i cs
  refine ⟨cs.toList,by simp,by simp,fun j x u hx hu=> ?_⟩
  rw[List.getElem?_map,hu]at hx
  simp at hx
  subst hx
  exact ZTS u
 ·exact ZVV _
theorem Rel.ev(h:Rel w0 S0 st μ a w)(x:Operand):TR μ w (st.ev x) (a.eval x):=by
 cases x with
 |tmp t=>
  simp only[St.ev,Act.eval,List.getD]
  cases hx:st.tmps[t]? with
  |some y=>exact h.tv t y hx
  |none=>exact ⟨trivial,.inl rfl⟩
 |const v=>exact ZWN v
 |global g=>exact ⟨rfl,.inr rfl⟩
 |func f=>exact ⟨trivial,.inl rfl⟩
theorem Rel.at(h:Rel w0 S0 st μ a w){x:Operand}{y:At}(hx:st.ev x= .sv (.at y)):AR μ w y (a.eval x):=by
 have:=h.ev x
 rw[hx]at this
 exact this.1
theorem Rel.atom(h:Rel w0 S0 st μ a w)(x:Operand):AR μ w (st.ev x).atom (a.eval x):=TR.atom_sound (h.ev x)
variable {o:Oper} {next:Act→World→Prop} {Q:Exit→Act→World→Prop} {v:Value} {β:Type} {K:St→Option β} {r:β}
theorem ZmM(h:(execOp a.eval o).run P w= .ok (.value v) w1)(hn:next (a.put o.dst v) w1):o.wp P a w next Q:=by
 unfold Oper.wp
 rw[h]
 exact hn
theorem ZTD(h:(execOp a.eval o).run P w= .ok .skip w1)(hn:next (a.put o.dst undef) w1):o.wp P a w next Q:=by
 unfold Oper.wp
 rw[h]
 exact hn
def Nx(w0:World)(S0:Own)(K:St→Option β)(r:β)(a':Act)(w':World):Prop:= ∃st' μ',Rel w0 S0 st' μ' a' w'∧K st'=some r
def Same(w w1:World):Prop:=Chg w w1 (fun _=>False)
theorem Same.refl(w:World):Same w w:=Chg.refl w _
theorem ZPs(h:Same w w1){ad:Addr}{v:Value}(hc:w.cell? ad=some v):w1.cell? ad=some v:=by
 refine Zfu (h.block _ ?_ (fun hf=>hf)) hc
 unfold World.cell? at hc
 rcases Nat.lt_or_ge ad.block w.heap.size with hl|hl
 ·exact hl
 ·rw[Array.getElem?_eq_none hl]at hc;cases hc
def isLoad:Op→Bool
 | .load _ _=>true| .lookup _ _ _ _=>true| .convert _ d _=>convS d
 | .call c=>match c.callee with| .builtin .len=>true|_=>false
 |_=>false
def Went(P:Program)(o:Oper)(a:Act)(w:World)(next:Act→World→Prop):Prop:= ∃v,(∀w',(isLoad o.op=true→Same w w')→(execOp a.eval o).run P w'= .ok (.value v) w')∧next (a.put o.dst v) w
theorem Went.wp(h:Went P o a w next):o.wp P a w next Q:=by
 obtain ⟨v,h1,h2⟩:=h
 exact ZmM (h1 w (fun _=> .refl w)) h2
theorem Z3o(h:Rel w0 S0 st μ a w){x:TV}(hr: ∀w',(isLoad o.op=true→Same w w')→(execOp a.eval o).run P w'= .ok (.value v) w')(hx:TR μ w x v)(hk:K (st.put o.dst x)=some r):Went P o a w (Nx w0 S0 K r):=
 ⟨_,hr,_,μ,h.put o.dst hx,hk⟩
def Nxs(w0:World)(S0:Own)(w:World)(K:St→Option β)(r:β)(a':Act)(w':World):Prop:=Nx w0 S0 K r a' w'∧Same w w'
theorem ZVY(h:o.wp P a w (Nxs w0 S0 w K r) Q):o.wp P a w (Nx w0 S0 K r) Q:=Oper.wp_mono (fun _ _ hn=>hn.1) h
theorem Went.still(h:Went P o a w (Nx w0 S0 K r)):o.wp P a w (Nxs w0 S0 w K r) Q:=by
 obtain ⟨v,h1,h2⟩:=h
 exact ZmM (h1 w (fun _=> .refl w)) ⟨h2,.refl w⟩
theorem Rel.fresh(h:Rel w0 S0 st μ a w)(hc:Chg w w1 (fun _=>False)){o:Ob}{q:ORec}(hk: ∀k,q.ok k→w.heap.size≤k∧k<w1.heap.size)(ho:OR (μ++[q]) w1 o q):Rel w0 S0 (st.push o) (μ++[q]) a w1:=by
 have h1:=h.world hc (fun _ _ _ _ _ hf=>hf) (fun _ hf=>hf.elim)
 have hs:=h.kp.size
 refine h1.push ho (fun _ j rj hj k hk1 hk2=> ?_) (fun j oj rj _ _ hj k hk1 hk2=> ?_) (fun _ k hk1=> .inr ?_) (fun _ _ _ _ k hk1=> ?_) (fun k hk1=>(hk k hk1).2) (.inr (fun k hk1=> .inr (.inr (by have:=(hk k hk1).1;omega))))
 ·have:=(hk k hk1).1;have:=h.lt j rj hj k hk2;omega
 ·have:=(hk k hk2).1;have:=h.lt j rj hj k hk1;omega
 ·have:=(hk k hk1).1;omega
 ·have:=(hk k hk1).1;omega
theorem Rel.mk1{o':Ob}{q:ORec}(h:Rel w0 S0 (st.push o') (μ++[q]) a w)(dst:Option Tmp){x:At}(hx:AR (μ++[q]) w x v)(hv:v.cells= #[v]):Rel w0 S0 (st.mk1 dst o' x) (μ++[q]) (a.put dst v) w:=
 h.put dst (x:= .sv (.at x)) ⟨hx,.inr hv⟩
theorem ZfY(μ:List ORec)(q:ORec):(μ++[q])[μ.length]? =some q:=by simp
theorem ZK2(w:World)(o:Obj):(w.alloc o).heap[w.heap.size]? =some o:=by show (w.heap.push o)[w.heap.size]? =some o;simp
theorem Zr6(w:World)(o:Obj):(w.alloc o).heap.size=w.heap.size+1:=by show (w.heap.push o).size=_;simp
theorem ZOK(h:Rel w0 S0 st μ a w){e:TypeId}{l:List At}{vs:List Value}(hl:AL μ w l vs)(h1: ∀u∈vs,u.oneCell'=true):
  Rel w0 S0 (st.push (.box e l)) (μ++[⟨undef,w.heap.size,fun k=>k=w.heap.size⟩]) a (w.alloc (.cells vs.toArray e)):=by
 refine h.fresh (.alloc w _ _) (fun k hk=>by rw[show k=_ from hk,Zr6];exact ⟨Nat.le_refl _,Nat.lt_succ_self _⟩) ⟨rfl,vs,by rw[ZK2],?_,h1⟩
 have hA: ∀x v,AR μ w x v→AR μ (w.alloc (.cells vs.toArray e)) x v:=fun x v hx=>hx.move (fun i r _ hr k hk=>(Chg.alloc w _ (fun _=>False)).block k (h.lt i r hr k hk) (fun hf=>hf))
 exact hl.imp id (by simp) (fun x v _ hx=>(hA x v hx).more (fun i q hq=>by rw[List.getElem?_append_left (List.getElem?_eq_some_iff.1 hq).1];exact hq))
theorem ZV6{dst:Option Tmp}(T:TT)(hT:TTok P T)(h:Rel w0 S0 st μ a w)(ho:o.op= .alloc t)(hi:T.get t=some i)(hd:o.dst=dst)(hk:K (st.mk1 dst (.box t (zatoms i.ty)) (.ptr st.objs.length 0))=some r):o.wp P a w (Nxs w0 S0 w K r) Q:=by
 have ok:=hT.1 t i hi
 have hrun:(execOp a.eval o).run P w= .ok (.value (.pointer (some ⟨w.heap.size,0,none⟩))) (w.alloc (.cells (zcells i.ty).toArray t)):=by
  have hz:(zval i).cells=(zcells i.ty).toArray:=by rw[←ok.zcell]
  unfold execOp
  simp only[ho,Instr.alloc,Sem.run_bind,ZV9 ok,Result.andThen_ok,newVar,newRow,run_newObj,Sem.run_pure,hz]
  rfl
 subst hd
 refine ZmM hrun ⟨⟨_,_,(ZOK h (AL.zero i.ty) (Zrs i.ty)).mk1 o.dst (x:= .ptr st.objs.length 0) ?_ rfl,hk⟩,.alloc w _ _⟩
 rw[←h.len]
 exact ⟨_,ZfY _ _,rfl⟩
theorem ZWD{x:Operand}{l:List At}(h:Rel w0 S0 st μ a w)(ho:o.op= .box t x)(hl:(st.ev x).cells=some l)(hu:l.all (fun y=> !y.isUn)=true)(hk:K (st.mk1 o.dst (.box t l) (.ptr st.objs.length 0))=some r):o.wp P a w (Nxs w0 S0 w K r) Q:=by
 have hA:=TR.cells_sound (h.ev x) hl
 have hrun:(execOp a.eval o).run P w= .ok (.value (.pointer (some ⟨w.heap.size,0,none⟩))) (w.alloc (.cells ((a.eval x).cells.toList).toArray t)):=by
  unfold execOp
  simp only[ho,Instr.box,Sem.run_bind,Result.andThen_ok,newVar,newRow,run_newObj,Sem.run_pure,Array.toArray_toList]
  rfl
 have h1: ∀u∈(a.eval x).cells.toList,u.oneCell'=true:=by
  intro u hu2
  obtain ⟨j,hj⟩:=List.getElem?_of_mem hu2
  have hjl:j<l.length:=by rw[←hA.1];exact (List.getElem?_eq_some_iff.1 hj).1
  have hx:=hA.2 j l[j] u (List.getElem?_eq_getElem hjl) hj
  refine (hx.oneCell ?_).1
  have:=List.all_eq_true.1 hu l[j] (List.getElem_mem hjl)
  simpa using this
 refine ZmM hrun ⟨⟨_,_,(ZOK h hA h1).mk1 o.dst (x:= .ptr st.objs.length 0) ?_ rfl,hk⟩,.alloc w _ _⟩
 rw[←h.len]
 exact ⟨_,ZfY _ _,rfl⟩
theorem ZMb{k:IntKind}: ∀{l:List At} {ns:List Int},intsOf k l=some ns→l=ns.map (At.int k)
 | [], ns, h => by injection h with h; subst h; rfl
 |x::l,ns,h=>by
  simp only[intsOf]at h
  split at h
  ·split at h
   ·rename_i hk
    split at h
    ·rename_i ns' hns
     injection h with h
     subst h hk
     rw[ZMb hns]
     rfl
    ·cases h
   ·cases h
  ·cases h
theorem ZLT{i:TI}{cells:List At}{k:IntKind}{ns:List Int}(h:dynInt i cells=some (k,ns)):i.ty= .int k∧i.isAgg=false∧cells=ns.map (At.int k):=by
 unfold dynInt at h
 split at h
 ·rename_i k' hty
  split at h
  ·rename_i hc
   split at h
   ·rename_i ns' hns
    injection h with h
    injection h with h1 h2
    subst h1 h2
    exact ⟨hty,hc.2,ZMb hns⟩
   ·cases h
  ·cases h
 ·cases h
theorem ZFp(k:IntKind)(ns:List Int): ∀(r pre:List Int),ns.length=(pre++r).length→cellsFrom k ns pre.length r=(ns.drop pre.length).map (At.int k)
 |[],pre,h=>by
  rw[List.append_nil]at h
  rw[List.drop_of_length_le (by omega)]
  rfl
 |x::r,pre,h=>by
  have h1:pre.length<ns.length:=by rw[h];simp
  have ih:=ZFp k ns r (pre++[x]) (by simpa using h)
  simp only[List.length_append,List.length_cons,List.length_nil,Nat.zero_add]at ih
  simp only[cellsFrom]
  rw[ih,List.drop_eq_getElem_cons h1,List.map_cons]
  congr 1
  simp only[List.getD,List.getElem?_eq_getElem h1,Option.getD_some]
theorem ZSe{β:Type}{i:TI}{cells:List At}{f:Nat}{l:List At}{K:List At→Option β}{r:β}(h:setCells i cells f l K=some r):f+l.length≤cells.length∧K (At.setw cells f l)=some r:=by
 unfold setCells at h
 split at h
 ·rename_i k ns hd
  obtain ⟨_,_,rfl⟩:=ZLT hd
  split at h
  ·rename_i k' m
   split at h
   ·rename_i hk
    subst hk
    split at h
    ·rename_i hf
     refine ⟨by simp;omega,?_⟩
     have hc:=ZFp k' (List.set ns f m) ns [] (by simp)
     simp only[List.length_nil,List.drop_zero]at hc
     rw[hc]at h
     have he:At.setw (ns.map (At.int k')) f [.int k' m]=(List.set ns f m).map (At.int k'):=by
      unfold At.setw
      rw[List.set_eq_take_append_cons_drop,if_pos hf]
      simp[List.map_take,List.map_drop]
     rw[he]
     exact h
    ·cases h
   ·cases h
  ·cases h
 ·split at h
  ·rename_i hle
   exact ⟨hle,h⟩
  ·cases h
theorem ZVI{p:Operand}{K:TV→Option β}{K':St→Option β}(T:TT)(hT:TTok P T)(h:Rel w0 S0 st μ a w)(ho:o.op= .load t p)(hi:T.get t=some i)(hk:opLoad i st (st.ev p).atom K=some r)(hK: ∀x,K x=some r→K' (st.put o.dst x)=some r):Went P o a w (Nx w0 S0 K' r):=by
  have ok := hT.1 t i hi
  have ha := h.atom p
  have fin : ∀ (ad : Addr) (cs : List Value) (l : List At), a.eval p = .pointer (some ad) → l.length = i.ty.sz → AL μ w l cs → (∀ j v, cs[j]? = some v → w.cell? (ad.add j) = some v) → K (mkV i l) = some r → Went P o a w (Nx w0 S0 K' r) := by
    intro ad cs l hp hl hA hc hk
    have hrun : ∀ w', (isLoad o.op = true → Same w w') → (execOp a.eval o).run P w' = .ok (.value (packV i cs)) w' := by
      intro w' hw0
      have hw := hw0 (by rw [ho]; rfl)
      unfold execOp
      simp only [ho, hp, Instr.loadAt, Instr.sureAddr, Sem.run_bind, Sem.run_pure, Result.andThen_ok, Zx9 ok ad cs (by rw [hA.1, hl]) (fun j v hj => ZPs hw (hc j v hj))]
    exact Z3o h hrun (ZRt ok.one hl hA) (hK _ hk)
  cases hx : (st.ev p).atom with
  |ptr j f=>
    rw [hx] at hk ha
    simp only [opLoad] at hk
    split at hk
    · rename_i e cells hob
      split at hk
      · rename_i kk ns hdyn
        obtain ⟨hty, hag, rfl⟩ := ZLT hdyn
        split at hk
        · rename_i hf
          obtain ⟨q, hq, hp⟩ := ha
          obtain ⟨_, vs, hb, hA, _⟩ := h.ob j _ q hob hq
          have hsz : i.ty.sz = 1 := by rw [hty]; rfl
          have hm : mkV i ((((ns.map (At.int kk)).drop f).take 1)) = .sv (.at (.int kk (List.getD ns f 0))) := by
            unfold mkV
            rw [hag, List.drop_eq_getElem_cons (by simpa using hf)]
            simp [List.getD, List.getElem?_eq_getElem hf]
          refine fin ⟨q.blk, f, none⟩ ((vs.drop f).take 1) (((ns.map (At.int kk)).drop f).take 1) hp (by simp; omega) ((hA.drop f).take _) (fun m v hm => ?_) (by rw [hm]; exact hk)
          rw [List.getElem?_take] at hm
          split at hm
          · rw [List.getElem?_drop] at hm
            rw [ZgF, ZlE hb]
            simpa using hm
          · cases hm
        · cases hk
      split at hk
      · rename_i hle
        obtain ⟨q, hq, hp⟩ := ha
        obtain ⟨_, vs, hb, hA, _⟩ := h.ob j _ q hob hq
        refine fin ⟨q.blk, f, none⟩ ((vs.drop f).take i.ty.sz) _ hp (by simp; omega) ((hA.drop f).take _) (fun m v hm => ?_) hk
        rw [List.getElem?_take] at hm
        split at hm
        · rw [List.getElem?_drop] at hm
          rw [ZgF, ZlE hb]
          simpa using hm
        · cases hm
      · cases hk
    · cases hk
  |ep j u q f=>
    rw [hx] at hk ha
    simp only [opLoad] at hk
    split at hk
    · rename_i fr e t' xs hob
      split at hk
      · rename_i ht
        subst ht
        obtain ⟨rec, ad, n, c, hrec, hv, h0, h1, hp⟩ := ha
        have hrow : RowRep (Rep t') t'.sz e w rec.ok xs rec.v := h.ob j _ rec hob hrec
        have hn : n = xs.length := by
          obtain ⟨inner, hqr, _⟩ := hrow
          obtain ⟨A', c', hv', _⟩ := ZaL hqr
          rw [hv] at hv'
          injection hv'
        have hj : q.toNat < xs.length := by omega
        obtain ⟨A, c', cs, hv', hs, hl, hcell, hrep⟩ := hrow.elem hj
        rw [hv] at hv'
        injection hv' with ha2 _ _
        injection ha2 with ha2
        subst ha2
        have hg : List.getD xs q.toNat t'.zero = xs[q.toNat] := by simp [List.getD, List.getElem?_eq_getElem hj]
        have gen : ∀ (hle : f + i.ty.sz ≤ t'.sz), K (mkV i (((atomsOf j t' (xs.getD q.toNat t'.zero)).drop f).take i.ty.sz)) = some r → Went P o a w (Nx w0 S0 K' r) := by
          intro hle hk
          rw [hg] at hk
          have hA := AL.of_rd hrec hrep.rd
          refine fin _ ((cs.drop f).take i.ty.sz) _ hp (by simp [← hA.1]; omega) ((hA.drop f).take _) (fun m v hm => ?_) hk
          rw [List.getElem?_take] at hm
          split at hm
          · rw [List.getElem?_drop] at hm
            have := hcell _ v hm
            rw [ZbQ, Nat.add_assoc]
            exact this
          · cases hm
        cases t' with
        |slice e2 t2=>
          simp only at hk
          split at hk
          · rename_i hf
            obtain ⟨rfl, hag⟩ := hf
            obtain ⟨u, rfl, hrow2⟩ := hrep
            have hc0 := hcell 0 u rfl
            simp only [Ty.sz, Nat.mul_one, Nat.add_zero] at hc0 hp
            have hrun : ∀ w', (isLoad o.op = true → Same w w') → (execOp a.eval o).run P w' = .ok (.value u) w' := by
              intro w' hw0
              have hw := hw0 (by rw [ho]; rfl)
              have hcs : ∀ j v, [u][j]? = some v → w'.cell? ((ad.add q.toNat).add j) = some v := by
                intro j v hjv
                cases j with
                | zero => simp at hjv; subst hjv; rw [ZbQ]; exact ZPs hw hc0
                |succ j=>simp at hjv
              have h2 := Zx9 ok (ad.add q.toNat) [u] (by rw [ok.one hag]; rfl) hcs
              unfold execOp
              simp only [ho, hp, Instr.loadAt, Instr.sureAddr, Sem.run_bind, Sem.run_pure, Result.andThen_ok, h2]
              simp [packV, hag]
            obtain ⟨inner, hqr, _⟩ := hrow2
            obtain ⟨A2, c2, hv2, _⟩ := ZaL hqr
            exact Z3o h hrun (x:= .sv (.at (.inn j q))) ⟨⟨rec,ad,n,c,hrec,hv,h0,h1,hs,hc0,A2,_,c2,hv2⟩,.inr (by rw[hv2];rfl)⟩ (hK _ hk)
          · cases hk
        | int k => simp only at hk; split at hk; · rename_i hle; exact gen hle hk
                   · cases hk
        | bool => simp only at hk; split at hk; · rename_i hle; exact gen hle hk
                  · cases hk
        | str => simp only at hk; split at hk; · rename_i hle; exact gen hle hk
                 · cases hk
        | pair u1 u2 => simp only at hk; split at hk; · rename_i hle; exact gen hle hk
                        ·cases hk
      · cases hk
    · cases hk
  |es j u x f=>
    rw [hx] at hk ha
    simp only[opLoad]at hk
    split at hk
    · rename_i hle
      obtain ⟨rec,ad,cs,hrec,hok,hp,hl,hcell,hrd⟩:=ha
      have hA:=AL.of_rd hrec hrd
      refine fin _ ((cs.drop f).take i.ty.sz) _ hp (by simp[←hA.1];omega) ((hA.drop f).take _) (fun m v hm=> ?_) hk
      rw [List.getElem?_take] at hm
      split at hm
      · rw [List.getElem?_drop] at hm
        rw[ZbQ]
        exact hcell _ v hm
      · cases hm
    · cases hk
  |gp g f=>
    rw [hx] at hk ha
    simp only[opLoad]at hk
    split at hk
    · rename_i xs hg
      split at hk
      · rename_i hc
        obtain ⟨hsz,hag⟩:=hc
        split at hk
        · rename_i hf
          have hgb:=((h.glob (T:=fun _=>False) (fun _ hf=>hf.elim)) g xs hg).2.2 f (xs.getD f ⟨#[]⟩) (by simp[List.getD,List.getElem?_eq_getElem hf])
          refine fin ⟨g,f,none⟩ [.string (xs.getD f ⟨#[]⟩)] [.str (xs.getD f ⟨#[]⟩)] ha (by rw[hsz];rfl) (AL.one rfl) (fun j v hj=> ?_) (by unfold mkV;rw[hag];exact hk)
          cases j with
          |zero=>simp at hj;subst hj;exact hgb
          |succ j=>simp at hj
        ·cases hk
      ·cases hk
    ·cases hk
  |_=>rw[hx]at hk;simp[opLoad]at hk
end
end
section
section
variable {P:Program} {w w1 w0:World} {S0:Own} {st:St} {μ:List ORec} {a:Act} {t:TypeId} {i:TI}
variable {o:Oper} {next:Act→World→Prop} {Q:Exit→Act→World→Prop} {v:Value} {β:Type} {K:St→Option β} {r:β}
def setw{α:Type}(l:List α)(f:Nat)(new:List α):List α:=l.take f++new++l.drop (f+new.length)
theorem Zsp{α:Type}{l new:List α}{f:Nat}(h:f+new.length≤l.length):(setw l f new).length=l.length:=by simp[setw];omega
theorem Z8P{α:Type}{l new:List α}{f:Nat}(h:f+new.length≤l.length)(j:Nat):(setw l f new)[j]? =if j<f then l[j]? else if j<f+new.length then new[j-f]? else l[j]? :=by
 unfold setw
 rw[List.append_assoc,List.getElem?_append,List.length_take,Nat.min_eq_left (by omega)]
 split
 ·rename_i hj
  rw[List.getElem?_take,if_pos hj]
 ·rename_i hj
  rw[List.getElem?_append]
  split
  ·rename_i hj2
   rw[if_pos (by omega)]
  ·rename_i hj2
   rw[if_neg (by omega),List.getElem?_drop]
   congr 1
   omega
theorem Zvl: ∀(vs cs:List Value) (f:Nat),f+vs.length≤cs.length→setRun cs f vs=setw cs f vs
 | [], cs, f, h => by simp [setRun, setw]
 |v::vs,cs,f,h=>by
  simp only[List.length_cons]at h
  show setRun (cs.set f v) (f+1) vs=_
  rw[Zvl vs (cs.set f v) (f+1) (by simp;omega)]
  apply List.ext_getElem?
  intro j
  rw[Z8P (by simp;omega),Z8P (by simp;omega)]
  simp only[List.length_cons,List.getElem?_set]
  by_cases h1 : j < f
  ·rw [if_pos (by omega), if_pos h1, if_neg (by omega)]
  ·rw [if_neg h1]
   by_cases h2:j=f
   ·subst h2
    rw[if_pos (by omega),if_pos rfl,if_pos (by omega),if_pos (by omega),Nat.sub_self]
    rfl
   ·rw [if_neg (by omega)]
    by_cases h3:j<f+1+vs.length
    ·rw[if_pos h3,if_pos (by omega),show j-f=(j-(f+1))+1 by omega,List.getElem?_cons_succ]
    ·rw[if_neg h3,if_neg (by omega),if_neg (by omega)]
theorem AL.setw{l l':List At}{vs vs':List Value}{f:Nat}(h:AL μ w l vs)(h':AL μ w l' vs'):AL μ w (At.setw l f l') (Vs.setw vs f vs'):=by
 unfold At.setw Vs.setw
 rw[h'.1]
 exact ((h.take f).append h').append (h.drop _)
theorem ZFY(ok:TyOK P t i){g f:Nat}{e:TypeId}{cur:Array Value}(hb:w.heap[g]? =some (.cells cur e (0,0)))(u:Value)(hl:u.cells.toList.length=i.ty.sz)(hf:f+u.cells.toList.length≤cur.size)(h1: ∀v∈u.cells.toList,v.oneCell'=true):
  (storeVar t ⟨g,f,none⟩ u).run P w= .ok () (w.setRow g (Vs.setw cur.toList f u.cells.toList).toArray):=by
 unfold storeVar
 rw[Sem.run_bind,Zrc ok]
 simp only[Result.andThen_ok]
 have hs:u.cells.size=i.ty.sz:=by rw[←hl];simp
 have:=run_storeCells_at (P:=P) g f e u.cells.toList 0 cur w hb (by simpa using hf) h1
 simp only[Nat.add_zero]at this
 simp[hs,this,setw]
theorem Chg.setRow(w:World)(g:Nat)(cs:Array Value){T:Nat→Prop}(hT:T g):Chg w (w.setRow g cs) T:=
 ⟨rfl,rfl,rfl,by simp,fun k _ hn=>setRow_other w g k cs (fun he=>hn (by rw[he];exact hT))⟩
theorem ZVX{l:List At}{vs:List Value}(hA:AL μ w l vs)(hu:l.all (fun y=> !y.isUn)=true): ∀u∈vs,u.oneCell'=true:=by
 intro u hu2
 obtain ⟨j,hj⟩:=List.getElem?_of_mem hu2
 have hjl:j<l.length:=by rw[←hA.1];exact (List.getElem?_eq_some_iff.1 hj).1
 have hx:=hA.2 j l[j] u (List.getElem?_eq_getElem hjl) hj
 refine (hx.oneCell ?_).1
 have:=List.all_eq_true.1 hu l[j] (List.getElem_mem hjl)
 simpa using this
theorem RowRep.store{u:Ty}{e:TypeId}{S:Nat→Prop}{xs:List u.D}{vr:Value}(h:RowRep (Rep u) u.sz e w S xs vr){j:Nat}(hj:j<xs.length){f:Nat}{new:List Value}{y:u.D}(hf:f+new.length≤u.sz)
  (hn : ∀ T cs, Rep u w T xs[j] cs → Rep u w T y (Vs.setw cs f new)) :
  ∃g cap off cur,vr= .slice (some ⟨g,off*u.sz,none⟩) xs.length cap∧w.heap[g]? =some (.cells cur e (0,0))∧S g∧off*u.sz+(j*u.sz+f)+new.length≤cur.size∧
   RowRep (Rep u) u.sz e (w.setRow g (Vs.setw cur.toList (off*u.sz+(j*u.sz+f)) new).toArray) S (xs.set j y) vr:=by
 obtain ⟨inner,hq,hb,ff,hr⟩:=h
 have hlen := hq.1
 rcases hq.2 with ⟨h0,_⟩|⟨g,off,cap,cur,hv,hh,hnc,hcm,hcs,ht⟩
 ·omega
 have hjs : (j + 1) * u.sz ≤ xs.length * u.sz := Nat.mul_le_mul_right _ hj
 rw [Nat.succ_mul] at hjs
 have hcap : off * u.sz + xs.length * u.sz ≤ cur.size := by rw [hcs, ← Nat.add_mul]; exact Nat.mul_le_mul_right _ (by omega)
 have hfit : off * u.sz + (j * u.sz + f) + new.length ≤ cur.size := by omega
 have hfit2 : (j * u.sz + f) + new.length ≤ inner.length := by omega
 refine ⟨g,cap,off,cur,hv,hh,hb g (by rw[hv];rfl),hfit,Vs.setw inner (j*u.sz+f) new,?_,hb,ff,?_⟩
 ·refine ⟨by rw [Zsp hfit2, List.length_set, hlen], .inr ⟨g, off, cap, _, by rw [List.length_set]; exact hv, setRow_heap w g cur _ e _ hh, by rw [List.length_set]; exact hnc, hcm, ?_, ?_⟩⟩
  ·rw [List.size_toArray, Zsp (by simpa using hfit), Array.length_toList, hcs]
  ·apply List.ext_getElem?
   intro m
   rw [List.length_set, List.getElem?_take, Z8P hfit2]
   have hin: ∀m,m<xs.length*u.sz→inner[m]? =cur.toList[off*u.sz+m]? :=by
    intro m hm
    rw [← ht, List.getElem?_take, if_pos hm, List.getElem?_drop]
   split
   ·rename_i hm
    rw [List.getElem?_drop, List.toList_toArray, Z8P (by simpa using hfit)]
    by_cases h1 : m < j * u.sz + f
    ·rw [if_pos h1, if_pos (by omega), hin m hm]
    ·rw [if_neg h1, if_neg (by omega)]
     by_cases h2 : m < j * u.sz + f + new.length
     ·rw [if_pos h2, if_pos (by omega)]
      congr 1
      omega
     ·rw [if_neg h2, if_neg (by omega), hin m hm]
   ·rename_i hm
    rw[if_neg (by omega),if_neg (by omega),List.getElem?_eq_none (by omega)]
 ·intro m x hm
  rw [List.getElem?_set] at hm
  have hvg : vr.ownBlock = some g := by rw [hv]; rfl
  have hkeep : ∀ k, (S k ∧ vr.ownBlock ≠ some k ∧ ff k = m) → (w.setRow g (Vs.setw cur.toList (off * u.sz + (j * u.sz + f)) new).toArray).heap[k]? = w.heap[k]? := by
   intro k hk
   exact setRow_other w g k _ (fun he=>hk.2.1 (by rw[hvg,he]))
  by_cases hmj : j = m
  ·subst hmj
   rw[if_pos rfl,if_pos hj]at hm
   injection hm with hm
   subst hm
   have h2:=hn _ _ (hr j xs[j] (List.getElem?_eq_getElem hj))
   have hseg:seg (Vs.setw inner (j*u.sz+f) new) u.sz j=Vs.setw (seg inner u.sz j) f new:=by
    have hsl:(seg inner u.sz j).length=u.sz:=ZW5 hlen hj
    apply List.ext_getElem?
    intro q
    rw [Z8P (by rw [hsl]; exact hf)]
    simp only[seg,List.getElem?_take,List.getElem?_drop]
    rw [Z8P hfit2]
    by_cases hq1 : q < u.sz
    ·simp only [if_pos hq1]
     by_cases h3 : q < f
     ·rw [if_pos (by omega), if_pos h3]
     ·rw [if_neg (by omega), if_neg h3]
      by_cases h4:q<f+new.length
      ·rw [if_pos (by omega), if_pos h4]
       congr 1
       omega
      ·rw[if_neg (by omega),if_neg h4]
    ·simp only [if_neg hq1]
     rw[if_neg (by omega),if_neg (by omega)]
   rw [hseg]
   exact h2.move (fun _ hk=>hk) hkeep
  ·rw [if_neg hmj] at hm
   have hml:m<xs.length:=(List.getElem?_eq_some_iff.1 hm).1
   have hms:(m+1)*u.sz≤xs.length*u.sz:=Nat.mul_le_mul_right _ hml
   rw [Nat.succ_mul] at hms
   have hseg:seg (Vs.setw inner (j*u.sz+f) new) u.sz m=seg inner u.sz m:=by
    apply List.ext_getElem?
    intro q
    simp only[seg,List.getElem?_take,List.getElem?_drop]
    rw[Z8P hfit2]
    by_cases hq1 : q < u.sz
    ·simp only [if_pos hq1]
     rcases Nat.lt_or_gt_of_ne hmj with h5|h5
     ·have : (j + 1) * u.sz ≤ m * u.sz := Nat.mul_le_mul_right _ h5
      rw[Nat.succ_mul]at this
      rw[if_neg (by omega),if_neg (by omega)]
     ·have : (m + 1) * u.sz ≤ j * u.sz := Nat.mul_le_mul_right _ h5
      rw[Nat.succ_mul]at this
      rw[if_pos (by omega)]
    ·simp only[if_neg hq1]
   rw[hseg]
   exact (hr m x hm).move (fun _ hk=>hk) hkeep
open Classical in
theorem RowRep.store3{u:Ty}{e:TypeId}{S Sy:Nat→Prop}{xs:List u.D}{vr:Value}{inner:List Value}{ff:Nat→Nat}(hq:QRow w e u.sz vr xs.length inner)(hb: ∀k,vr.ownBlock=some k→S k)
  (hr : ∀ j x, xs[j]? = some x → Rep u w (fun k => S k ∧ vr.ownBlock ≠ some k ∧ ff k = j) x (seg inner u.sz j)) {j : Nat} (hj : j < xs.length) {new : List Value} {y : u.D} (hnl : new.length = u.sz)
  (hn : Rep u w Sy y new) (hd : ∀ k, Sy k → ¬ S k ∨ (vr.ownBlock ≠ some k ∧ ff k = j)) :
  ∃g cap off cur,vr= .slice (some ⟨g,off*u.sz,none⟩) xs.length cap∧w.heap[g]? =some (.cells cur e (0,0))∧S g∧off*u.sz+(j*u.sz+0)+new.length≤cur.size∧
   RowRep (Rep u) u.sz e (w.setRow g (Vs.setw cur.toList (off*u.sz+(j*u.sz+0)) new).toArray) (fun k=>S k∨Sy k) (xs.set j y) vr:=by
 have hf : 0 + new.length ≤ u.sz := by omega
 have hlen := hq.1
 rcases hq.2 with ⟨h0,_⟩|⟨g,off,cap,cur,hv,hh,hnc,hcm,hcs,ht⟩
 ·omega
 have hjs : (j + 1) * u.sz ≤ xs.length * u.sz := Nat.mul_le_mul_right _ hj
 rw [Nat.succ_mul] at hjs
 have hcap : off * u.sz + xs.length * u.sz ≤ cur.size := by rw [hcs, ← Nat.add_mul]; exact Nat.mul_le_mul_right _ (by omega)
 have hfit : off * u.sz + (j * u.sz + 0) + new.length ≤ cur.size := by omega
 have hfit2 : (j * u.sz + 0) + new.length ≤ inner.length := by omega
 refine ⟨g,cap,off,cur,hv,hh,hb g (by rw[hv];rfl),hfit,Vs.setw inner (j*u.sz+0) new,?_,fun k hk=> .inl (hb k hk),fun k=>if Sy k then j else ff k,?_⟩
 ·refine ⟨by rw [Zsp hfit2, List.length_set, hlen], .inr ⟨g, off, cap, _, by rw [List.length_set]; exact hv, setRow_heap w g cur _ e _ hh, by rw [List.length_set]; exact hnc, hcm, ?_, ?_⟩⟩
  ·rw [List.size_toArray, Zsp (by simpa using hfit), Array.length_toList, hcs]
  ·apply List.ext_getElem?
   intro m
   rw [List.length_set, List.getElem?_take, Z8P hfit2]
   have hin: ∀m,m<xs.length*u.sz→inner[m]? =cur.toList[off*u.sz+m]? :=by
    intro m hm
    rw[←ht,List.getElem?_take,if_pos hm,List.getElem?_drop]
   split
   ·rename_i hm
    rw[List.getElem?_drop,List.toList_toArray,Z8P (by simpa using hfit)]
    by_cases h1 : m < j * u.sz + 0
    ·rw [if_pos h1, if_pos (by omega), hin m hm]
    ·rw [if_neg h1, if_neg (by omega)]
     by_cases h2:m<j*u.sz+0+new.length
     ·rw [if_pos h2, if_pos (by omega)]
      congr 1
      omega
     ·rw [if_neg h2, if_neg (by omega), hin m hm]
   ·rename_i hm
    rw[if_neg (by omega),if_neg (by omega),List.getElem?_eq_none (by omega)]
 ·intro m x hm
  rw [List.getElem?_set] at hm
  have hvg:vr.ownBlock=some g:=by rw[hv];rfl
  have hkeep: ∀k,(S k∧vr.ownBlock≠some k∧ff k=m)→(w.setRow g (Vs.setw cur.toList (off*u.sz+(j*u.sz+0)) new).toArray).heap[k]? =w.heap[k]? :=by
   intro k hk
   exact setRow_other w g k _ (fun he=>hk.2.1 (by rw[hvg,he]))
  by_cases hmj : j = m
  ·subst hmj
   rw[if_pos rfl,if_pos hj]at hm
   injection hm with hm
   subst hm
   have hseg:seg (Vs.setw inner (j*u.sz+0) new) u.sz j=new:=by
    apply List.ext_getElem?
    intro q
    simp only[seg,List.getElem?_take,List.getElem?_drop]
    rw[Z8P hfit2]
    by_cases hq1 : q < u.sz
    ·simp only [if_pos hq1]
     rw[if_neg (by omega),if_pos (by omega)]
     congr 1
     omega
    ·simp only [if_neg hq1]
     rw[List.getElem?_eq_none (by omega)]
   rw [hseg]
   refine hn.move (fun k hk=>⟨.inr hk,fun he=> ?_,if_pos hk⟩) (fun k hk=>setRow_other w g k _ (fun he=> ?_))
   ·rcases hd _ hk with h1 | h1
    ·exact h1 (hb _ he)
    ·exact h1.1 he
   ·subst he
    rcases hd _ hk with h1|h1
    ·exact h1 (hb _ hvg)
    ·exact h1.1 hvg
  ·rw [if_neg hmj] at hm
   have hml:m<xs.length:=(List.getElem?_eq_some_iff.1 hm).1
   have hms:(m+1)*u.sz≤xs.length*u.sz:=Nat.mul_le_mul_right _ hml
   rw [Nat.succ_mul] at hms
   have hseg:seg (Vs.setw inner (j*u.sz+0) new) u.sz m=seg inner u.sz m:=by
    apply List.ext_getElem?
    intro q
    simp only[seg,List.getElem?_take,List.getElem?_drop]
    rw[Z8P hfit2]
    by_cases hq1 : q < u.sz
    ·simp only [if_pos hq1]
     rcases Nat.lt_or_gt_of_ne hmj with h5|h5
     ·have : (j + 1) * u.sz ≤ m * u.sz := Nat.mul_le_mul_right _ h5
      rw[Nat.succ_mul]at this
      rw[if_neg (by omega),if_neg (by omega)]
     ·have : (m + 1) * u.sz ≤ j * u.sz := Nat.mul_le_mul_right _ h5
      rw[Nat.succ_mul]at this
      rw[if_pos (by omega)]
    ·simp only[if_neg hq1]
   rw[hseg]
   exact (hr m x hm).move (fun k hk=>⟨.inl hk.1,hk.2.1,(if_neg (fun hs=>(hd k hs).elim (fun h1=>h1 hk.1) (fun h1=>hmj (h1.2.symm.trans hk.2.2)))).trans hk.2.2⟩) hkeep
theorem RowRep.store2{u:Ty}{e:TypeId}{S Sy:Nat→Prop}{xs:List u.D}{vr:Value}(h:RowRep (Rep u) u.sz e w S xs vr){j:Nat}(hj:j<xs.length){new:List Value}{y:u.D}(hnl:new.length=u.sz)
  (hn : Rep u w Sy y new) (hd : ∀ k, Sy k → ¬ S k) :
  ∃g cap off cur,vr= .slice (some ⟨g,off*u.sz,none⟩) xs.length cap∧w.heap[g]? =some (.cells cur e (0,0))∧S g∧off*u.sz+(j*u.sz+0)+new.length≤cur.size∧
   RowRep (Rep u) u.sz e (w.setRow g (Vs.setw cur.toList (off*u.sz+(j*u.sz+0)) new).toArray) (fun k=>S k∨Sy k) (xs.set j y) vr:=by
 obtain ⟨inner,hq,hb,ff,hr⟩:=h
 exact RowRep.store3 hq hb hr hj hnl hn (fun k hk=> .inl (hd k hk))
theorem ZVd{p x:Operand}{K:St→Option β}{K':St→Option β}(T:TT)(hT:TTok P T)(h:Rel w0 S0 st μ a w)(ho:o.op= .store t p x)(hd:o.dst=none)(hi:T.get t=some i)(hk:opStore i st (st.ev p).atom (st.ev x) K=some r)(hK: ∀x,K x=some r→K' x=some r):o.wp P a w (Nx w0 S0 K' r) Q:=by
 have ok := hT.1 t i hi
 have ha := h.atom p
 unfold opStore at hk
 split at hk
 ·rename_i l hl
  split at hk
  ·rename_i hlu
   obtain ⟨hll, hu⟩ := hlu
   have hA := TR.cells_sound (h.ev x) hl
   have h1 := ZVX hA hu
   have hul : (a.eval x).cells.toList.length = i.ty.sz := by rw [hA.1, hll]
   have fin : ∀ {g f : Nat} {e : TypeId} {cur : Array Value}, a.eval p = .pointer (some ⟨g, f, none⟩) → w.heap[g]? = some (.cells cur e (0, 0)) → f + (a.eval x).cells.toList.length ≤ cur.size →
     ∀ st', Rel w0 S0 st' μ a (w.setRow g (Vs.setw cur.toList f (a.eval x).cells.toList).toArray) → K st' = some r → o.wp P a w (Nx w0 S0 K' r) Q := by
    intro g f e cur hp hb hf st' hR hk
    have hrun : (execOp a.eval o).run P w = .ok .skip (w.setRow g (Vs.setw cur.toList f (a.eval x).cells.toList).toArray) := by
     unfold execOp
     simp only [ho, hp, Instr.storeAt, Instr.sureAddr, Sem.run_bind, Sem.run_pure, Result.andThen_ok, ZFY ok hb (a.eval x) hul hf h1]
    refine ZTD hrun ⟨st',μ,?_,hK _ hk⟩
    rw [hd]
    exact hR
   cases hx : (st.ev p).atom with
   |ptr j f=>
    rw [hx] at hk ha
    simp only at hk
    split at hk
    ·rename_i e cells hob
     obtain ⟨hle, hk⟩ := ZSe hk
     ·obtain ⟨q, hq, hp⟩ := ha
      obtain ⟨hok, vs, hb, hAv, h1v⟩ := h.ob j _ q hob hq
      have hcl : f + (a.eval x).cells.toList.length ≤ vs.length := by rw [hA.1, hAv.1]; exact hle
      refine fin hp hb (by simpa using hcl) _ (h.turn (o':= .box e ((At.setw cells f l).map (At.kill j))) hob hq rfl rfl (.setRow w q.blk _ hok) ⟨hok,Vs.setw vs f (a.eval x).cells.toList,setRow_heap w q.blk _ _ e _ hb,?_,?_⟩ (fun e t xs he=>by cases he)) hk
      ·refine (hAv.setw hA).imp (At.kill j) rfl (fun y u _ hy => (hy.kill j).move (fun m rm hd hm k hk2 => setRow_other w q.blk k _ (fun he => ?_)))
       subst he
       exact h.dj j m _ q rm (Ne.symm (ZSf hd).1) hob rfl hq hm q.blk hok hk2
      ·intro u hu2
       unfold setw at hu2
       rcases List.mem_append.1 hu2 with hu2|hu2
       ·rcases List.mem_append.1 hu2 with hu2 | hu2
        ·exact h1v u (List.mem_of_mem_take hu2)
        ·exact h1 u hu2
       ·exact h1v u (List.mem_of_mem_drop hu2)
    ·cases hk
   |ep j u q f=>
    rw [hx] at hk ha
    simp only at hk
    split at hk
    ·rename_i fr e t' xs hob
     split at hk
     ·rename_i ht
      subst ht
      split at hk
      ·rename_i y hy
       obtain ⟨rec, ad, n, c, hrec, hv, h0, hn1, hp⟩ := ha
       have hrow : RowRep (Rep t') t'.sz e w rec.ok xs rec.v := h.ob j _ rec hob hrec
       have hn : n = xs.length := by
        obtain ⟨inner, hqr, _⟩ := hrow
        obtain ⟨A', c', hv', _⟩ := ZaL hqr
        rw [hv] at hv'
        injection hv'
       have hj : q.toNat < xs.length := by omega
       have hg : List.getD xs q.toNat t'.zero = xs[q.toNat] := by simp [List.getD, List.getElem?_eq_getElem hj]
       simp only at hy
       rw [hg] at hy
       have hff : f + (a.eval x).cells.toList.length ≤ t'.sz ∨ l = [] := by
        by_cases hle : f + l.length ≤ t'.sz
        ·left; rw [hA.1]; exact hle
        ·exfalso
         have : ∀ (l : List At) (z : t'.D) (f : Nat), f ≤ t'.sz ∨ True → setLeaves t' z f l ≠ none → l = [] ∨ f + l.length ≤ t'.sz := by
          intro l
          induction l with
          | nil => intro z f _ _; exact .inl rfl
          |cons c l ih=>
           intro z f _ hne
           simp only[setLeaves]at hne
           split at hne
           ·rename_i z2 hz
            have hlt : f < t'.sz := by
             have : ∀ (t : Ty) (x : t.D) (f : Nat) (c : At), setLeaf t x f c ≠ none → f < t.sz := by
              intro t
              induction t with
              |int k=>intro x f c hne;cases f with
               |zero=>exact Nat.one_pos
               |succ f=>cases c<;>exact absurd rfl hne
              |bool=>intro x f c hne;cases f with
               |zero=>exact Nat.one_pos
               |succ f=>cases c<;>exact absurd rfl hne
              |str=>intro x f c hne;cases f with
               |zero=>exact Nat.one_pos
               |succ f=>cases c<;>exact absurd rfl hne
              |slice e t ih=>intro x f c hne;cases f<;>cases c<;>exact absurd rfl hne
              |pair a b iha ihb=>
               intro x f c hne
               simp only[setLeaf]at hne
               simp only[Ty.sz]
               split at hne
               ·omega
               ·split at hne
                ·rename_i z hz
                 have:=ihb x.2 (f-a.sz) c (by rw[hz];simp)
                 omega
                ·exact absurd rfl hne
             exact this t' z f c (by rw[hz];simp)
            rcases ih z2 (f+1) (.inr trivial) hne with rfl|h3
            ·right; simp; omega
            ·right; simp only [List.length_cons]; omega
           ·exact absurd rfl hne
         rcases this l _ f (.inr trivial) (by rw[hy];simp) with rfl|h3
         ·simp at hll; have := i.ty.sz_pos; omega
         ·omega
       have hff2 : f + (a.eval x).cells.toList.length ≤ t'.sz := by
        rcases hff with h3|rfl
        ·exact h3
        ·simp at hll; have := i.ty.sz_pos; omega
       obtain ⟨g,cap,off,cur,hvs,hh,hS,hfit,hrow2⟩:=hrow.store hj hff2 (y:=y) (fun T cs hrep=>by
        have h3 := Zvh hrep hA hy
        rwa [Zvl _ _ _ (by rw [hrep.len]; exact hff2)] at h3)
       have hpp : a.eval p = .pointer (some ⟨g, off * t'.sz + (q.toNat * t'.sz + f), none⟩) := by
        rw [hp]
        rw [hv] at hvs
        injection hvs with ha2 _ _
        injection ha2 with ha2
        rw [ha2, ZgF]
       refine fin hpp hh hfit _ (h.turn (o':= .row fr e t' (xs.set q.toNat y)) hob hrec rfl rfl (.setRow w g _ hS) hrow2 (fun e t xs he=> ?_)) hk
       cases he
       exact ⟨_, _, _, rfl⟩
      ·split at hk
       ·rename_i j2 q2 t2 ys2 happ
        split at hk
        ·rename_i hfj
         obtain ⟨hf0,hj2⟩:=hfj
         subst hf0 hj2
         split at hk
         ·rename_i hq2
          subst hq2
          split at hk
          ·rename_i ht2
           subst ht2
           obtain rfl:l=[.app j2 q2 t2 ys2]:=by
            unfold appOf at happ
            split at happ
            ·injection happ with h1
             injection h1 with h1 h2
             injection h2 with h2 h3
             subst h1 h2
             cases h3
             rfl
            ·cases happ
           obtain ⟨u,hu1,hu2⟩:=hA.single
           obtain ⟨rec,hrec,g,off,n,c,e3,cur,g1,g2,g3,g4,g5,g6,g7,g8⟩:=hu2
           obtain ⟨rec2,ad,n2,c2,hrec2,hv,h0,hn1,hp⟩:=ha
           rw [hrec] at hrec2
           injection hrec2 with hrec2
           subst hrec2
           have hrow:RowRep (Rep t2) t2.sz e w rec.ok xs rec.v:=h.ob j2 _ rec hob hrec
           have hee:e3=e:=by
            obtain ⟨inner,hqr,_⟩:=hrow
            obtain ⟨cells,hc⟩:=ZTV hqr g (by rw[g1];rfl)
            rw[g5]at hc
            injection hc with hc
            injection hc
           subst hee
           have hpp:a.eval p= .pointer (some ⟨g,off*t2.sz+(q2.toNat*t2.sz+0),none⟩):=by
            rw[hp]
            rw[hv]at g1
            injection g1 with ha2 _ _
            injection ha2 with ha2
            rw[ha2,ZgF]
           have g8':RowRep (Rep t2) t2.sz e3 (w.setRow g (Vs.setw cur.toList (off*t2.sz+(q2.toNat*t2.sz+0)) (a.eval x).cells.toList).toArray) rec.ok ys2 rec.v:=by rw[hu1];exact g8
           refine fin hpp g5 (by rw[hu1];exact g6) _ (h.turn (o':= .row fr e3 t2 ys2) hob hrec rfl rfl (.setRow w g _ g4) g8' (fun e t xs he=> ?_)) hk
           cases he
           exact ⟨_,_,_,rfl⟩
          ·cases hk
         ·cases hk
        ·cases hk
       ·split at hk
        ·rename_i hf0
         subst hf0
         split at hk
         ·rename_i y st1 hy
          split at hk
          ·rename_i fr2 e2 t2 xs2 hob1
           split at hk
           ·rename_i ht2
            subst ht2
            obtain ⟨rec,ad,n,c,hrec,hv,h0,hn1,hp⟩:=ha
            obtain ⟨μ1,Sy,h1r,hless,htk,_,hrep⟩:=Z9b h hA.al0 hy
            obtain ⟨rec1,hrec1⟩:=h1r.some_rec hob1
            obtain ⟨r0,g0,gv,gb,_⟩:=hless.at_ j rec1 hrec1
            rw[hrec]at g0
            injection g0 with g0
            subst g0
            have hrow:RowRep (Rep t2) t2.sz e2 w rec1.ok xs2 rec1.v:=h1r.ob j _ rec1 hob1 hrec1
            have hn:n=xs2.length:=by
             obtain ⟨inner,hqr,_⟩:=hrow
             obtain ⟨A',c',hv',_⟩:=ZaL hqr
             rw[gv,hv]at hv'
             injection hv'
            have hj:q.toNat<xs2.length:=by omega
            obtain ⟨g,cap,off,cur,hvs,hh,hS,hfit,hrow2⟩:=hrow.store2 hj hrep.len hrep (htk.apart j rec1 hrec1)
            have hpp:a.eval p= .pointer (some ⟨g,off*t2.sz+(q.toNat*t2.sz+0),none⟩):=by
             rw[hp]
             rw[gv,hv]at hvs
             injection hvs with ha2 _ _
             injection ha2 with ha2
             rw[ha2,ZgF]
            have hrun:(execOp a.eval o).run P w= .ok .skip (w.setRow g (Vs.setw cur.toList (off*t2.sz+(q.toNat*t2.sz+0)) (a.eval x).cells.toList).toArray):=by
             unfold execOp
             simp only[ho,hpp,Instr.storeAt,Instr.sureAddr,Sem.run_bind,Sem.run_pure,Result.andThen_ok,ZFY ok hh (a.eval x) hul hfit h1]
            have hs:=h.kp.size
            have hdis: ∀(m:Nat) rm,(offAt μ1 j)[m]? =some rm→ ∀k,rm.ok k→ ¬rec1.ok k∧ ¬Sy k:=by
             intro m rm hm k hk2
             obtain ⟨q0,g0,_,_,g3⟩:=Z5G hm
             rcases g3 with ⟨_,g3⟩|⟨hmj,rfl⟩
             ·exact absurd hk2 (g3 k)
             ·exact ⟨fun hk3 => h1r.dj j m _ rec1 rm (Ne.symm hmj) hob1 rfl hrec1 g0 k hk3 hk2, fun hk3 => htk.apart m rm g0 k hk3 hk2⟩
            have hw:=(h1r.die j).world (Chg.setRow w g (Vs.setw cur.toList (off*t2.sz+(q.toNat*t2.sz+0)) (a.eval x).cells.toList).toArray (T:=rec1.ok) hS) (fun m rm hm k hk2=>(hdis m rm hm k hk2).1) (fun k hk2=>h1r.wr j _ rec1 hob1 hrec1 rfl k hk2)
            have hir:(offAt μ1 j)[j]? =some rec1.off:=by rw[ZdP,hrec1];rfl
            have hlen:j<(st1.die j).objs.length:=by simp[St.die];exact (List.getElem?_eq_some_iff.1 hob1).1
            have h2:=hw.revive (o':= .row fr2 e2 t2 (xs2.set q.toNat y)) (r':=⟨rec1.v,rec1.blk,fun k=>rec1.ok k∨Sy k⟩) hir rfl rfl hlen (fun _ _ _=>hrow2)
             (fun m rm hmj hm k hk2 hk3=>by
              rcases hk2 with hk2|hk2
              ·exact (hdis m rm hm k hk3).1 hk2
              ·exact (hdis m rm hm k hk3).2 hk2)
             (fun k hk2=>by
              rcases hk2 with hk2|hk2
              ·exact h1r.wr j _ rec1 hob1 hrec1 rfl k hk2
              ·exact ((htk.new k hk2).imp (S0.go k) id))
             (fun e3 t3 xs3 he3 k hk2=>by
              have hfr:fr2=true:=by cases he3;rfl
              subst hfr
              rcases hk2 with hk2|hk2
              ·exact h1r.fr j _ _ _ rec1 hob1 hrec1 k hk2
              ·exact htk.new k hk2)
             (fun k hk2=>by
              have hsz:(w.setRow g (Vs.setw cur.toList (off*t2.sz+(q.toNat*t2.sz+0)) (a.eval x).cells.toList).toArray).heap.size=w.heap.size:=by simp[World.setRow]
              rw[hsz]
              rcases hk2 with hk2|hk2
              ·exact h1r.lt j rec1 hrec1 k hk2
              ·exact htk.lt k hk2)
            refine ZTD hrun ⟨_,(offAt μ1 j).set j ⟨rec1.v,rec1.blk,fun k=>rec1.ok k∨Sy k⟩,?_,hK _ hk⟩
            rw[hd]
            exact h2
           ·cases hk
          ·cases hk
         ·cases hk
        ·cases hk
     ·cases hk
    ·cases hk
   |_=>rw[hx]at hk;simp at hk
  ·cases hk
 ·cases hk
end
end
end Go.Proofs.YtmhfhiofcoggbaaGreat.Vs
