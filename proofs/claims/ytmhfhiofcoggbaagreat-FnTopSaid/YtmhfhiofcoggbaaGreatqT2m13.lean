/- The proof, part 14. -/
import Derived.Test.YtmhfhiofcoggbaaGreatqT2m12
set_option linter.unusedVariables false
set_option linter.unusedSimpArgs false
namespace Go.Proofs.YtmhfhiofcoggbaaGreat.Vs
open Go.RowKit
section
def endNum(b:BoardD)(f:FallD):Int:=if f.1=1 then f.2.2 else if f.1=2 then b.2.1 else b.2.1+1
def meetsFrom(b:BoardD)(G K:List Int):List Int→List Int→List CellD→Bool
 |x::r,y::s,o=>if endNum b (fallOf b G K x o).1=y then meetsFrom b G K r s (fallOf b G K x o).2 else false
 |_,_,_=>true
def meetsB(c:ChD)(b:BoardD):Bool:=meetsFrom b (groupsOf b) (kindsB b []) c.2.2.2.1 c.2.2.2.2 b.2.2
theorem ZL1(b:BoardD)(hb:boardOK b=true)(f:FallD):Ev (fun k=>ZfZ k b f) (endNum b f):=by
 have hC:b.2.1≤9∧1≤b.2.1:=by
  unfold boardOK at hb
  simp only[Bool.and_eq_true,decide_eq_true_eq]at hb
  omega
 refine Ev.succ ?_
 simp only[ZfZ]
 rw[w64 (n:=b.2.1+1) (by omega) (by omega)]
 unfold endNum
 by_cases h1:f.1=1
 ·simp only [h1, decide_true, if_true]; exact Ev.some _
 ·by_cases h2 : f.1 = 2
  ·simp only[h2,decide_true,decide_false,if_true,Bool.false_eq_true,if_false,show¬(2:Int)=1 by omega];exact Ev.some _
  ·simp only[h1,h2,decide_false,Bool.false_eq_true,if_false];exact Ev.some _
theorem ZFW(b:BoardD)(hb:boardOK b=true)(f:FallD):Ev (fun k=>ZhY k b f) (endNum b f):=by
 have hC:b.2.1≤9∧1≤b.2.1:=by
  unfold boardOK at hb
  simp only[Bool.and_eq_true,decide_eq_true_eq]at hb
  omega
 refine Ev.succ ?_
 simp only[ZhY]
 rw[w64 (n:=b.2.1+1) (by omega) (by omega)]
 unfold endNum
 by_cases h1:f.1=1
 ·simp only [h1, decide_true, if_true]; exact Ev.some _
 ·by_cases h2 : f.1 = 2
  ·simp only[h2,decide_true,decide_false,if_true,Bool.false_eq_true,if_false,show¬(2:Int)=1 by omega];exact Ev.some _
  ·simp only[h1,h2,decide_false,Bool.false_eq_true,if_false];exact Ev.some _
theorem ZrW(c:ChD)(b:BoardD)(hb:boardOK b=true)(G:List Int)(hG:G.length=b.2.2.length): ∀(r pre s q:List Int) (o:List CellD),c.2.2.2.2=q++s→s.length=r.length→q.length=pre.length→(pre++r).length≤1000000→colsOK b r→o.length=b.2.2.length→(∀x∈o,cellOK x=true)→
  Ev (fun k=>Z8O k c.1 c.2.1 c.2.2.1 c.2.2.2.1 c.2.2.2.2 b.1 b.2.1 b.2.2 b.1 b.2.1 o G (pre++r) ((pre++r).length:Int) (pre.length:Int)) (if meetsFrom b G (kindsB b []) r s o=true then LR.go () else LR.ret false)
 | [], pre, s, q, o, hs, h1, h2, hl, hc, ho, hx => by
  refine Ev.succ ?_
  simp only[Z8O,Zn,decide_false,Bool.false_eq_true,if_false,meetsFrom,if_true]
  exact Ev.some _
 |x::r,pre,[],q,o,hs,h1,h2,hl,hc,ho,hx=>by simp at h1
 |x::r,pre,y::s,q,o,hs,h1,h2,hl,hc,ho,hx=>by
  have hcx:=hc x (List.mem_cons_self ..)
  obtain ⟨p,hp⟩:=ZJc b hb G hG x hcx.1 hcx.2 o ho hx
  have hlt:(pre.length:Int)<(c.2.2.2.2.length:Int):=by rw[hs,←h2];exact Zl _ _ _
  have hgd:List.getD c.2.2.2.2 pre.length 0=y:=by rw[hs,←h2];exact Zg _ _ _ _
  have ih:=ZrW c b hb G hG r (pre++[x]) s (q++[y]) (fallOf b G (kindsB b []) x o).2 (by rw[hs];simp) (by simpa using h1) (by simpa using h2) (by simpa using hl) (fun z hz=>hc z (List.mem_cons_of_mem _ hz)) ((ZU5 ..).trans ho) (Zit b G _ x hx)
  refine Ev.succ ?_
  simp only[Z8O,Zl,Zu,hlt,decide_true,if_true,Int.toNat_natCast,Zg,hgd,meetsFrom]
  refine Ev.bind hp (Ev.bind (ZL1 b hb _) ?_)
  by_cases he:endNum b (fallOf b G (kindsB b []) x o).1=y
  ·simp only [he, ne_eq, not_true_eq_false, decide_false, Bool.false_eq_true, if_false, if_true]
   rw[Zk pre x r (by omega)]
   rw[←Ze]at ih
   exact ih
  ·simp only [he, ne_eq, not_false_eq_true, decide_true, Bool.false_eq_true, if_false, if_true]
   exact Ev.some _
theorem ZyL(c:ChD)(b:BoardD)(hb:boardOK b=true)(h1:c.2.2.2.2.length=c.2.2.2.1.length)(h2:c.2.2.2.1.length≤1000)(hc:colsOK b c.2.2.2.1)(hl:b.2.2.length≤1000000):Ev (fun k=>Zff k c b) (meetsB c b):=by
 have hx: ∀x∈b.2.2,cellOK x=true:=by
  have:=hb
  unfold boardOK at this
  simp only[Bool.and_eq_true,List.all_eq_true]at this
  exact this.2
 have e0:=ZrW c b hb (groupsOf b) (ZhS b) c.2.2.2.1 [] c.2.2.2.2 [] b.2.2 rfl h1 rfl (by simp;omega) hc rfl hx
 simp only[List.nil_append,List.length_nil,Int.natCast_zero]at e0
 refine Ev.succ ?_
 simp only[Zff]
 refine Ev.bind (ZkK b hl) (Ev.bind (ZgV b hb) (Ev.bind e0 ?_))
 unfold meetsB
 cases meetsFrom b (groupsOf b) (kindsB b []) c.2.2.2.1 c.2.2.2.2 b.2.2 with
 |true=>simp only[if_true];exact Ev.go (Ev.some _)
 |false=>simp only[Bool.false_eq_true,if_false];exact Ev.ret (Ev.some _)
theorem ZsM(c:ChD)(b:BoardD)(hb:boardOK b=true): ∀(r pre s q:List Int) (o:List CellD),c.2.2.2.2=q++s→s.length=r.length→q.length=pre.length→(pre++r).length≤1000000→colsOK b r→(∀x∈o,cellOK x=true)→o.map Prod.fst=b.2.2.map Prod.fst→
  Ev (fun k=>Z8E k c.1 c.2.1 c.2.2.1 c.2.2.2.1 c.2.2.2.2 b.1 b.2.1 b.2.2 b.1 b.2.1 o (pre++r) ((pre++r).length:Int) (pre.length:Int)) (if meetsFrom b (groupsOf b) (kindsB b []) r s o=true then LR.go () else LR.ret false)
 | [], pre, s, q, o, hs, h1, h2, hl, hc, hx, hp => by
  refine Ev.succ ?_
  simp only[Z8E,Zn,decide_false,Bool.false_eq_true,if_false,meetsFrom,if_true]
  exact Ev.some _
 |x::r,pre,[],q,o,hs,h1,h2,hl,hc,hx,hp=>by simp at h1
 |x::r,pre,y::s,q,o,hs,h1,h2,hl,hc,hx,hp=>by
  have hcx:=hc x (List.mem_cons_self ..)
  have ho:o.length=b.2.2.length:=by have:=congrArg List.length hp;simpa using this
  have hb':boardOK (b.1,b.2.1,o)=true:=by
   have hb2:=hb
   unfold boardOK at hb2⊢
   simp only[Bool.and_eq_true,decide_eq_true_eq,List.all_eq_true]at hb2⊢
   exact ⟨by rw[ho];exact hb2.1,hx⟩
  have hrun:=ZBy (b.1,b.2.1,o) hb' x hcx.1 hcx.2
  rw[ZOn (b:=(b.1,b.2.1,o)) (b':=b) rfl rfl hp,ZJd (b:=(b.1,b.2.1,o)) (b':=b) rfl ho,ZJ6 (b:=(b.1,b.2.1,o)) (b':=b) rfl rfl]at hrun
  have hlt:(pre.length:Int)<(c.2.2.2.2.length:Int):=by rw[hs,←h2];exact Zl _ _ _
  have hgd:List.getD c.2.2.2.2 pre.length 0=y:=by rw[hs,←h2];exact Zg _ _ _ _
  have ih:=ZsM c b hb r (pre++[x]) s (q++[y]) (fallOf b (groupsOf b) (kindsB b []) x o).2 (by rw[hs];simp) (by simpa using h1) (by simpa using h2) (by simpa using hl) (fun z hz=>hc z (List.mem_cons_of_mem _ hz)) (Zit b _ _ x hx) ((ZrT b _ _ x hx).trans hp)
  refine Ev.succ ?_
  simp only[Z8E,Zl,Zu,hlt,decide_true,if_true,Int.toNat_natCast,Zg,hgd,meetsFrom]
  refine Ev.bind hrun (Ev.bind (ZFW b hb _) ?_)
  by_cases he:endNum b (fallOf b (groupsOf b) (kindsB b []) x o).1=y
  ·simp only [he, ne_eq, not_true_eq_false, decide_false, Bool.false_eq_true, if_false, if_true]
   rw[Zk pre x r (by omega)]
   rw[←Ze]at ih
   exact ih
  ·simp only [he, ne_eq, not_false_eq_true, decide_true, Bool.false_eq_true, if_false, if_true]
   exact Ev.some _
theorem Zzl(c:ChD)(b:BoardD)(hb:boardOK b=true)(h1:c.2.2.2.2.length=c.2.2.2.1.length)(h2:c.2.2.2.1.length≤1000)(hc:colsOK b c.2.2.2.1):Ev (fun k=>Zj2 k c b) (meetsB c b):=by
 have hx: ∀x∈b.2.2,cellOK x=true:=by
  have:=hb
  unfold boardOK at this
  simp only[Bool.and_eq_true,List.all_eq_true]at this
  exact this.2
 have e0:=ZsM c b hb c.2.2.2.1 [] c.2.2.2.2 [] b.2.2 rfl h1 rfl (by simp;omega) hc hx rfl
 simp only[List.nil_append,List.length_nil,Int.natCast_zero]at e0
 refine Ev.succ ?_
 simp only[Zj2]
 refine Ev.bind e0 ?_
 unfold meetsB
 cases meetsFrom b (groupsOf b) (kindsB b []) c.2.2.2.1 c.2.2.2.2 b.2.2 with
 |true=>simp only[if_true];exact Ev.go (Ev.some _)
 |false=>simp only[Bool.false_eq_true,if_false];exact Ev.ret (Ev.some _)
def sizeL:List CellD→Nat
 |[]=>0
 |x::r=>(if x.1=0 then 0 else 1)+sizeL r
theorem ZAA: ∀l:List CellD,sizeL l≤l.length
 |[]=>Nat.le_refl _
 |x::r=>by
  have:=ZAA r
  simp only[sizeL,List.length_cons]
  split<;>omega
theorem Zl6: ∀(r pre:List CellD) (v:Int),0≤v→v≤(pre.length:Int)→(pre++r).length≤1000000→Ev (fun k=>Z6l k v (pre++r) ((pre++r).length:Int) (pre.length:Int)) (v+(sizeL r:Int))
 | [], pre, v, h0, hv, hl => by
  refine Ev.succ ?_
  simp only[Z6l,Zn,decide_false,Bool.false_eq_true,if_false,sizeL]
  exact (Ev.some _).congr (by omega)
 |x::r,pre,v,h0,hv,hl=>by
  have hpl:pre.length≤1000000:=by simp at hl;omega
  refine Ev.succ ?_
  simp only[Z6l,Zl,Zu,decide_true,if_true,Int.toNat_natCast,Zg,sizeL]
  rw[Zk pre x r (by omega),w64 (n:=v+1) (by omega) (by omega)]
  by_cases hx:x.1=0
  ·have ih := Zl6 r (pre ++ [x]) v h0 (by simp; omega) (by simpa using hl)
   rw[←Ze]at ih
   simp only[hx,ne_eq,not_true_eq_false,decide_false,Bool.false_eq_true,if_false,if_true]
   exact ih.congr (by omega)
  ·have ih := Zl6 r (pre ++ [x]) (v + 1) (by omega) (by simp; omega) (by simpa using hl)
   rw[←Ze]at ih
   simp only[hx,ne_eq,not_false_eq_true,decide_true,if_true,if_false]
   exact ih.congr (by omega)
theorem Zf3(b:BoardD)(hl:b.2.2.length≤1000000):Ev (fun k=>Z6F k b) (sizeL b.2.2:Int):=by
 have e0:=Zl6 b.2.2 [] 0 (by omega) (by simp) (by simpa using hl)
 simp only[List.nil_append,List.length_nil,Int.natCast_zero,Int.zero_add]at e0
 refine Ev.succ ?_
 simp only[Z6F]
 exact Ev.bind e0 (Ev.some _)
theorem Zsh: ∀(r pre:List CellD) (o:List Int) (z:Nat),o.length=8→List.getD o 0 0=(z:Int)→z+r.length≤1000000→(∀x∈r,cellOK x=true)→(pre++r).length≤1000000→
  ∃l,Ev (fun k=>Z8J k o (pre++r) ((pre++r).length:Int) (pre.length:Int)) l∧l.length=8∧List.getD l 0 0=(z:Int)+((r.length:Int)-(sizeL r:Int))
 | [], pre, o, z, ho, hz, hzl, hx, hl => ⟨o, by
  refine Ev.succ ?_
  simp only[Z8J,Zn,decide_false,Bool.false_eq_true,if_false]
  exact Ev.some _,ho,by rw[hz];simp[sizeL]⟩
 |x::r,pre,o,z,ho,hz,hzl,hx,hl=>by
  have hok:=hx x (List.mem_cons_self ..)
  unfold cellOK at hok
  have hok:=of_decide_eq_true hok
  have k0:0≤x.1:=hok.1
  have k1:x.1<(o.length:Int):=by omega
  have hzz:z≤1000000:=by omega
  obtain ⟨l,h1,h2,h3⟩:=Zsh r (pre++[x]) (List.set o x.1.toNat (wrap64 (List.getD o x.1.toNat 0+1))) (if x.1=0 then z+1 else z) (by simp[ho]) (by
   by_cases hx0:x.1=0
   ·rw [if_pos hx0, hx0]
    simp only[Int.toNat_zero]
    rw[hz,w64 (by omega) (by omega)]
    match o,ho with
    |a::o',_=>simp
   ·rw [if_neg hx0, ← hz]
    have:x.1.toNat≠0:=by omega
    simp only[List.getD_eq_getElem?_getD,List.getElem?_set_ne this]) (by
   simp only[List.length_cons]at hzl
   split<;>omega) (fun y hy=>hx y (List.mem_cons_of_mem _ hy)) (by simpa using hl)
  refine ⟨l,?_,h2,?_⟩
  ·refine Ev.succ ?_
   simp only[Z8J,Zl,Zu,decide_true,if_true,Int.toNat_natCast,Zg,k0,k1]
   rw[Zk pre x r (by omega)]
   rw[←Ze]at h1
   exact h1
  ·rw [h3]
   simp only[sizeL,List.length_cons]
   have:=ZAA r
   split<;>omega
theorem ZQb(b:BoardD)(hx: ∀x∈b.2.2,cellOK x=true)(hl:b.2.2.length≤1000000):Ev (fun k=>Zkg k b) (sizeL b.2.2:Int):=by
 obtain ⟨l,h1,h2,h3⟩:=Zsh b.2.2 [] (List.replicate 8 0) 0 (by simp) (by simp) (by omega) hx (by simpa using hl)
 simp only[List.nil_append,List.length_nil,Int.natCast_zero]at h1
 have:=ZAA b.2.2
 refine Ev.succ ?_
 simp only[Zkg]
 refine Ev.bind (a:=l) ?_ ?_
 ·refine Ev.succ ?_
  simp only[ZoO]
  exact Ev.bind h1 (Ev.some _)
 ·have hp : (0 : Int) < (l.length : Int) := by omega
  simp only[hp,if_true]
  rw[show Int.toNat 0=0 from rfl,h3]
  exact (Ev.some _).congr (by rw[w64 (by omega) (by omega)];omega)
end
section
theorem Z5B{c:ChD}(h:challOK c=true):(1≤c.1∧c.1≤4∧1≤c.2.1∧c.2.1≤4∧1≤c.2.2.1.length∧c.2.2.1.length≤6∧1≤c.2.2.2.1.length∧c.2.2.2.1.length≤8∧c.2.2.2.2.length=c.2.2.2.1.length)∧partsOK [] c.2.2.1=true∧(∀e∈c.2.2.2.1,0≤e∧e≤c.2.1-1)∧triedOf c≤7000:=by
 unfold challOK sizesOK at h
 simp only[Bool.and_eq_true,decide_eq_true_eq,List.all_eq_true]at h
 exact ⟨h.1,h.2.1,h.2.2.1,h.2.2.2.2⟩
theorem ZIS: ∀(r pre:List CellD),partsOK pre r=true→ ∀x∈r,cellOK x=true
 |[],_,_,x,hx=>by simp at hx
 |y::r,pre,h,x,hx=>by
  simp only[partsOK,Bool.and_eq_true]at h
  rcases List.mem_cons.1 hx with rfl|hx
  ·exact h.1
  ·exact ZIS r _ h.2.2.2 x hx
theorem Z90{c:ChD}(h:challOK c=true):1≤c.1*c.2.1∧c.1*c.2.1≤16:=by
 obtain ⟨⟨a1,a2,a3,a4,_⟩,_⟩:=Z5B h
 have h1:1*1≤c.1*c.2.1:=Int.mul_le_mul a1 a3 (by omega) (by omega)
 have h2:c.1*c.2.1≤4*4:=Int.mul_le_mul a2 a4 (by omega) (by omega)
 omega
theorem Z3t(c:ChD)(n:Int):(boardAt c n).2.2.length=(c.1*c.2.1).toNat:=by
 unfold boardAt
 rw[ZJ3]
 simp
theorem ZCe{c:ChD}(h:challOK c=true){n:Int}(hn:0≤n): ∀x∈(boardAt c n).2.2,x=(0,0)∨x∈c.2.2.1:=Zw0 _ _ _ hn (by simp)
theorem Zr2{c:ChD}(h:challOK c=true){n:Int}(hn:0≤n):boardOK (boardAt c n)=true:=by
 obtain ⟨⟨a1,a2,a3,a4,_⟩,hp,_⟩:=Z5B h
 have ha:=Z90 h
 unfold boardOK
 rw[Z3t]
 simp only[Bool.and_eq_true,decide_eq_true_eq,List.all_eq_true]
 refine ⟨⟨a1,by show c.1≤10;omega,a3,by show c.2.1≤9;omega,?_⟩,fun x hx=> ?_⟩
 ·show ((c.1 * c.2.1).toNat : Int) = c.1 * c.2.1
  omega
 ·rcases ZCe h hn x hx with rfl | hx
  ·rfl
  ·exact ZIS _ _ hp x hx
theorem ZmR{c:ChD}(h:challOK c=true)(n:Int):colsOK (boardAt c n) c.2.2.2.1:=by
 obtain ⟨_,_,he,_⟩:=Z5B h
 intro e hm
 have:=he e hm
 exact ⟨this.1,by show e<c.2.1;omega⟩
theorem ZmZ(c:ChD)(h:challOK c=true): ∀(j:Nat) (v i:Int),0≤i→i+j=c.1*c.2.1→1≤v→v*((c.2.2.1.length:Int)+1)^j≤7000→Ev (fun k=>Z5g k c.1 c.2.1 c.2.2.1 c.2.2.2.1 c.2.2.2.2 v i) (v*((c.2.2.1.length:Int)+1)^j)
 |0,v,i,hi,hj,hv,hb=>by
  have ha:=Z90 h
  refine Ev.succ ?_
  simp only[Z5g]
  rw[w64 (n:=c.1*c.2.1) (by omega) (by omega),decide_eq_false (p:=i<c.1*c.2.1) (by omega)]
  simp only[Bool.false_eq_true,if_false,Int.pow_zero,Int.mul_one]
  exact Ev.some _
 |j+1,v,i,hi,hj,hv,hb=>by
  have ha:=Z90 h
  obtain ⟨⟨_,_,_,_,a5,a6,_⟩,_⟩:=Z5B h
  have hp1:1≤(c.2.2.1.length:Int)+1:=by omega
  have hpw:v*((c.2.2.1.length:Int)+1)^(j+1)=(v*((c.2.2.1.length:Int)+1))*((c.2.2.1.length:Int)+1)^j:=by rw[Int.pow_succ,Int.mul_comm (((c.2.2.1.length:Int)+1)^j),Int.mul_assoc]
  rw[hpw]at hb⊢
  have hv1:v≤v*((c.2.2.1.length:Int)+1):=Zyc (by omega) hp1
  have hv2:=Zyc (m:=v*((c.2.2.1.length:Int)+1)) (by omega) (ZEz hp1 j)
  refine Ev.succ ?_
  simp only[Z5g]
  rw[w64 (n:=c.1*c.2.1) (by omega) (by omega),decide_eq_true (p:=i<c.1*c.2.1) (by omega),w64 (n:=(c.2.2.1.length:Int)+1) (by omega) (by omega),w64 (n:=v*((c.2.2.1.length:Int)+1)) (by omega) (by omega),w64 (n:=i+1) (by omega) (by omega)]
  simp only[if_true]
  exact ZmZ c h j _ (i+1) (by omega) (by omega) (by omega) hb
theorem ZGg(c:ChD)(h:challOK c=true):Ev (fun k=>ZdF k c) (triedOf c):=by
 have ha:=Z90 h
 obtain ⟨_,_,_,ht⟩:=Z5B h
 have e0:=ZmZ c h (c.1*c.2.1).toNat 1 0 (by omega) (by omega) (by omega) (by rw[Int.one_mul];exact ht)
 rw[Int.one_mul]at e0
 refine Ev.succ ?_
 simp only[ZdF]
 exact Ev.bind e0 (Ev.some _)
theorem Zmk(c:ChD)(h:challOK c=true):Ev (fun k=>Z2v k c) (triedOf c):=by
 have ha:=Z90 h
 obtain ⟨⟨_,_,_,_,a5,a6,_⟩,_,_,ht⟩:=Z5B h
 obtain ⟨o,ho,c1,_⟩:=ZoK c (by omega) (by omega) (by omega)
 rw[c1 ht]at ho
 exact ho
theorem ZPf{c:ChD}(h:challOK c=true):1≤triedOf c:=ZEz (by omega) _
def rndOf(c:ChD)(n:Int):ItR BoardD:=if n<triedOf c then if meetsB c (boardAt c n)=true then .give (boardAt c n) else .skip else .stop
theorem ZUM(c:ChD)(h:challOK c=true)(n:Int)(hn:0≤n)(hn2:n≤7000):Ev (fun k=>iRnd k c n) (rndOf c n):=by
 have ha:=Z90 h
 obtain ⟨⟨_,_,_,_,a5,a6,a7,a8,a9⟩,_,_,ht⟩:=Z5B h
 unfold rndOf
 simp only[iRnd]
 refine Ev.bind (ZGg c h) ?_
 by_cases hlt:n<triedOf c
 ·simp only [hlt, decide_true, if_true]
  refine Ev.bind (ZOR c (by omega) (by omega) (by omega) n hn (by omega)) ?_
  refine Ev.bind (ZyL c (boardAt c n) (Zr2 h hn) a9 (by omega) (ZmR h n) (by rw[Z3t];omega)) ?_
  by_cases hm:meetsB c (boardAt c n)=true
  ·simp only[hm,if_true];exact Ev.some _
  ·simp only[hm,Bool.false_eq_true,if_false];exact Ev.some _
 ·simp only[hlt,decide_false,Bool.false_eq_true,if_false];exact Ev.some _
def solsFrom(c:ChD):Nat→Int→List BoardD
 |0,_=>[]
 |j+1,n=>if meetsB c (boardAt c n)=true then boardAt c n::solsFrom c j (n+1) else solsFrom c j (n+1)
theorem Zsf{c:ChD}: ∀(j:Nat) (n:Int),0≤n→ ∀b∈solsFrom c j n,∃m,0≤m∧b=boardAt c m∧meetsB c b=true
 |0,n,hn,b,hb=>by simp[solsFrom]at hb
 |j+1,n,hn,b,hb=>by
  simp only[solsFrom]at hb
  split at hb
  ·rename_i hm
   rcases List.mem_cons.1 hb with rfl|hb
   ·exact ⟨n,hn,rfl,hm⟩
   ·exact Zsf j (n+1) (by omega) b hb
  ·exact Zsf j (n+1) (by omega) b hb
theorem ZNm{Y:Type}{c:ChD}(h:challOK c=true){cy:Y→ChD}{step:Nat→Y→BoardD→Option Y}{F:Y→BoardD→Y}{I:Y→Prop}(hcy: ∀y,I y→cy y=c)(hF: ∀y m,0≤m→I y→I (F y (boardAt c m)))(hs: ∀y m,0≤m→I y→Ev (fun k=>step k y (boardAt c m)) (F y (boardAt c m))):
  ∀(j:Nat) (n:Int) (y:Y),I y→0≤n→n+j=triedOf c→ ∃N,∀k,N≤k→ ∀f,N≤f→itLoop (iRnd k) (fun m=>wrap64 (m+1)) cy (step k) f y n=some ((solsFrom c j n).foldl F y)
 |0,n,y,hI,hn,hj=>by
  obtain ⟨_,_,_,ht⟩:=Z5B h
  obtain ⟨N,hN⟩:=ZUM c h n hn (by omega)
  refine ⟨N+1,fun k hk f hf=> ?_⟩
  obtain ⟨f,rfl⟩: ∃f',f=f'+1:=⟨f-1,by omega⟩
  have hr:rndOf c n= .stop:=by unfold rndOf;rw[if_neg (by omega)]
  simp only[itLoop,hcy y hI,hN k (by omega),hr,solsFrom,List.foldl_nil]
 |j+1,n,y,hI,hn,hj=>by
  obtain ⟨_,_,_,ht⟩:=Z5B h
  obtain ⟨N,hN⟩:=ZUM c h n hn (by omega)
  have hw:wrap64 (n+1)=n+1:=w64 (by omega) (by omega)
  by_cases hm:meetsB c (boardAt c n)=true
  ·obtain ⟨N1, hN1⟩ := ZNm h hcy hF hs j (n + 1) (F y (boardAt c n)) (hF y n hn hI) (by omega) (by omega)
   obtain ⟨N2,hN2⟩:=hs y n hn hI
   refine ⟨N+N1+N2+1,fun k hk f hf=> ?_⟩
   obtain ⟨f,rfl⟩: ∃f',f=f'+1:=⟨f-1,by omega⟩
   have hr:rndOf c n= .give (boardAt c n):=by unfold rndOf;rw[if_pos (by omega),if_pos hm]
   simp only[itLoop,hcy y hI,hN k (by omega),hr,hN2 k (by omega),hw,solsFrom,hm,if_true,List.foldl_cons]
   exact hN1 k (by omega) f (by omega)
  ·obtain ⟨N1, hN1⟩ := ZNm h hcy hF hs j (n + 1) y hI (by omega) (by omega)
   refine ⟨N+N1+1,fun k hk f hf=> ?_⟩
   obtain ⟨f,rfl⟩: ∃f',f=f'+1:=⟨f-1,by omega⟩
   have hr:rndOf c n= .skip:=by unfold rndOf;rw[if_pos (by omega),if_neg hm]
   simp only[itLoop,hcy y hI,hN k (by omega),hr,hw,solsFrom,hm,Bool.false_eq_true,if_false]
   exact hN1 k (by omega) f (by omega)
def solsOf(c:ChD):List BoardD:=solsFrom c (triedOf c).toNat 0
theorem ZTW{Y:Type}{c:ChD}(h:challOK c=true){cy:Y→ChD}{step:Nat→Y→BoardD→Option Y}{F:Y→BoardD→Y}{I:Y→Prop}(hcy: ∀y,I y→cy y=c)(hF: ∀y m,0≤m→I y→I (F y (boardAt c m)))(hs: ∀y m,0≤m→I y→Ev (fun k=>step k y (boardAt c m)) (F y (boardAt c m))){y:Y}(hI:I y):Ev (fun k=>iLoop k cy (step k) y) ((solsOf c).foldl F y):=by
 have:=ZPf h
 obtain ⟨N,hN⟩:=ZNm h hcy hF hs (triedOf c).toNat 0 y hI (by omega) (by omega)
 exact ⟨N,fun k hk=>hN k hk k hk⟩
end
section
def bestStep(y b:BoardD):BoardD:=if y.1=0 then b else if (sizeL b.2.2:Int)<(sizeL y.2.2:Int) then b else y
def bestOf(l:List BoardD):BoardD:=l.foldl bestStep (0,0,[])
noncomputable def yF(y:YS)(b:BoardD):YS:=if (yBest y).1=0 then ySet y b else if (sizeL b.2.2:Int)<(sizeL (yBest y).2.2:Int) then ySet y b else y
theorem ZU1(y:YS)(b:BoardD):yBest (yF y b)=bestStep (yBest y) b:=by
 unfold yF bestStep
 split
 ·rfl
 ·split<;>rfl
theorem yF_c(y:YS)(b:BoardD):yC (yF y b)=yC y:=by
 unfold yF
 split
 ·rfl
 ·split<;>rfl
theorem ZTU: ∀(l:List BoardD) (y:YS),yBest (l.foldl yF y)=l.foldl bestStep (yBest y)
 |[],y=>rfl
 |b::l,y=>by rw[List.foldl_cons,List.foldl_cons,ZTU l,ZU1]
theorem Zqj(c:ChD)(h:challOK c=true):Ev (fun k=>Zbe k c) (bestOf (solsOf c),decide ((bestOf (solsOf c)).1>0)):=by
 have ha:=Z90 h
 have e0:Ev (fun k=>iLoop k yC (yStep k) (yStart c)) ((solsOf c).foldl yF (yStart c)):=by
  refine ZTW (I:=fun y=>yC y=c∧(yBest y).2.2.length≤1000) h (fun y hy=>hy.1) (fun y m hm hy=>⟨(yF_c y _).trans hy.1,?_⟩) (fun y m hm hy=> ?_) ⟨rfl,by show ([]:List CellD).length≤1000;simp⟩
  ·rw [ZU1]
   unfold bestStep
   split
   ·rw [Z3t]; omega
   ·split
    ·rw[Z3t];omega
    ·exact hy.2
  ·simp only [yStep]
   unfold yF
   by_cases h1:(yBest y).1=0
   ·simp only [h1, decide_true, if_true]; exact Ev.some _
   ·simp only [h1, decide_false, Bool.false_eq_true, if_false]
    refine Ev.bind (Zf3 (boardAt c m) (by rw[Z3t];omega)) (Ev.bind (Zf3 (yBest y) (by omega)) ?_)
    by_cases h2:(sizeL (boardAt c m).2.2:Int)<(sizeL (yBest y).2.2:Int)
    ·simp only[h2,decide_true,if_true];exact Ev.some _
    ·simp only[h2,decide_false,Bool.false_eq_true,if_false];exact Ev.some _
 obtain ⟨N,hN⟩:=e0
 refine ⟨N+1,fun k hk=> ?_⟩
 obtain ⟨k,rfl⟩: ∃k',k=k'+1:=⟨k-1,by omega⟩
 simp only[Zbe,hN k (by omega)]
 rw[ZTU]
 rfl
def incrS(l:List Int)(b:BoardD):List Int:=List.set l (sizeL b.2.2) (wrap64 (List.getD l (sizeL b.2.2) 0+1))
noncomputable def bF(y:BS)(b:BoardD):BS:=bSet y (incrS y.1.2.2.1 b)
theorem ZTZ: ∀(l:List BoardD) (y:BS),(l.foldl bF y).1.2.2.1=l.foldl incrS y.1.2.2.1
 |[],y=>rfl
 |b::l,y=>by rw[List.foldl_cons,List.foldl_cons,ZTZ l];rfl
theorem ZGu(l:List Int)(b:BoardD):(incrS l b).length=l.length:=by simp[incrS]
theorem ZGz{c:ChD}(h:challOK c=true)(m:Int):sizeL (boardAt c m).2.2<(c.1*c.2.1+1).toNat:=by
 have ha:=Z90 h
 have:=ZAA (boardAt c m).2.2
 rw[Z3t]at this
 omega
def zerosOf(c:ChD):List Int:=List.replicate (c.1*c.2.1+1).toNat 0
theorem Zx3(c:ChD)(h1:c.2.2.1.length≤1000000)(h2:c.2.2.2.1.length≤1000000):Ev (fun k=>Z9t k c) (if challOK c=true then ((solsOf c).foldl incrS (zerosOf c),true) else ([],false)):=by
 refine Ev.succ ?_
 simp only[Z9t]
 refine Ev.bind (ZdL c h1 h2) ?_
 by_cases h : challOK c = true
 ·have ha := Z90 h
  have e0:Ev (fun k=>iLoop k bC (bStep k) (bStart c (zerosOf c))) ((solsOf c).foldl bF (bStart c (zerosOf c))):=by
   refine ZTW (I:=fun y=>bC y=c∧y.1.2.2.1.length=(c.1*c.2.1+1).toNat) h (fun y hy=>hy.1) (fun y m hm hy=>⟨hy.1,?_⟩) (fun y m hm hy=> ?_) ⟨rfl,by show (zerosOf c).length=_;simp[zerosOf]⟩
   ·show (incrS y.1.2.2.1 _).length = _
    rw[ZGu];exact hy.2
   ·have hsz := ZGz h m
    simp only[bStep]
    refine Ev.bind (Zf3 (boardAt c m) (by rw[Z3t];omega)) ?_
    have p0:(0:Int)≤(sizeL (boardAt c m).2.2:Int):=by omega
    have p1:(sizeL (boardAt c m).2.2:Int)<(y.1.2.2.1.length:Int):=by rw[hy.2];omega
    simp only[p0,p1,if_true,Int.toNat_natCast]
    exact Ev.some _
  have w1:wrap64 (wrap64 (c.1*c.2.1)+1)=c.1*c.2.1+1:=by rw[w64 (n:=c.1*c.2.1) (by omega) (by omega),w64 (by omega) (by omega)]
  have p0:(0:Int)≤c.1*c.2.1+1:=by omega
  have p1:(c.1*c.2.1+1).toNat*8≤281474976710656:=by omega
  simp only[h,Bool.not_true,Bool.false_eq_true,if_false,w1,p0,p1,if_true]
  obtain ⟨N,hN⟩:=e0
  refine ⟨N,fun k hk=> ?_⟩
  have:=hN k hk
  unfold zerosOf at this⊢
  simp only[this]
  rw[ZTZ]
  rfl
 ·have h' : challOK c = false := by simpa using h
  simp only[h',Bool.not_false,if_true,Bool.false_eq_true,if_false]
  exact Ev.some _
def BestR(c:ChD)(y:BoardD)(v7 v8:Int):Prop:=(y=(0,0,[])∧v7<0)∨(y.1=c.1∧0≤v7∧v7≤7000∧boardAt c v7=y∧v8=(sizeL y.2.2:Int))
theorem Zl0(c:ChD)(h:challOK c=true): ∀(j:Nat) (n:Int) (l:List Int) (v6 v7 v8:Int) (y:BoardD),BestR c y v7 v8→l.length=(c.1*c.2.1+1).toNat→0≤n→n+j=triedOf c→
  ∃v6' v7' v8',Ev (fun k=>Z1k k c.1 c.2.1 c.2.2.1 c.2.2.2.1 c.2.2.2.2 l v6 v7 v8 n) ((solsFrom c j n).foldl incrS l,v6',v7')∧BestR c ((solsFrom c j n).foldl bestStep y) v7' v8'
 | 0, n, l, v6, v7, v8, y, hR, hl, hn, hj => by
  refine ⟨v6,v7,v8,?_,hR⟩
  refine Ev.succ ?_
  simp only[Z1k]
  refine Ev.bind (Zmk c h) ?_
  rw [decide_eq_false (p := n < triedOf c) (by omega)]
  simp only[Bool.false_eq_true,if_false]
  exact Ev.some _
 | j + 1, n, l, v6, v7, v8, y, hR, hl, hn, hj => by
  have ha:=Z90 h
  obtain ⟨⟨c1,c2,c3,c4,a5,a6,a7,a8,a9⟩,_,_,ht⟩:=Z5B h
  have hbo:=Zr2 h hn
  have hsz:=ZGz h n
  have hw:wrap64 (n+1)=n+1:=w64 (by omega) (by omega)
  have hxs: ∀x∈(boardAt c n).2.2,cellOK x=true:=by
   have:=hbo
   unfold boardOK at this
   simp only[Bool.and_eq_true,List.all_eq_true]at this
   exact this.2
  have hlt:n<triedOf c:=by omega
  by_cases hm : meetsB c (boardAt c n) = true
  ·have hR2 : BestR c (bestStep y (boardAt c n)) (if v7 < 0 then n else if (sizeL (boardAt c n).2.2 : Int) < v8 then n else v7) (if v7 < 0 then (sizeL (boardAt c n).2.2 : Int) else if (sizeL (boardAt c n).2.2 : Int) < v8 then (sizeL (boardAt c n).2.2 : Int) else v8) := by
    rcases hR with ⟨rfl,h7⟩|⟨y1,y2,y3,y4,y5⟩
    ·rw [if_pos h7, if_pos h7]
     exact .inr ⟨rfl,hn,by omega,rfl,rfl⟩
    ·have h7 : ¬ v7 < 0 := by omega
     rw[if_neg h7,if_neg h7]
     unfold bestStep
     rw[if_neg (by omega)]
     by_cases hs:(sizeL (boardAt c n).2.2:Int)<v8
     ·rw [if_pos hs, if_pos hs, if_pos (by rw [← y5]; exact hs)]
      exact .inr ⟨rfl,hn,by omega,rfl,rfl⟩
     ·rw [if_neg hs, if_neg hs, if_neg (by rw [← y5]; exact hs)]
      exact .inr ⟨y1,y2,y3,y4,y5⟩
   obtain ⟨w6,w7,w8,e1,e2⟩:=Zl0 c h j (n+1) (incrS l (boardAt c n)) (if v6<0 then n else v6) _ _ _ hR2 ((ZGu ..).trans hl) (by omega) (by omega)
   simp only[solsFrom,hm,if_true,List.foldl_cons]
   refine ⟨w6,w7,w8,?_,e2⟩
   have p0:(0:Int)≤(sizeL (boardAt c n).2.2:Int):=by omega
   have p1:(sizeL (boardAt c n).2.2:Int)<(l.length:Int):=by rw[hl];omega
   refine Ev.succ ?_
   simp only[Z1k]
   refine Ev.bind (Zmk c h) ?_
   simp only[hlt,decide_true,if_true]
   refine Ev.bind (ZiF c (by omega) (by omega) (by omega) n hn (by omega)) (Ev.bind (Zzl c (boardAt c n) hbo a9 (by omega) (ZmR h n)) ?_)
   simp only[hm,Bool.not_true,Bool.false_eq_true,if_false]
   refine Ev.bind (ZQb (boardAt c n) hxs (by rw[Z3t];omega)) ?_
   simp only[p0,p1,if_true,Int.toNat_natCast,hw]
   unfold incrS at e1⊢
   by_cases h6:v6<0<;>by_cases h7:v7<0<;>by_cases h8:(sizeL (boardAt c n).2.2:Int)<v8<;>
    simp only[h6,h7,h8,decide_true,decide_false,if_true,if_false,Bool.false_eq_true]at e1⊢ <;>exact e1
  ·obtain ⟨w6, w7, w8, e1, e2⟩ := Zl0 c h j (n + 1) l v6 v7 v8 y hR hl (by omega) (by omega)
   simp only[solsFrom,hm,Bool.false_eq_true,if_false]
   refine ⟨w6,w7,w8,?_,e2⟩
   have hm':meetsB c (boardAt c n)=false:=by simpa using hm
   refine Ev.succ ?_
   simp only[Z1k]
   refine Ev.bind (Zmk c h) ?_
   simp only[hlt,decide_true,if_true]
   refine Ev.bind (ZiF c (by omega) (by omega) (by omega) n hn (by omega)) (Ev.bind (Zzl c (boardAt c n) hbo a9 (by omega) (ZmR h n)) ?_)
   simp only[hm',Bool.not_false,if_true,hw]
   exact e1
theorem ZxZ(c:ChD)(h:challOK c=true): ∃v6 v7 v8,Ev (fun k=>Zfa k c) ((solsOf c).foldl incrS (zerosOf c),v6,v7)∧BestR c (bestOf (solsOf c)) v7 v8:=by
 have ha:=Z90 h
 have hp:=ZPf h
 obtain ⟨v6,v7,v8,e1,e2⟩:=Zl0 c h (triedOf c).toNat 0 (zerosOf c) (-1) (-1) 0 (0,0,[]) (.inl ⟨rfl,by omega⟩) (by simp[zerosOf]) (by omega) (by omega)
 refine ⟨v6,v7,v8,?_,e2⟩
 have w1:wrap64 (wrap64 (c.1*c.2.1)+1)=c.1*c.2.1+1:=by rw[w64 (n:=c.1*c.2.1) (by omega) (by omega),w64 (by omega) (by omega)]
 have p0:(0:Int)≤c.1*c.2.1+1:=by omega
 have p1:(c.1*c.2.1+1).toNat*8≤281474976710656:=by omega
 refine Ev.succ ?_
 simp only[Zfa,w1,p0,p1,if_true]
 exact Ev.bind e1 (Ev.some _)
end
section
theorem Zvn: ∀(l:List BoardD) (y:BoardD),1≤y.1→(∀b∈l,1≤b.1)→(l.foldl bestStep y=y∨l.foldl bestStep y∈l)∧sizeL (l.foldl bestStep y).2.2≤sizeL y.2.2∧ ∀b∈l,sizeL (l.foldl bestStep y).2.2≤sizeL b.2.2
 | [], y, hy, hl => ⟨.inl rfl, Nat.le_refl _, by simp⟩
 |b::l,y,hy,hl=>by
  have hb:=hl b (List.mem_cons_self ..)
  have hl2: ∀x∈l,1≤x.1:=fun x hx=>hl x (List.mem_cons_of_mem _ hx)
  rw[List.foldl_cons]
  by_cases hs : (sizeL b.2.2 : Int) < (sizeL y.2.2 : Int)
  ·have he : bestStep y b = b := by unfold bestStep; rw [if_neg (by omega), if_pos hs]
   rw[he]
   obtain ⟨h1,h2,h3⟩:=Zvn l b hb hl2
   refine ⟨?_,by omega,fun x hx=> ?_⟩
   ·rcases h1 with h1 | h1
    ·exact .inr (by rw[h1];exact List.mem_cons_self ..)
    ·exact .inr (List.mem_cons_of_mem _ h1)
   ·rcases List.mem_cons.1 hx with rfl | hx
    ·exact h2
    ·exact h3 x hx
  ·have he : bestStep y b = y := by unfold bestStep; rw [if_neg (by omega), if_neg hs]
   rw[he]
   obtain ⟨h1,h2,h3⟩:=Zvn l y hy hl2
   refine ⟨?_,h2,fun x hx=> ?_⟩
   ·rcases h1 with h1 | h1
    ·exact .inl h1
    ·exact .inr (List.mem_cons_of_mem _ h1)
   ·rcases List.mem_cons.1 hx with rfl | hx
    ·omega
    ·exact h3 x hx
theorem ZWv{l:List BoardD}(hl: ∀b∈l,1≤b.1)(hb:(bestOf l).1>0):bestOf l∈l∧ ∀b∈l,sizeL (bestOf l).2.2≤sizeL b.2.2:=by
 cases l with
 |nil=>exact absurd hb (by simp[bestOf])
 |cons b l=>
  have he:bestOf (b::l)=l.foldl bestStep b:=by
   unfold bestOf
   rw[List.foldl_cons]
   rfl
  obtain ⟨h1,h2,h3⟩:=Zvn l b (hl b (List.mem_cons_self ..)) (fun x hx=>hl x (List.mem_cons_of_mem _ hx))
  rw[he]
  refine ⟨?_,fun x hx=> ?_⟩
  ·rcases h1 with h1 | h1
   ·rw[h1];exact List.mem_cons_self ..
   ·exact List.mem_cons_of_mem _ h1
  ·rcases List.mem_cons.1 hx with rfl | hx
   ·exact h2
   ·exact h3 x hx
theorem ZRO{c:ChD}: ∀(j:Nat) (n:Int),(solsFrom c j n).length≤j
 |0,n=>by simp[solsFrom]
 |j+1,n=>by
  have:=ZRO (c:=c) j (n+1)
  simp only[solsFrom]
  split
  ·simp only[List.length_cons];omega
  ·omega
def cntS(l:List BoardD)(i:Nat):Nat:=(l.filter fun b=>sizeL b.2.2==i).length
theorem ZVs(l:List BoardD)(i:Nat):cntS l i≤l.length:=List.length_filter_le _ _
theorem ZUX(l:List BoardD)(b:BoardD)(i:Nat):cntS (l++[b]) i=cntS l i+if sizeL b.2.2=i then 1 else 0:=by
 unfold cntS
 rw[List.filter_append,List.length_append]
 by_cases h:sizeL b.2.2=i<;>simp[h]
theorem ZRY(m:Nat): ∀(l acc:List BoardD) (s:List Int),s.length=m→(∀i,i<m→List.getD s i 0=(cntS acc i:Int))→(∀b∈l,sizeL b.2.2<m)→acc.length+l.length≤1000000→
  (l.foldl incrS s).length = m ∧ ∀ i, i < m → List.getD (l.foldl incrS s) i 0 = (cntS (acc ++ l) i : Int)
 | [], acc, s, hs, hc, hb, hl => ⟨hs, fun i hi => by rw [List.append_nil]; exact hc i hi⟩
 |b::l,acc,s,hs,hc,hb,hl=>by
  rw[List.foldl_cons]
  have hbs:=hb b (List.mem_cons_self ..)
  have:=ZRY m l (acc++[b]) (incrS s b) ((ZGu s b).trans hs) (fun i hi=>by
   have hle:=ZVs acc (sizeL b.2.2)
   simp only[List.length_cons]at hl
   rw[ZUX]
   unfold incrS
   rw[hc _ hbs,w64 (by omega) (by omega)]
   by_cases h:sizeL b.2.2=i
   ·subst h
    rw[List.getD_eq_getElem?_getD,List.getElem?_set_self (by omega)]
    simp
   ·rw [List.getD_eq_getElem?_getD, List.getElem?_set_ne h, ← List.getD_eq_getElem?_getD, hc i hi, if_neg h]
    simp) (fun x hx=>hb x (List.mem_cons_of_mem _ hx)) (by simp only[List.length_append,List.length_cons,List.length_nil]at hl⊢;omega)
  refine ⟨this.1,fun i hi=> ?_⟩
  rw[this.2 i hi,List.append_assoc]
  rfl
theorem ZB0: ∀(r pre:List Int),(∀x∈r,x=0)→(pre++r).length≤1000000→Ev (fun k=>Zdj k 0 (pre++r) ((pre++r).length:Int) (pre.length:Int)) 0
 |[],pre,hr,hl=>by
  refine Ev.succ ?_
  simp only[Zdj,Zn,decide_false,Bool.false_eq_true,if_false]
  exact Ev.some _
 |x::r,pre,hr,hl=>by
  have ih:=ZB0 r (pre++[x]) (fun y hy=>hr y (List.mem_cons_of_mem _ hy)) (by simpa using hl)
  have hx:=hr x (List.mem_cons_self ..)
  refine Ev.succ ?_
  simp only[Zdj,Zl,Zu,decide_true,if_true,Int.toNat_natCast,Zg]
  rw[Zk pre x r (by omega),hx,show wrap64 ((0:Int)+0)=0 from (by rw[w64 (by omega) (by omega)];rfl)]
  rw[←Ze,hx]at ih
  exact ih
theorem ZTr(l:List Int)(h: ∀x∈l,x=0)(hl:l.length≤1000000):Ev (fun k=>ZoU k l) 0:=by
 have e0:=ZB0 l [] h (by simpa using hl)
 simp only[List.nil_append,List.length_nil,Int.natCast_zero]at e0
 refine Ev.succ ?_
 simp only[ZoU]
 exact Ev.bind e0 (Ev.some _)
theorem Zje(c:ChD)(b:BoardD)(hP:c.2.2.1.length≤1000): ∀(r pre:List CellD),(∀x∈r,x.1=0∨x∈c.2.2.1)→(pre++r).length≤1000000→
  Ev (fun k=>Z2o k c.1 c.2.1 c.2.2.1 c.2.2.2.1 c.2.2.2.2 b.1 b.2.1 b.2.2 (pre++r) ((pre++r).length:Int) (pre.length:Int)) (LR.go (c.1,c.2.1,c.2.2.1,c.2.2.2.1,c.2.2.2.2,b.1,b.2.1,b.2.2))
 | [], pre, hr, hl => by
  refine Ev.succ ?_
  simp only[Z2o,Zn,decide_false,Bool.false_eq_true,if_false]
  exact Ev.some _
 |x::r,pre,hr,hl=>by
  have ih:=Zje c b hP r (pre++[x]) (fun y hy=>hr y (List.mem_cons_of_mem _ hy)) (by simpa using hl)
  have hx:=hr x (List.mem_cons_self ..)
  refine Ev.succ ?_
  simp only[Z2o,Zl,Zu,decide_true,if_true,Int.toNat_natCast,Zg]
  rw[Zk pre x r (by omega)]
  rw[←Ze]at ih
  by_cases h0:x.1=0
  ·simp only [h0, ne_eq, not_true_eq_false, decide_false, Bool.false_eq_true, if_false]
   exact ih
  ·have hm : x ∈ c.2.2.1 := hx.resolve_left h0
   simp only[h0,ne_eq,not_false_eq_true,decide_true,if_true]
   refine Ev.bind (ZyC c.2.2.1 x (by omega)) ?_
   simp only[hm,decide_true,Bool.not_true,Bool.false_eq_true,if_false]
   exact ih
theorem ZxJ(c:ChD)(h:challOK c=true){m:Int}(hm:0≤m)(hmt:meetsB c (boardAt c m)=true):Ev (fun k=>ZaD k c (boardAt c m)) (true,true):=by
 have ha:=Z90 h
 obtain ⟨⟨c1,c2,c3,c4,a5,a6,a7,a8,a9⟩,_,_,ht⟩:=Z5B h
 have hbo:=Zr2 h hm
 have e0:=Zje c (boardAt c m) (by omega) (boardAt c m).2.2 [] (fun x hx=>by
  rcases ZCe h hm x hx with rfl|hx
  ·exact .inl rfl
  ·exact .inr hx) (by rw[List.nil_append,Z3t];omega)
 simp only[List.nil_append,List.length_nil,Int.natCast_zero]at e0
 refine Ev.succ ?_
 simp only[ZaD]
 refine Ev.bind (ZdL c (by omega) (by omega)) ?_
 simp only[h,Bool.not_true,Bool.false_eq_true,if_false]
 refine Ev.bind (Z8A (boardAt c m) (by rw[Z3t];omega)) ?_
 have d1:(boardAt c m).1=c.1:=rfl
 have d2:(boardAt c m).2.1=c.2.1:=rfl
 simp only[hbo,Bool.not_true,Bool.false_eq_true,if_false]
 rw[decide_eq_false (p:=(boardAt c m).1≠c.1) (by simp[d1]),decide_eq_false (p:=(boardAt c m).2.1≠c.2.1) (by simp[d2])]
 simp only[Bool.false_eq_true,if_false]
 refine Ev.bind e0 (Ev.go ?_)
 refine Ev.bind (ZyL c (boardAt c m) hbo a9 (by omega) (ZmR h m) (by rw[Z3t];omega)) ?_
 rw[hmt]
 exact Ev.some _
def Z1B(c:ChD):BoardD×Bool:=if challOK c=true then (bestOf (solsOf c),decide ((bestOf (solsOf c)).1>0)) else ((0,0,[]),false)
theorem ZAo(c:ChD)(h1:c.2.2.1.length≤1000000)(h2:c.2.2.2.1.length≤1000000):Ev (fun k=>Zbj k c) (Z1B c):=by
 refine Ev.succ ?_
 simp only[Zbj]
 unfold Z1B
 refine Ev.bind (ZdL c h1 h2) ?_
 by_cases h:challOK c=true
 ·simp only [h, Bool.not_true, Bool.false_eq_true, if_false, if_true]
  exact Ev.bind (Zqj c h) (Ev.some _)
 ·have h' : challOK c = false := by simpa using h
  simp only[h',Bool.not_false,if_true,Bool.false_eq_true,if_false]
  exact Ev.some _
theorem ZzP(c:ChD)(h1:c.2.2.1.length≤1000000)(h2:c.2.2.2.1.length≤1000000)(h3:c.2.2.2.2.length≤1000000):Ev (fun k=>Zbn k c) (Z1B c):=by
 refine Ev.succ ?_
 simp only[Zbn]
 unfold Z1B
 refine Ev.bind (ZBV c h1 h2 h3) ?_
 by_cases h : challOK c = true
 ·have ha := Z90 h
  obtain ⟨⟨c1,c2,c3,c4,a5,a6,a7,a8,a9⟩,_,_,ht⟩:=Z5B h
  obtain ⟨v6,v7,v8,e1,hR⟩:=ZxZ c h
  simp only[h,Bool.not_true,Bool.false_eq_true,if_false,if_true]
  refine Ev.bind e1 ?_
  rcases hR with ⟨hb,h7⟩|⟨y1,y2,y3,y4,y5⟩
  ·simp only [h7, decide_true, if_true]
   rw[hb]
   exact Ev.some _
  ·have h7 : ¬ v7 < 0 := by omega
   simp only[h7,decide_false,Bool.false_eq_true,if_false]
   refine Ev.bind (ZiF c (by omega) (by omega) (by omega) v7 y2 (by omega)) ?_
   rw[y4]
   refine (Ev.some _).congr ?_
   rw[decide_eq_true (show (bestOf (solsOf c)).1>0 by omega)]
 ·have h' : challOK c = false := by simpa using h
  simp only[h',Bool.not_false,if_true,Bool.false_eq_true,if_false]
  exact Ev.some _
theorem Zwb(c:ChD)(h1:c.2.2.1.length≤1000000)(h2:c.2.2.2.1.length≤1000000)(h3:c.2.2.2.2.length≤1000000):Ev (fun k=>Z9q k c) (if challOK c=true then ((solsOf c).foldl incrS (zerosOf c),true) else ([],false)):=by
 refine Ev.succ ?_
 simp only[Z9q]
 refine Ev.bind (ZBV c h1 h2 h3) ?_
 by_cases h:challOK c=true
 ·obtain ⟨v6, v7, v8, e1, hR⟩ := ZxZ c h
  simp only[h,Bool.not_true,Bool.false_eq_true,if_false,if_true]
  exact Ev.bind e1 (Ev.some _)
 ·have h' : challOK c = false := by simpa using h
  simp only[h',Bool.not_false,if_true,Bool.false_eq_true,if_false]
  exact Ev.some _
end
section
theorem ZM6{c:ChD}(h:challOK c=true):bestOf (solsOf c)=(0,0,[])∨ ∃m,0≤m∧bestOf (solsOf c)=boardAt c m∧meetsB c (boardAt c m)=true∧boardAt c m∈solsOf c∧ ∀b∈solsOf c,sizeL (boardAt c m).2.2≤sizeL b.2.2:=by
 obtain ⟨⟨c1,_⟩,_⟩:=Z5B h
 have hall: ∀b∈solsOf c,1≤b.1:=fun b hb=>by
  obtain ⟨m,_,rfl,_⟩:=Zsf _ _ (by omega) b hb
  exact c1
 by_cases hb : (bestOf (solsOf c)).1 > 0
 ·obtain ⟨h1, h2⟩ := ZWv hall hb
  obtain ⟨m,h3,h4,h5⟩:=Zsf _ _ (by omega) _ h1
  refine .inr ⟨m,h3,h4,by rw[←h4];exact h5,by rw[←h4];exact h1,by rw[←h4];exact h2⟩
 ·left
  generalize solsOf c=l at hall hb
  cases l with
  |nil=>rfl
  |cons b l=>
   exfalso
   have he:bestOf (b::l)=l.foldl bestStep b:=by
    unfold bestOf
    rw[List.foldl_cons]
    rfl
   obtain ⟨h1,_,_⟩:=Zvn l b (hall b (List.mem_cons_self ..)) (fun x hx=>hall x (List.mem_cons_of_mem _ hx))
   rw[he]at hb
   rcases h1 with h1|h1
   ·have := hall b (List.mem_cons_self ..)
    rw[h1]at hb
    omega
   ·have := hall _ (List.mem_cons_of_mem _ h1)
    omega
theorem ZL0(b:BoardD)(hb:boardOK b=true)(hl:b.2.2.length≤1000000):Ev (fun k=>Zgq k b) ((sizeL b.2.2:Int),true):=by
 refine Ev.succ ?_
 simp only[Zgq]
 refine Ev.bind (Z8A b (by omega)) ?_
 simp only[hb,Bool.not_true,Bool.false_eq_true,if_false]
 exact Ev.bind (Zf3 b hl) (Ev.some _)
theorem ZFL(c:ChD)(h:challOK c=true){m:Int}(hm:bestOf (solsOf c)=boardAt c m):Ev (fun k=>ZdD k c) ((sizeL (boardAt c m).2.2:Int),true):=by
 have ha:=Z90 h
 obtain ⟨⟨c1,c2,c3,c4,a5,a6,a7,a8,a9⟩,_,_,ht⟩:=Z5B h
 have es:=Zqj c h
 rw[hm,decide_eq_true (show (boardAt c m).1>0 from by show c.1>0;omega)]at es
 refine Ev.succ ?_
 simp only[ZdD]
 refine Ev.bind (ZdL c (by omega) (by omega)) ?_
 simp only[h,Bool.not_true,Bool.false_eq_true,if_false]
 exact Ev.bind es (Ev.bind (Zf3 (boardAt c m) (by rw[Z3t];omega)) (Ev.some _))
end
set_option maxRecDepth 100000
section
def lists01:Nat→List (List Int)
 |0=>[[]]
 |n+1=>(lists01 n).map (fun l=>0::l)++(lists01 n).map (fun l=>1::l)
theorem ZJ9: ∀(l:List Int),(∀x∈l,x=0∨x=1)→l∈lists01 l.length
 |[],_=>by simp[lists01]
 |x::l,h=>by
  have ih:=ZJ9 l (fun y hy=>h y (List.mem_cons_of_mem _ hy))
  simp only[List.length_cons,lists01,List.mem_append,List.mem_map]
  rcases h x (List.mem_cons_self ..) with rfl|rfl
  ·exact .inl ⟨l,ih,rfl⟩
  ·exact .inr ⟨l,ih,rfl⟩
def exch:List Int→List (Int×Int)×List Int
 |x::y::r=>if x>y then ((2,0)::(1,0)::(exch r).1,y::x::(exch r).2) else ((0,0)::(0,0)::(exch r).1,x::y::(exch r).2)
 |l=>(l.map fun _=>(0,0),l)
def rowOf(r:Nat)(l:List Int):List (Int×Int)×List Int:=if r%2=0 then exch l else match l with
 |x::l=>((0,0)::(exch l).1,x::(exch l).2)
 |[]=>([],[])
def isSort:List Int→Bool
 |x::y::r=>decide (x≤y)&&isSort (y::r)
 |_=>true
def sortGo:Nat→Nat→List Int→Nat×List (Int×Int)
 |0,r,_=>(r,[])
 |f+1,r,l=>if r !=0&&isSort l then (r,[]) else ((sortGo f (r+1) (rowOf r l).2).1,(rowOf r l).1++(sortGo f (r+1) (rowOf r l).2).2)
def zerosIn:List Int→Nat
 |[]=>0
 |x::r=>(if x=0 then 1 else 0)+zerosIn r
def sortB(l:List Int):BoardD:=(((sortGo 12 0 l).1:Int),(l.length:Int),(sortGo 12 0 l).2)
noncomputable def sortChk(k:Nat)(m:Int)(l:List Int):Bool:=(match Z5M (k+40) (m,l) with
  |some (b,s,_)=>decide (b=sortB l)&&decide (s=(zerosIn l:Int))
  |none=>false)&&((match Zfm (k+40) (m,l) with
  |some b=>decide (b=sortB l)
  |none=>false)&&(match ZeS (k+40) (m,l) with
  |some s=>decide (s=(zerosIn l:Int))
  |none=>false))
theorem ZUN(k:Nat)(m:Int):(lists01 1).all (sortChk k m)=true:=by kernel_rfl
theorem ZUO(k:Nat)(m:Int):(lists01 2).all (sortChk k m)=true:=by kernel_rfl
theorem ZUV(k:Nat)(m:Int):(lists01 4).all (sortChk k m)=true:=by kernel_rfl
theorem ZUB(k:Nat)(m:Int):(lists01 8).all (sortChk k m)=true:=by kernel_rfl
def fallAt(b:BoardD)(z:Int)(l:List Int)(c:Nat):Bool:=decide ((fallOf b (groupsOf b) (kindsB b []) (c:Int) b.2.2).1.1=1)&&(decide ((fallOf b (groupsOf b) (kindsB b []) (c:Int) b.2.2).1.2.2≥z)==decide (List.getD l c 0=1))
def fallChk(l:List Int):Bool:=boardOK (sortB l)&&(List.range l.length).all (fallAt (sortB l) (zerosIn l:Int) l)
theorem ZUt:(lists01 1).all fallChk=true:=by kernel_rfl
theorem ZUJ:(lists01 2).all fallChk=true:=by kernel_rfl
theorem ZUT:(lists01 4).all fallChk=true:=by kernel_rfl
end
section
theorem ZUv:(lists01 8).all fallChk=true:=by kernel_rfl
end
section
abbrev TblD:=Int×List Int
def bitsB(l:List Int):Bool:=l.all fun x=>decide (0≤x∧x≤1)
def tblOK(t:TblD):Bool:=decide (0≤t.1∧t.1≤4)&&(decide ((t.2.length:Int)=2^t.1.toNat)&&bitsB t.2)
theorem five{m:Int}(h0:0≤m)(h4:m≤4):m=0∨m=1∨m=2∨m=3∨m=4:=by omega
theorem ZrJ{m:Int}(h0:0≤m)(h4:m≤4):shlS 1 m=2^m.toNat:=by
 rw[ZTP]
 rcases five h0 h4 with rfl|rfl|rfl|rfl|rfl<;>rw[w64 (by decide) (by decide)]<;>decide
theorem ZsC: ∀(r pre:List Int),(pre++r).length≤1000000→Ev (fun k=>Z6o k (pre++r) ((pre++r).length:Int) (pre.length:Int)) (if bitsB r=true then LR.go () else LR.ret false)
 | [], pre, hl => by
  refine Ev.succ ?_
  simp only[Z6o,Zn,decide_false,Bool.false_eq_true,if_false,bitsB,List.all_nil,if_true]
  exact Ev.some _
 |x::r,pre,hl=>by
  have ih:=ZsC r (pre++[x]) (by simpa using hl)
  refine Ev.succ ?_
  simp only[Z6o,Zl,Zu,decide_true,if_true,Int.toNat_natCast,Zg]
  rw [Zk pre x r (by omega)]
  rw [← Ze] at ih
  by_cases h0 : x = 0
  ·have hb : bitsB (x :: r) = bitsB r := by simp [bitsB, h0]
   rw[hb]
   simp only[h0,ne_eq,not_true_eq_false,decide_false,Bool.false_eq_true,if_false]
   rw[h0]at ih
   exact ih
  ·by_cases h1 : x = 1
   ·have hb : bitsB (x :: r) = bitsB r := by simp [bitsB, h1]
    rw[hb]
    simp only[h0,h1,ne_eq,not_true_eq_false,not_false_eq_true,decide_false,decide_true,Bool.false_eq_true,if_false,if_true,show¬(1:Int)=0 by omega]
    rw[h1]at ih
    exact ih
   ·have hb : bitsB (x :: r) = false := by
     have:decide (0≤x∧x≤1)=false:=decide_eq_false (by omega)
     simp only[bitsB,List.all_cons,this,Bool.false_and]
    rw[hb]
    simp only[h0,h1,ne_eq,not_false_eq_true,decide_true,Bool.false_eq_true,if_false,if_true]
    exact Ev.some _
theorem ZOk(l:List Int)(hl:l.length≤1000000):Ev (fun k=>Ziu k l) (bitsB l):=by
 have e0:=ZsC l [] (by simpa using hl)
 simp only[List.nil_append,List.length_nil,Int.natCast_zero]at e0
 refine Ev.succ ?_
 simp only[Ziu]
 refine Ev.bind e0 ?_
 cases bitsB l with
 |true=>simp only[if_true];exact Ev.go (Ev.some _)
 |false=>simp only[Bool.false_eq_true,if_false];exact Ev.ret (Ev.some _)
theorem ZxC(t:TblD)(hl:t.2.length≤1000000):Ev (fun k=>ZeT k t) (tblOK t):=by
 refine Ev.succ ?_
 simp only[ZeT]
 unfold tblOK
 by_cases h0 : t.1 ≥ 0
 ·by_cases h4 : t.1 ≤ 4
  ·rw [ZrJ h0 h4]
   simp only[h0,h4,ge_iff_le,and_self,decide_true,if_true,show¬t.1<0 by omega,if_false,Bool.true_and]
   by_cases h2:(t.2.length:Int)=2^t.1.toNat
   ·simp only [h2, decide_true, if_true, Bool.true_and]
    exact Ev.bind (ZOk t.2 hl) (Ev.some _)
   ·simp only [h2, decide_false, Bool.false_eq_true, if_false, Bool.false_and]
    exact Ev.some _
  ·rw [decide_eq_false (p := 0 ≤ t.1 ∧ t.1 ≤ 4) (by omega)]
   simp only[h0,h4,decide_true,decide_false,if_true,Bool.false_eq_true,if_false,Bool.false_and]
   exact Ev.some _
 ·rw [decide_eq_false (p := 0 ≤ t.1 ∧ t.1 ≤ 4) (by omega)]
  simp only[h0,decide_false,Bool.false_eq_true,if_false,Bool.false_and]
  exact Ev.some _
theorem u_id{m:Int}(h0:0≤m)(h4:m≤4):IntKind.wrap IntKind.u64 m=m:=by
 rcases five h0 h4 with rfl|rfl|rfl|rfl|rfl<;>rfl
theorem ZQr(t:TblD)(hl:t.2.length≤1000000):Ev (fun k=>ZkD k t) (tblOK t):=by
 refine Ev.succ ?_
 simp only[ZkD]
 unfold tblOK
 have e1:Ev (fun k=>Zhz k t.1) (decide (0≤t.1∧t.1≤4)):=by
  refine Ev.succ ?_
  simp only[Zhz]
  exact Ev.bind (Z1U t.1 0 4) (Ev.some _)
 refine Ev.bind e1 ?_
 by_cases h : 0 ≤ t.1 ∧ t.1 ≤ 4
 ·rw [u_id h.1 h.2, ZrJ h.1 h.2]
  simp only[h,and_self,decide_true,if_true,show¬t.1<0 by omega,if_false,Bool.true_and]
  by_cases h2:(t.2.length:Int)=2^t.1.toNat
  ·simp only [h2, decide_true, if_true, Bool.true_and]
   exact Ev.bind (ZlZ t.2 0 1 (by omega)) (Ev.some _)
  ·simp only [h2, decide_false, Bool.false_eq_true, if_false, Bool.false_and]
   exact Ev.some _
 ·simp only [h, decide_false, Bool.false_eq_true, if_false, Bool.false_and]
  exact Ev.some _
def smallT(t:TblD):Bool:=tblOK t&&decide (t.1≤3)
theorem Zvr{t:TblD}(h:smallT t=true):(0≤t.1∧t.1≤3)∧(t.2.length=1∨t.2.length=2∨t.2.length=4∨t.2.length=8)∧(∀x∈t.2,x=0∨x=1)∧(t.2.length:Int)=2^t.1.toNat:=by
 unfold smallT tblOK bitsB at h
 simp only[Bool.and_eq_true,decide_eq_true_eq,List.all_eq_true]at h
 obtain ⟨⟨⟨h0,h4⟩,hl,hb⟩,h3⟩:=h
 refine ⟨⟨h0,h3⟩,?_,fun x hx=>by have:=hb x hx;omega,hl⟩
 rcases five h0 h4 with h|h|h|h|h<;>rw[h]at hl<;>simp at hl<;>omega
theorem ZTI{f:List Int→Bool}(h1:(lists01 1).all f=true)(h2:(lists01 2).all f=true)(h4:(lists01 4).all f=true)(h8:(lists01 8).all f=true){l:List Int}(hl:l.length=1∨l.length=2∨l.length=4∨l.length=8)(hb: ∀x∈l,x=0∨x=1):f l=true:=by
 have hm:=ZJ9 l hb
 rcases hl with h|h|h|h<;>rw[h]at hm
 ·exact List.all_eq_true.1 h1 l hm
 ·exact List.all_eq_true.1 h2 l hm
 ·exact List.all_eq_true.1 h4 l hm
 ·exact List.all_eq_true.1 h8 l hm
theorem ZPz{t:TblD}(h:smallT t=true):(∀k,40≤k→ ∃e,Z5M k t=some (sortB t.2,(zerosIn t.2:Int),e))∧Ev (fun k=>Zfm k t) (sortB t.2)∧Ev (fun k=>ZeS k t) (zerosIn t.2:Int):=by
 obtain ⟨_,hl,hb,_⟩:=Zvr h
 have hc: ∀k,sortChk k t.1 t.2=true:=fun k=>ZTI (ZUN k t.1) (ZUO k t.1) (ZUV k t.1) (ZUB k t.1) hl hb
 have hc2: ∀k,40≤k→(match Z5M k t with
  |some (b,s,_)=>decide (b=sortB t.2)&&decide (s=(zerosIn t.2:Int))
  |none=>false)=true∧(match Zfm k t with
  |some b=>decide (b=sortB t.2)
  |none=>false)=true∧(match ZeS k t with
  |some s=>decide (s=(zerosIn t.2:Int))
  |none=>false)=true:=by
  intro k hk
  obtain ⟨k,rfl⟩: ∃k',k=k'+40:=⟨k-40,by omega⟩
  have:=hc k
  unfold sortChk at this
  simp only[Bool.and_eq_true]at this⊢
  exact this
 refine ⟨fun k hk=> ?_,⟨40,fun k hk=> ?_⟩,⟨40,fun k hk=> ?_⟩⟩
 ·have := (hc2 k hk).1
  split at this
  ·rename_i b s e he
   simp only[Bool.and_eq_true,decide_eq_true_eq]at this
   exact ⟨e,by rw[he,this.1,this.2]⟩
  ·cases this
 ·have := (hc2 k hk).2.1
  split at this
  ·rename_i b he
   exact he.trans (by rw[of_decide_eq_true this])
  ·cases this
 ·have := (hc2 k hk).2.2
  split at this
  ·rename_i b he
   exact he.trans (by rw[of_decide_eq_true this])
  ·cases this
def Zfw(t:TblD):BoardD×Int×Bool:=if smallT t=true then (sortB t.2,(zerosIn t.2:Int),true) else ((0,0,[]),0,false)
theorem ZDN(t:TblD)(hl:t.2.length≤1000000):Ev (fun k=>ZcC k t) (Zfw t):=by
 refine Ev.succ ?_
 simp only[ZcC]
 unfold Zfw
 refine Ev.bind (ZxC t hl) ?_
 by_cases h : tblOK t = true
 ·by_cases h3 : t.1 ≤ 3
  ·have hs : smallT t = true := by unfold smallT; rw [h, decide_eq_true h3]; rfl
   obtain ⟨h1,_,_⟩:=ZPz hs
   simp only[h,hs,Bool.not_true,Bool.false_eq_true,if_false,if_true,show¬t.1>3 by omega,decide_false]
   refine ⟨40,fun k hk=> ?_⟩
   obtain ⟨e,he⟩:=h1 k hk
   show Option.bind (Z5M k t) _=_
   rw[he]
   rfl
  ·have hs : smallT t = false := by unfold smallT; rw [decide_eq_false h3, Bool.and_false]
   simp only[h,hs,Bool.not_true,Bool.false_eq_true,if_false,if_true,show t.1>3 by omega,decide_true]
   exact Ev.some _
 ·have h' : tblOK t = false := by simpa using h
  have hs:smallT t=false:=by unfold smallT;rw[h',Bool.false_and]
  simp only[h',hs,Bool.not_false,Bool.false_eq_true,if_false,if_true]
  exact Ev.some _
theorem ZDm(t:TblD)(hl:t.2.length≤1000000):Ev (fun k=>ZcT k t) (Zfw t):=by
 have e1:Ev (fun k=>Zix k t) (smallT t):=by
  refine Ev.succ ?_
  simp only[Zix]
  unfold smallT
  refine Ev.bind (ZQr t hl) ?_
  by_cases h:tblOK t=true
  ·simp only [h, if_true, Bool.true_and]; exact Ev.some _
  ·have h' : tblOK t = false := by simpa using h
   simp only[h',Bool.false_eq_true,if_false,Bool.false_and];exact Ev.some _
 refine Ev.succ ?_
 simp only[ZcT]
 unfold Zfw
 refine Ev.bind e1 ?_
 by_cases hs:smallT t=true
 ·obtain ⟨_, h2, h3⟩ := ZPz hs
  simp only[hs,Bool.not_true,Bool.false_eq_true,if_false,if_true]
  exact Ev.bind h2 (Ev.bind h3 (Ev.some _))
 ·have hs' : smallT t = false := by simpa using hs
  simp only[hs',Bool.not_false,Bool.false_eq_true,if_false,if_true]
  exact Ev.some _
end
section
theorem ZCh(b:BoardD)(hb:boardOK b=true)(hl:b.2.2.length≤1000000)(c:Int)(h0:0≤c)(h1:c<b.2.1):Ev (fun k=>ZgO k b c) ((fallOf b (groupsOf b) (kindsB b []) c b.2.2).1,true):=by
 have hx: ∀x∈b.2.2,cellOK x=true:=by
  have:=hb
  unfold boardOK at this
  simp only[Bool.and_eq_true,List.all_eq_true]at this
  exact this.2
 obtain ⟨p,hp⟩:=ZJc b hb (groupsOf b) (ZhS b) c h0 h1 b.2.2 rfl hx
 have ev:=ZHb b c (by omega)
 rw[hb,decide_eq_true (show 0≤c∧c<b.2.1 from ⟨h0,h1⟩)]at ev
 refine Ev.succ ?_
 simp only[ZgO,Z8L]
 refine Ev.bind ev ?_
 simp only[Bool.and_self,Bool.not_true,Bool.false_eq_true,if_false]
 refine Ev.bind (Ev.bind (ZkK b hl) (Ev.bind (ZgV b hb) (Ev.bind hp (Ev.some _)))) ?_
 exact Ev.some _
structure Sorts (t:TblD) (b:BoardD) (z:Int):Prop where
 ok:boardOK b=true
 cols:b.2.1=(t.2.length:Int)
 len:b.2.2.length≤1000000
 fall: ∀c:Nat,c<t.2.length→(fallOf b (groupsOf b) (kindsB b []) (c:Int) b.2.2).1.1=1∧(((fallOf b (groupsOf b) (kindsB b []) (c:Int) b.2.2).1.2.2≥z)↔List.getD t.2 c 0=1)
 bits: ∀x∈t.2,x=0∨x=1
 tlen:t.2.length≤8
 split:0≤z∧z≤(t.2.length:Int)
theorem ZMy: ∀l:List Int,zerosIn l≤l.length
 |[]=>Nat.le_refl _
 |x::r=>by
  have:=ZMy r
  simp only[zerosIn,List.length_cons]
  split<;>omega
theorem sorts{t:TblD}(h:smallT t=true):Sorts t (sortB t.2) (zerosIn t.2:Int):=by
 obtain ⟨_,hl,hb,_⟩:=Zvr h
 have hc:=ZTI ZUt ZUJ ZUT ZUv hl hb
 unfold fallChk at hc
 simp only[Bool.and_eq_true,List.all_eq_true,List.mem_range]at hc
 obtain ⟨hok,hf⟩:=hc
 have hz:=ZMy t.2
 refine ⟨hok,rfl,?_,fun c hc=> ?_,hb,by omega,by omega,by omega⟩
 ·have := hok
  unfold boardOK at this
  simp only[Bool.and_eq_true,decide_eq_true_eq]at this
  obtain ⟨⟨a1,a2,a3,a4,a5⟩,_⟩:=this
  have:(sortB t.2).1*(sortB t.2).2.1≤10*9:=Int.mul_le_mul a2 a4 (by omega) (by omega)
  omega
 ·have := hf c hc
  unfold fallAt at this
  simp only[Bool.and_eq_true,decide_eq_true_eq,beq_iff_eq,decide_eq_decide]at this
  exact this
theorem ZuT{t:TblD}{b:BoardD}{z:Int}(hS:Sorts t b z): ∀(r pre:List Int),pre++r=t.2→Ev (fun k=>Z54 k b.1 b.2.1 b.2.2 pre z (pre.length:Int)) (pre++r)
 | [], pre, h => by
  have hl:(pre.length:Int)=b.2.1:=by rw[hS.cols,←h];simp
  refine Ev.succ ?_
  simp only[Z54]
  rw[decide_eq_false (p:=(pre.length:Int)<b.2.1) (by omega)]
  simp only[Bool.false_eq_true,if_false,List.append_nil]
  exact Ev.some _
 |x::r,pre,h=>by
  have hlt:pre.length<t.2.length:=by rw[←h];simp
  have htl:=hS.tlen
  have hlb:(pre.length:Int)<b.2.1:=by rw[hS.cols];omega
  have hgd:List.getD t.2 pre.length 0=x:=by rw[←h];exact Zg _ _ _ _
  have hx:x=0∨x=1:=hS.bits x (by rw[←h];simp)
  obtain ⟨f1,f2⟩:=hS.fall pre.length hlt
  rw[hgd]at f2
  have ih:=ZuT hS r (pre++[x]) (by rw[←h];simp)
  have ev:Ev (fun k=>ZcU k b z (pre.length:Int)) x:=by
   refine Ev.succ ?_
   simp only[ZcU]
   refine Ev.bind (ZCh b hS.ok hS.len _ (by omega) hlb) ?_
   simp only[f1,ne_eq,not_true_eq_false,decide_false,Bool.false_eq_true,if_false]
   by_cases hz:(fallOf b (groupsOf b) (kindsB b []) (pre.length:Int) b.2.2).1.2.2≥z
   ·simp only [hz, decide_true, if_true]
    exact (Ev.some _).congr (f2.1 hz).symm
   ·simp only [hz, decide_false, Bool.false_eq_true, if_false]
    refine (Ev.some _).congr ?_
    rcases hx with hx|hx
    ·exact hx.symm
    ·exact absurd (f2.2 hx) hz
  refine Ev.succ ?_
  simp only[Z54]
  rw[decide_eq_true hlb]
  simp only[if_true]
  refine Ev.bind ev ?_
  have hcap:pre.length+[x].length≤140737488355328/8:=by simp;omega
  simp only[hcap,if_true]
  rw[w64 (by omega) (by omega)]
  rw[show (pre.length:Int)+1=((pre++[x]).length:Int) by simp]
  exact ih.congr (by simp)
theorem ZBK{t:TblD}{b:BoardD}{z:Int}(hS:Sorts t b z):Ev (fun k=>Za1 k b z) t.2:=by
 have e0:=ZuT hS t.2 [] rfl
 simp only[List.nil_append,List.length_nil,Int.natCast_zero]at e0
 refine Ev.succ ?_
 simp only[Za1]
 exact Ev.bind e0 (Ev.some _)
theorem ZrZ(m:Int): ∀(r pre:List Int),(pre++r).length≤1000000→Ev (fun k=>Z3m k m (pre++r) [] (pre++r) ((pre++r).length:Int) (pre.length:Int)) []
 |[],pre,hl=>by
  refine Ev.succ ?_
  simp only[Z3m,Zn,decide_false,Bool.false_eq_true,if_false]
  exact Ev.some _
 |x::r,pre,hl=>by
  have ih:=ZrZ m r (pre++[x]) (by simpa using hl)
  refine Ev.succ ?_
  simp only[Z3m,Zl,Zu,decide_true,if_true,Int.toNat_natCast,Zg,ne_eq,not_true_eq_false,decide_false,Bool.false_eq_true,if_false]
  rw[Zk pre x r (by omega)]
  rw[←Ze]at ih
  exact ih
theorem ZsY(v2:Int)(b1:Int)(o2:List Int): ∀(r pre:List Int),(∀x∈r,x=0∨x=1)→(pre++r).length≤1000000→Ev (fun k=>Z4x k b1 o2 (pre++r) v2 ((pre++r).length:Int) (pre.length:Int)) (LR.go (b1,o2,pre++r,v2))
 |[],pre,hb,hl=>by
  refine Ev.succ ?_
  simp only[Z4x,Zn,decide_false,Bool.false_eq_true,if_false]
  exact Ev.some _
 |x::r,pre,hb,hl=>by
  have ih:=ZsY v2 b1 o2 r (pre++[x]) (fun y hy=>hb y (List.mem_cons_of_mem _ hy)) (by simpa using hl)
  have hx: ¬x<0:=by rcases hb x (List.mem_cons_self ..) with h|h<;>omega
  refine Ev.succ ?_
  simp only[Z4x,Zl,Zu,decide_true,if_true,Int.toNat_natCast,Zg,hx,decide_false,Bool.false_eq_true,if_false]
  rw[Zk pre x r (by omega)]
  rw[←Ze]at ih
  exact ih
end
section
theorem ZPM(t:TblD)(hl:t.2.length≤1000000):Ev (fun k=>ZkA k t t) true:=by
 refine Ev.succ ?_
 simp only[ZkA,decide_true,if_true]
 refine Ev.bind (ZEa t.2 t.2 hl) ?_
 rw[decide_eq_true rfl]
 exact Ev.some _
theorem ZDb{t:TblD}(h:smallT t=true):Ev (fun k=>ZcR k (sortB t.2) (zerosIn t.2:Int) t) ([],true):=by
 have hS:=sorts h
 obtain ⟨⟨m0,m3⟩,hl,hb,hp⟩:=Zvr h
 have ht:tblOK t=true:=by
  unfold smallT at h
  simp only[Bool.and_eq_true]at h
  exact h.1
 have htl:=hS.tlen
 have hsp:=hS.split
 have hcols:(sortB t.2).2.1=(t.2.length:Int):=rfl
 have e1:Ev (fun k=>Zbp k (sortB t.2) (zerosIn t.2:Int)) true:=by
  refine Ev.succ ?_
  simp only[Zbp]
  refine Ev.bind (Z8A (sortB t.2) (by have:=hS.len;omega)) ?_
  simp only[hS.ok,Bool.not_true,Bool.false_eq_true,if_false]
  rw[hcols]
  simp only[show¬(zerosIn t.2:Int)<0 by omega,show¬(zerosIn t.2:Int)>(t.2.length:Int) by omega,decide_false,Bool.false_eq_true,if_false]
  rcases hl with h|h|h|h<;>rw[h]<;>exact Ev.of rfl
 refine Ev.succ ?_
 simp only[ZcR]
 refine Ev.bind e1 ?_
 simp only[Bool.not_true,Bool.false_eq_true,if_false]
 refine Ev.bind (ZxC t (by omega)) ?_
 rw[ZrJ m0 (by omega),hcols,←hp]
 simp only[ht,Bool.not_true,Bool.false_eq_true,if_false,show¬t.1<0 by omega,ne_eq,not_true_eq_false,decide_false]
 refine Ev.bind (ZBK hS) ?_
 have e0:=ZrZ t.1 t.2 [] (by rw[List.nil_append];omega)
 simp only[List.nil_append,List.length_nil,Int.natCast_zero]at e0
 refine Ev.bind (a:=[]) ?_ (Ev.some _)
 refine Ev.succ ?_
 simp only[ZgW]
 exact Ev.bind e0 (Ev.some _)
theorem ZCv{t:TblD}(h:smallT t=true):Ev (fun k=>ZcK k (sortB t.2) (zerosIn t.2:Int) t.1) (t,true):=by
 have hS:=sorts h
 obtain ⟨⟨m0,m3⟩,hl,hb,hp⟩:=Zvr h
 have htl:=hS.tlen
 have hsp:=hS.split
 have hcols:(sortB t.2).2.1=(t.2.length:Int):=rfl
 refine Ev.succ ?_
 simp only[ZcK]
 refine Ev.bind (Z8A (sortB t.2) (by have:=hS.len;omega)) ?_
 rw[ZrJ m0 (by omega),hcols,←hp]
 simp only[hS.ok,Bool.not_true,Bool.false_eq_true,if_false,show¬t.1<0 by omega,show¬t.1>3 by omega,show¬(zerosIn t.2:Int)<0 by omega,show¬(zerosIn t.2:Int)>(t.2.length:Int) by omega,decide_false,ne_eq,not_true_eq_false]
 refine Ev.bind (ZBK hS) ?_
 have e0:=ZsY t.1 0 [] t.2 [] hb (by rw[List.nil_append];omega)
 simp only[List.nil_append,List.length_nil,Int.natCast_zero]at e0
 exact Ev.bind e0 (Ev.go (Ev.some _))
end
section
theorem ZRu{l:List Int}(h: ∀x∈l,Wf (.int .u8) x): ∀x∈l,0≤x∧x≤255:=by
 intro x hx
 have h2:(Lit.int .u8 x).wf=true:=h x hx
 simp only[Lit.wf,Bool.and_eq_true,decide_eq_true_eq]at h2
 have e1:IntKind.u8.min=0:=by decide
 have e2:IntKind.u8.max=255:=by decide
 omega
def Cur(code:List Int)(at' n:Int):Prop:=(∀x∈code,0≤x∧x≤255)∧code.length≤9223372036854775807∧0≤at'∧at'+n≤4611686018427387904
theorem Cur.to{code:List Int}{at' n at2 m:Int}(h:Cur code at' n)(h1:at'≤at2)(h2:at2+m≤at'+n):Cur code at2 m:=⟨h.1,h.2.1,by have:=h.2.2.1;omega,by have:=h.2.2.2;omega⟩
theorem ZJf(n:Int)(h0:0≤n)(h1:n<2^64):IntKind.u64.wrap n=n:=by
 have:(2:Int)^64=18446744073709551616:=by decide
 simp[IntKind.wrap,IntKind.bits,IntKind.signed]
 omega
theorem and255(x:Int):0≤bits BinOp.and IntKind.u64 x 255∧bits BinOp.and IntKind.u64 x 255≤255:=by
 unfold bits
 simp only
 have h:((BitVec.ofInt IntKind.u64.bits x&&&BitVec.ofInt IntKind.u64.bits 255).toNat)≤255:=by
  rw[BitVec.toNat_and]
  exact Nat.and_le_right
 have h2:((2:Int)^64)=18446744073709551616:=by decide
 rw[ZJf _ (Int.natCast_nonneg _) (by omega)]
 omega
theorem ZPq{l:List Int}{i:Int}(h:i<(l.length:Int))(h0:0≤i):List.getD l i.toNat 0∈l:=by
 have hi:i.toNat<l.length:=by omega
 simp only[List.getD,List.getElem?_eq_getElem hi,Option.getD_some]
 exact List.getElem_mem hi
def seedN(s b:Int):Int:=IntKind.wrap IntKind.u64 (IntKind.wrap IntKind.u64 (IntKind.wrap IntKind.u64 (s*6364136223846793005)+IntKind.wrap IntKind.u64 b)+1442695040888963407)
theorem ZUA{code:List Int}{at':Int}(seed:Int)(h:Cur code at' 1): ∃v s,Ev (fun k=>Z7I k (code,at',seed)) (v,at'+1,s)∧0≤v∧v≤255:=by
 obtain ⟨hb,hl,h0,h1⟩:=h
 have w1:wrap64 (at'+1)=at'+1:=w64 (by omega) (by omega)
 have big: ∀x:Int,0≤wrap64 (bits BinOp.and IntKind.u64 x 255)∧wrap64 (bits BinOp.and IntKind.u64 x 255)≤255:=fun x=>by
  have:=and255 x
  rw[w64 (by omega) (by omega)]
  exact this
 by_cases hin:at'<(code.length:Int)
 ·have hx := hb _ (ZPq hin h0)
  have w2:wrap64 (List.getD code at'.toNat 0)=List.getD code at'.toNat 0:=w64 (by omega) (by omega)
  have hle:at'+1≤(code.length:Int):=by omega
  refine ⟨List.getD code at'.toNat 0,seedN seed (List.getD code at'.toNat 0),Ev.succ ?_,hx.1,hx.2⟩
  simp only[Z7I,hin,h0,w1,hle,decide_true,if_true,w2]
  exact Ev.some _
 ·have hle : ¬ at' + 1 ≤ (code.length : Int) := by omega
  refine ⟨wrap64 (bits BinOp.and IntKind.u64 (Int.fdiv (seedN seed 0) (2^min (Int.toNat 40) (IntKind.bits IntKind.u64))) 255),seedN seed 0,Ev.succ ?_,(big _).1,(big _).2⟩
  simp only[Z7I,hin,w1,hle,decide_false,Bool.false_eq_true,if_false]
  exact Ev.some _
theorem ZMs{code:List Int}{at':Int}(seed n:Int)(h:Cur code at' 2): ∃v at2 s,Ev (fun k=>Z1 k (code,at',seed) n) (v,at2,s)∧at'≤at2∧at2≤at'+2∧0≤v∧(n≤1→v=0)∧(1<n→v<n):=by
 by_cases hn : n ≤ 1
 ·refine ⟨0, at', seed, Ev.succ ?_, by omega, by omega, by omega, fun _ => rfl, fun h => by omega⟩
  simp only[Z1,hn,decide_true,if_true]
  exact Ev.some _
 ·obtain ⟨v1, s1, e1, b1, b2⟩ := ZUA seed (h.to (at2 := at') (m := 1) (by omega) (by omega))
  by_cases hb:n>200
  ·obtain ⟨v2, s2, e2, b3, b4⟩ := ZUA s1 (h.to (at2 := at' + 1) (m := 1) (by omega) (by omega))
   have hp:0≤v1*256+v2:=by omega
   refine ⟨Int.tmod (v1*256+v2) n,at'+1+1,s2,Ev.succ ?_,by omega,by omega,Int.tmod_nonneg _ hp,fun h=>by omega,fun _=>Int.tmod_lt_of_pos _ (by omega)⟩
   have hn0: ¬n=0:=by omega
   simp only[Z1,hn,decide_false,Bool.false_eq_true,if_false]
   refine Ev.bind e1 ?_
   simp only[hb,decide_true,if_true]
   refine Ev.bind e2 ?_
   simp only[hn0,if_false]
   rw[w64 (n:=v1*256) (by omega) (by omega),w64 (n:=v1*256+v2) (by omega) (by omega)]
   exact Ev.some _
  ·refine ⟨Int.tmod v1 n, at' + 1, s1, Ev.succ ?_, by omega, by omega, Int.tmod_nonneg _ b1, fun h => by omega, fun _ => Int.tmod_lt_of_pos _ (by omega)⟩
   have hn0: ¬n=0:=by omega
   simp only[Z1,hn,decide_false,Bool.false_eq_true,if_false]
   refine Ev.bind e1 ?_
   simp only[hb,decide_false,Bool.false_eq_true,if_false,hn0]
   exact Ev.some _
theorem Zlr{code:List Int}{at':Int}(seed:Int)(l:List Int)(hl:0<l.length)(h:Cur code at' 2): ∃v at2 s,Ev (fun k=>Zb k (code,at',seed) l) (v,at2,s)∧at'≤at2∧at2≤at'+2∧v∈l:=by
 obtain ⟨v,at2,s,e1,b1,b2,b3,b4,b5⟩:=ZMs seed (l.length:Int) h
 have hlt:v<(l.length:Int):=by
  by_cases h1:(l.length:Int)≤1
  ·rw[b4 h1];omega
  ·exact b5 (by omega)
 refine ⟨List.getD l v.toNat 0,at2,s,Ev.succ ?_,b1,b2,ZPq hlt b3⟩
 simp only[Zb]
 refine Ev.bind e1 ?_
 simp only[b3,hlt,if_true]
 exact Ev.some _
end
section
theorem ZMY{code:List Int}{at':Int}(seed n:Int)(h:Cur code at' 2): ∃b at2 s,Ev (fun k=>ZK k (code,at',seed) n) (b,at2,s)∧at'≤at2∧at2≤at'+2:=by
 obtain ⟨v,at2,s,e1,b1,b2,_⟩:=ZMs seed n h
 refine ⟨decide (v=0),at2,s,Ev.succ ?_,b1,b2⟩
 simp only[ZK]
 exact Ev.bind e1 (Ev.some _)
theorem Zlt{code:List Int}{at':Int}(seed n:Int)(h:Cur code at' 2)(hn:0<n): ∃v at2 s,Ev (fun k=>Z1 k (code,at',seed) n) (v,at2,s)∧at'≤at2∧at2≤at'+2∧0≤v∧v<n:=by
 obtain ⟨v,at2,s,e1,b1,b2,b3,b4,b5⟩:=ZMs seed n h
 refine ⟨v,at2,s,e1,b1,b2,b3,?_⟩
 by_cases h1:n≤1
 ·rw[b4 h1];exact hn
 ·exact b5 (by omega)
end
section
theorem ZGi: ∀(d:Nat) (v:Int) (acc:List (Int×Int)),v+d=8→0≤v→(acc.length:Int)≤2*v→(0<v→0<acc.length)→ ∃l,Ev (fun k=>Z2u k acc v) l∧0<l.length∧l.length≤16
 |0,v,acc,hv,h0,h1,h2=>by
  have hn: ¬v≤7:=by omega
  refine ⟨acc,Ev.succ ?_,h2 (by omega),by omega⟩
  simp only[Z2u,hn,decide_false,Bool.false_eq_true,if_false]
  exact Ev.some _
 |d+1,v,acc,hv,h0,h1,h2=>by
  have hle:v≤7:=by omega
  have hw:wrap64 (v+1)=v+1:=w64 (by omega) (by omega)
  have hal:acc.length+1≤140737488355328/16:=by omega
  have hal2:(acc++[(v,(0:Int))]).length+1≤140737488355328/16:=by simp;omega
  have ht:=Zcd (v,1)
  cases hb:turning (v,1) with
  |true=>
   rw[hb]at ht
   obtain ⟨l,e1,g1,g2⟩:=ZGi d (v+1) (acc++[(v,0)]++[(v,1)]) (by omega) (by omega) (by simp;omega) (by simp)
   refine ⟨l,Ev.succ ?_,g1,g2⟩
   simp only[Z2u,hle,decide_true,if_true,List.length_singleton,hal,hw]
   refine Ev.bind ht ?_
   simp only[if_true,hal2]
   exact e1
  |false=>
   rw[hb]at ht
   obtain ⟨l,e1,g1,g2⟩:=ZGi d (v+1) (acc++[(v,0)]) (by omega) (by omega) (by simp;omega) (by simp)
   refine ⟨l,Ev.succ ?_,g1,g2⟩
   simp only[Z2u,hle,decide_true,if_true,List.length_singleton,hal,hw]
   refine Ev.bind ht ?_
   simp only[Bool.false_eq_true,if_false]
   exact e1
theorem ZUr{code:List Int}{at':Int}(seed:Int)(h:Cur code at' 2): ∃x at2 s,Ev (fun k=>Z5y k (code,at',seed)) (x,at2,s)∧at'≤at2∧at2≤at'+2:=by
 obtain ⟨l,e0,g1,g2⟩:=ZGi 8 0 [] (by omega) (by omega) (by simp) (by omega)
 obtain ⟨v,at2,s,e1,b1,b2,b3,b4⟩:=Zlt seed (l.length:Int) h (by omega)
 refine ⟨(List.getD l v.toNat (0,0)),at2,s,Ev.succ ?_,b1,b2⟩
 have hp:Ev (fun k=>Zcb k) l:=by
  refine Ev.succ ?_
  simp only[Zcb]
  exact Ev.bind e0 (Ev.some _)
 simp only[Z5y]
 refine Ev.bind hp (Ev.bind e1 ?_)
 simp only[b3,b4,if_true]
 exact Ev.some _
theorem ZUQ{code:List Int}{at':Int}(seed:Int)(h:Cur code at' 6): ∃x at2 s,Ev (fun k=>Z1M k (code,at',seed)) (x,at2,s)∧at'≤at2∧at2≤at'+6:=by
 obtain ⟨x,a0,s0,e0,b1,b2⟩:=ZUr seed (h.to (at2:=at') (m:=2) (by omega) (by omega))
 obtain ⟨v,a1,s1,e1,b3,b4,_⟩:=Zlt s0 20 (h.to (at2:=a0) (m:=2) (by omega) (by omega)) (by omega)
 by_cases h0 : v = 0
 ·obtain ⟨y, a2, s2, e2, b5, b6, _⟩ := Zlr s1 [-1, 8] (by simp) (h.to (at2 := a1) (m := 2) (by omega) (by omega))
  refine ⟨(y,x.2),a2,s2,Ev.succ ?_,by omega,by omega⟩
  simp only[Z1M]
  refine Ev.bind e0 (Ev.bind e1 ?_)
  simp only[h0,decide_true,if_true]
  exact Ev.bind e2 (Ev.some _)
 ·by_cases h1 : v = 1
  ·obtain ⟨y, a2, s2, e2, b5, b6, _⟩ := Zlr s1 [-1, 1, 2] (by simp) (h.to (at2 := a1) (m := 2) (by omega) (by omega))
   refine ⟨(x.1,y),a2,s2,Ev.succ ?_,by omega,by omega⟩
   simp only[Z1M]
   refine Ev.bind e0 (Ev.bind e1 ?_)
   subst h1
   simp only[h0,decide_true,decide_false,Bool.false_eq_true,if_false,if_true]
   exact Ev.bind e2 (Ev.some _)
  ·refine ⟨(x.1, x.2), a1, s1, Ev.succ ?_, by omega, by omega⟩
   simp only[Z1M]
   refine Ev.bind e0 (Ev.bind e1 ?_)
   simp only[h0,h1,decide_false,Bool.false_eq_true,if_false]
   exact Ev.some _
theorem ZIX(code:List Int)(n:Nat)(hn:n≤1000)(v1 v2 v8 b30 b31 b50 b51:Int)(o4:List (Int×Int))(hw:wrap64 (v1*v2)=(n:Int)): ∀(d:Nat) (acc:List (Int×Int)) (at' seed:Int),acc.length+d=n→Cur code at' (10*d)→ ∃at2 s l,Ev (fun k=>Zj k at' seed code b30 b31 o4 b50 b51 acc v1 v2 v8) (at2,s,code,b30,b31,o4,b50,b51,l)∧l.length=n∧at'≤at2∧at2≤at'+10*d
 | 0, acc, at', seed, h, hc => by
  have hlt: ¬(acc.length:Int)<(n:Int):=by omega
  refine ⟨at',seed,acc,Ev.succ ?_,by omega,by omega,by omega⟩
  simp only[Zj,hw,hlt,decide_false,Bool.false_eq_true,if_false]
  exact Ev.some _
 |d+1,acc,at',seed,h,hc=>by
  have hlt:(acc.length:Int)<(n:Int):=by omega
  have hal:acc.length+1≤140737488355328/16:=by omega
  have step: ∀(x:Int×Int) (a1 s1:Int),at'≤a1→a1≤at'+10→ ∃at2 s l,Ev (fun k=>Zj k a1 s1 code b30 b31 o4 b50 b51 (acc++[x]) v1 v2 v8) (at2,s,code,b30,b31,o4,b50,b51,l)∧l.length=n∧at'≤at2∧at2≤at'+10*((d+1:Nat):Int):=by
   intro x a1 s1 g1 g2
   obtain ⟨a2,s2,l,e,c1,c2,c3⟩:=ZIX code n hn v1 v2 v8 b30 b31 b50 b51 o4 hw d (acc++[x]) a1 s1 (by simp;omega) (hc.to (at2:=a1) (by omega) (by omega))
   exact ⟨a2,s2,l,e,c1,by omega,by omega⟩
  have part: ∀(a1 s1:Int),at'≤a1→a1≤at'+4→ ∃at2 s l,Ev (fun k=>Option.bind (Z5y k (code,a1,s1)) fun z2=>if decide (z2.1.1=5)=true then Option.bind (ZK k (code,z2.2.1,z2.2.2) 3) fun z3=>if (!z3.1)=true then Option.bind (Z1 k (code,z3.2.1,z3.2.2) 2) fun z4=>Zj k z4.2.1 z4.2.2 code b30 b31 o4 b50 b51 (acc++[(3,z4.1)]) v1 v2 v8 else Zj k z3.2.1 z3.2.2 code b30 b31 o4 b50 b51 (acc++[(z2.1.1,z2.1.2)]) v1 v2 v8 else Zj k z2.2.1 z2.2.2 code b30 b31 o4 b50 b51 (acc++[(z2.1.1,z2.1.2)]) v1 v2 v8) (at2,s,code,b30,b31,o4,b50,b51,l)∧l.length=n∧at'≤at2∧at2≤at'+10*((d+1:Nat):Int):=by
   intro a1 s1 g1 g2
   obtain ⟨x,a2,s2,e2,b1,b2⟩:=ZUr s1 (hc.to (at2:=a1) (m:=2) (by omega) (by omega))
   by_cases hx : x.1 = 5
   ·obtain ⟨q, a3, s3, e3, b3, b4⟩ := ZMY s2 3 (hc.to (at2 := a2) (m := 2) (by omega) (by omega))
    cases q with
    |true=>
     obtain ⟨a5,s5,l,e5,c1,c2,c3⟩:=step (x.1,x.2) a3 s3 (by omega) (by omega)
     refine ⟨a5,s5,l,Ev.bind e2 ?_,c1,c2,c3⟩
     simp only[hx,decide_true,if_true]
     refine Ev.bind e3 ?_
     simp only[Bool.not_true,Bool.false_eq_true,if_false]
     rw[hx]at e5
     exact e5
    |false=>
     obtain ⟨v,a4,s4,e4,b5,b6,_⟩:=Zlt s3 2 (hc.to (at2:=a3) (m:=2) (by omega) (by omega)) (by omega)
     obtain ⟨a5,s5,l,e5,c1,c2,c3⟩:=step (3,v) a4 s4 (by omega) (by omega)
     refine ⟨a5,s5,l,Ev.bind e2 ?_,c1,c2,c3⟩
     simp only[hx,decide_true,if_true]
     refine Ev.bind e3 ?_
     simp only[Bool.not_false,if_true]
     exact Ev.bind e4 e5
   ·obtain ⟨a5, s5, l, e5, c1, c2, c3⟩ := step (x.1, x.2) a2 s2 (by omega) (by omega)
    refine ⟨a5,s5,l,Ev.bind e2 ?_,c1,c2,c3⟩
    simp only[hx,decide_false,Bool.false_eq_true,if_false]
    exact e5
  obtain ⟨q,a1,s1,e1,b1,b2⟩:=ZMY seed v8 (hc.to (at2:=at') (m:=2) (by omega) (by omega))
  cases q with
  |true=>
   obtain ⟨a5,s5,l,e5,c1,c2,c3⟩:=part a1 s1 b1 (by omega)
   refine ⟨a5,s5,l,Ev.succ ?_,c1,c2,c3⟩
   simp only[Zj,hw,hlt,decide_true,if_true]
   refine Ev.bind e1 ?_
   simp only[if_true,List.length_singleton,hal]
   exact e5
  |false=>
   obtain ⟨q2,a2,s2,e2,b3,b4⟩:=ZMY s1 3 (hc.to (at2:=a1) (m:=2) (by omega) (by omega))
   cases q2 with
   |true=>
    obtain ⟨a5,s5,l,e5,c1,c2,c3⟩:=part a2 s2 (by omega) (by omega)
    refine ⟨a5,s5,l,Ev.succ ?_,c1,c2,c3⟩
    simp only[Zj,hw,hlt,decide_true,if_true]
    refine Ev.bind e1 ?_
    simp only[Bool.false_eq_true,if_false]
    refine Ev.bind e2 ?_
    simp only[if_true,List.length_singleton,hal]
    exact e5
   |false=>
    obtain ⟨a5,s5,l,e5,c1,c2,c3⟩:=step (0,0) a2 s2 (by omega) (by omega)
    refine ⟨a5,s5,l,Ev.succ ?_,c1,c2,c3⟩
    simp only[Zj,hw,hlt,decide_true,if_true]
    refine Ev.bind e1 ?_
    simp only[Bool.false_eq_true,if_false]
    refine Ev.bind e2 ?_
    simp only[Bool.false_eq_true,if_false,List.length_singleton,hal,if_true]
    exact e5
theorem ZF2{code:List Int}{at':Int}(seed r c:Int)(n:Nat)(hw:wrap64 (r*c)=(n:Int))(hn:n≤100)(h:Cur code at' 1010): ∃l at2 s,Ev (fun k=>Z2B k (code,at',seed) r c) ((r,c,l),at2,s)∧at'≤at2∧at2≤at'+1010∧l.length=n:=by
 obtain ⟨v,a0,s0,e0,b1,b2,_⟩:=Zlr seed [1,2,2] (by simp) (h.to (at2:=at') (m:=2) (by omega) (by omega))
 obtain ⟨a1,s1,l,e1,c1,c2,c3⟩:=ZIX code n (by omega) r c v 0 0 r c [] hw n [] a0 s0 (by simp) (h.to (at2:=a0) (by omega) (by omega))
 refine ⟨l,a1,s1,Ev.succ ?_,by omega,by omega,c1⟩
 simp only[Z2B]
 exact Ev.bind e0 (Ev.bind e1 (Ev.some _))
theorem ZrK{r c:Int}(r1:1≤r)(r2:r≤10)(c1:1≤c)(c2:c≤9):1≤r*c∧r*c≤90:=by
 have h1:r*c≤10*9:=Int.mul_le_mul r2 c2 (by omega) (by omega)
 have h2:1*1≤r*c:=Int.mul_le_mul r1 c1 (by omega) (by omega)
 omega
theorem ZWx{code:List Int}{at':Int}(seed:Int)(h:Cur code at' 1020): ∃r c l at2 s,Ev (fun k=>Za7 k (code,at',seed)) ((r,c,l),at2,s)∧at'≤at2∧at2≤at'+1020∧1≤r∧r≤10∧1≤c∧c≤9∧(l.length:Int)=r*c:=by
 obtain ⟨q,a0,s0,e0,b1,b2⟩:=ZMY seed 20 (h.to (at2:=at') (m:=2) (by omega) (by omega))
 cases q with
 |true=>
  obtain ⟨r,a1,s1,e1,b3,b4,b5⟩:=Zlr s0 [1,10] (by simp) (h.to (at2:=a0) (m:=2) (by omega) (by omega))
  obtain ⟨c,a2,s2,e2,b6,b7,b8⟩:=Zlr s1 [1,9] (by simp) (h.to (at2:=a1) (m:=2) (by omega) (by omega))
  simp only[List.mem_cons,List.not_mem_nil,or_false]at b5 b8
  have hp:=ZrK (r:=r) (c:=c) (by omega) (by omega) (by omega) (by omega)
  obtain ⟨l,a3,s3,e3,c1,c2,c3⟩:=ZF2 s2 r c (r*c).toNat (by rw[w64 (by omega) (by omega)];omega) (by omega) (h.to (at2:=a2) (by omega) (by omega))
  refine ⟨r,c,l,a3,s3,Ev.succ ?_,by omega,by omega,by omega,by omega,by omega,by omega,by omega⟩
  simp only[Za7]
  refine Ev.bind e0 ?_
  simp only[if_true]
  exact Ev.bind e1 (Ev.bind e2 (Ev.bind e3 (Ev.some _)))
 |false=>
  obtain ⟨r,a1,s1,e1,b3,b4,b5,b6⟩:=Zlt s0 5 (h.to (at2:=a0) (m:=2) (by omega) (by omega)) (by omega)
  obtain ⟨c,a2,s2,e2,b7,b8,b9,b10⟩:=Zlt s1 5 (h.to (at2:=a1) (m:=2) (by omega) (by omega)) (by omega)
  have w1:wrap64 (1+r)=1+r:=w64 (by omega) (by omega)
  have w2:wrap64 (1+c)=1+c:=w64 (by omega) (by omega)
  have hp:=ZrK (r:=1+r) (c:=1+c) (by omega) (by omega) (by omega) (by omega)
  obtain ⟨l,a3,s3,e3,c1,c2,c3⟩:=ZF2 s2 (1+r) (1+c) ((1+r)*(1+c)).toNat (by rw[w64 (by omega) (by omega)];omega) (by omega) (h.to (at2:=a2) (by omega) (by omega))
  refine ⟨1+r,1+c,l,a3,s3,Ev.succ ?_,by omega,by omega,by omega,by omega,by omega,by omega,by omega⟩
  simp only[Za7]
  refine Ev.bind e0 ?_
  simp only[Bool.false_eq_true,if_false]
  refine Ev.bind e1 (Ev.bind e2 ?_)
  simp only[w1,w2]
  exact Ev.bind e3 (Ev.some _)
theorem ZUn{code:List Int}{at':Int}(seed:Int)(h:Cur code at' 1040): ∃b at2 s,Ev (fun k=>ZO k (code,at',seed)) (b,at2,s)∧at'≤at2∧at2≤at'+1040∧b.2.2.length≤91:=by
 obtain ⟨r,c,l,a0,s0,e0,b1,b2,r1,r2,c1,c2,hl⟩:=ZWx seed (h.to (at2:=at') (by omega) (by omega))
 obtain ⟨v,a1,s1,e1,b3,b4,_⟩:=Zlt s0 36 (h.to (at2:=a0) (m:=2) (by omega) (by omega)) (by omega)
 have hp:=ZrK r1 r2 c1 c2
 by_cases v0 : v = 0
 ·subst v0
  obtain ⟨x,a2,s2,e2,b5,b6,_⟩:=Zlr s1 [0,wrap64 (r+1),10,11] (by simp) (h.to (at2:=a1) (m:=2) (by omega) (by omega))
  refine ⟨(x,c,l),a2,s2,Ev.succ ?_,by omega,by omega,by dsimp only;omega⟩
  simp only[ZO]
  refine Ev.bind e0 (Ev.bind e1 ?_)
  simp only[decide_true,if_true]
  exact Ev.bind e2 (Ev.some _)
 by_cases v1 : v = 1
 ·subst v1
  obtain ⟨x,a2,s2,e2,b5,b6,_⟩:=Zlr s1 [0,wrap64 (c+1),9,10] (by simp) (h.to (at2:=a1) (m:=2) (by omega) (by omega))
  refine ⟨(r,x,l),a2,s2,Ev.succ ?_,by omega,by omega,by dsimp only;omega⟩
  simp only[ZO]
  refine Ev.bind e0 (Ev.bind e1 ?_)
  simp only[v0,decide_true,decide_false,Bool.false_eq_true,if_false,if_true]
  exact Ev.bind e2 (Ev.some _)
 by_cases v2 : v = 2
 ·subst v2
  obtain ⟨i,a2,s2,e2,b5,b6,b7,b8⟩:=Zlt s1 (l.length:Int) (h.to (at2:=a1) (m:=2) (by omega) (by omega)) (by omega)
  obtain ⟨x,a3,s3,e3,b9,b10⟩:=ZUQ s2 (h.to (at2:=a2) (by omega) (by omega))
  have hg:Ev (fun k=>Z21 k a1 s1 code 0 0 [] r c l) (a3,s3,code,0,0,[],r,c,List.set l i.toNat (x.1,x.2)):=by
   simp only[Z21]
   refine Ev.bind e2 (Ev.bind e3 ?_)
   simp only[b7,b8,if_true]
   exact Ev.some _
  refine ⟨(r,c,List.set l i.toNat (x.1,x.2)),a3,s3,Ev.succ ?_,by omega,by omega,by dsimp only;rw[List.length_set];omega⟩
  simp only[ZO]
  refine Ev.bind e0 (Ev.bind e1 ?_)
  simp only[v0,v1,decide_true,decide_false,Bool.false_eq_true,if_false,if_true]
  exact Ev.bind hg (Ev.some _)
 by_cases v3:v=3
 ·subst v3
  have h1:1≤(l.length:Int):=by omega
  refine ⟨(r,c,List.drop (Int.toNat 1) l),a1,s1,Ev.succ ?_,by omega,by omega,by dsimp only;rw[List.length_drop];omega⟩
  simp only[ZO]
  refine Ev.bind e0 (Ev.bind e1 ?_)
  simp only[v0,v1,v2,decide_true,decide_false,Bool.false_eq_true,if_false,if_true,h1,Int.le_refl]
  exact Ev.some _
 by_cases v4:v=4
 ·subst v4
  refine ⟨(11,2,List.replicate (Int.toNat 22) (0,0)),a1,s1,Ev.succ ?_,by omega,by omega,by dsimp only;rw[List.length_replicate];decide⟩
  simp only[ZO]
  refine Ev.bind e0 (Ev.bind e1 ?_)
  simp only[v0,v1,v2,v3,decide_true,decide_false,Bool.false_eq_true,if_false,if_true]
  exact Ev.some _
 by_cases v5:v=5
 ·subst v5
  refine ⟨(2,10,List.replicate (Int.toNat 20) (0,0)),a1,s1,Ev.succ ?_,by omega,by omega,by dsimp only;rw[List.length_replicate];decide⟩
  simp only[ZO]
  refine Ev.bind e0 (Ev.bind e1 ?_)
  simp only[v0,v1,v2,v3,v4,decide_true,decide_false,Bool.false_eq_true,if_false,if_true]
  exact Ev.some _
 refine ⟨(r,c,l),a1,s1,Ev.succ ?_,by omega,by omega,by dsimp only;omega⟩
 simp only[ZO]
 refine Ev.bind e0 (Ev.bind e1 ?_)
 simp only[v0,v1,v2,v3,v4,v5,decide_false,Bool.false_eq_true,if_false]
 exact Ev.some _
end
section
end
section
end
section
def EvP{α:Type}(f:Nat→Option α)(Q:α→Prop):Prop:= ∃v,Ev f v∧Q v
section
variable {α β:Type} {f g:Nat→Option α} {Q:α→Prop} {Q1:β→Prop}
theorem EvP.some{v:α}(h:Q v):EvP (fun _=>some v) Q:=⟨v,Ev.some v,h⟩
theorem EvP.succ(h:EvP (fun k=>f (k+1)) Q):EvP f Q:=by
 obtain ⟨v,h1,h2⟩:=h
 exact ⟨v,Ev.succ h1,h2⟩
theorem EvP.bind{x:Nat→Option β}{y:β→Nat→Option α}(h:EvP x Q1)(h2: ∀a,Q1 a→EvP (y a) Q):EvP (fun k=>Option.bind (x k) fun z=>y z k) Q:=by
 obtain ⟨a,h1,h3⟩:=h
 obtain ⟨v,h4,h5⟩:=h2 a h3
 exact ⟨v,Ev.bind h1 h4,h5⟩
theorem EvP.ite{c:Prop}[Decidable c](h1:c→EvP f Q)(h2: ¬c→EvP g Q):EvP (fun k=>if c then f k else g k) Q:=by
 by_cases hc:c
 ·simp only[if_pos hc];exact h1 hc
 ·simp only[if_neg hc];exact h2 hc
theorem EvP.guard{c:Prop}[Decidable c](hc:c)(h:EvP f Q):EvP (fun k=>if c then f k else none) Q:=by
 simp only[if_pos hc];exact h
theorem EvP.mono{Q':α→Prop}(h:EvP f Q)(hq: ∀v,Q v→Q' v):EvP f Q':=by
 obtain ⟨v,h1,h2⟩:=h
 exact ⟨v,h1,hq v h2⟩
theorem EvP.ev{v:α}(h:Ev f v)(hq:Q v):EvP f Q:=⟨v,h,hq⟩
end
section
variable {code:List Int} {at' seed:Int}
theorem Z3O(n:Int)(h:Cur code at' 2)(hn:0<n):EvP (fun k=>Z1 k (code,at',seed) n) (fun r=>at'≤r.2.1∧r.2.1≤at'+2∧0≤r.1∧r.1<n):=by
 obtain ⟨v,a,s,e,h1,h2,h3,h4⟩:=Zlt seed n h hn
 exact ⟨_,e,h1,h2,h3,h4⟩
theorem ZMa(n:Int)(h:Cur code at' 2):EvP (fun k=>ZK k (code,at',seed) n) (fun r=>at'≤r.2.1∧r.2.1≤at'+2):=by
 obtain ⟨v,a,s,e,h1,h2⟩:=ZMY seed n h
 exact ⟨_,e,h1,h2⟩
theorem ZbU(l:List Int)(hl:0<l.length)(h:Cur code at' 2):EvP (fun k=>Zb k (code,at',seed) l) (fun r=>at'≤r.2.1∧r.2.1≤at'+2∧r.1∈l):=by
 obtain ⟨v,a,s,e,h1,h2,h3⟩:=Zlr seed l hl h
 exact ⟨_,e,h1,h2,h3⟩
theorem ZUj(h:Cur code at' 1040):EvP (fun k=>ZO k (code,at',seed)) (fun r=>at'≤r.2.1∧r.2.1≤at'+1040∧r.1.2.2.length≤91):=by
 obtain ⟨x,a,s,e,h1,h2,h3⟩:=ZUn seed h
 exact ⟨_,e,h1,h2,h3⟩
end
end
section
theorem two64:(2:Int)^64=18446744073709551616:=by decide
theorem and1(x:Int):bits BinOp.and IntKind.i64 x 1=0∨bits BinOp.and IntKind.i64 x 1=1:=by
 unfold bits
 simp only
 have h:((BitVec.ofInt IntKind.i64.bits x&&&BitVec.ofInt IntKind.i64.bits 1).toNat)≤1:=by
  rw[BitVec.toNat_and]
  exact Nat.and_le_right
 generalize (BitVec.ofInt IntKind.i64.bits x&&&BitVec.ofInt IntKind.i64.bits 1).toNat=m at h
 have:m=0∨m=1:=by omega
 rcases this with rfl|rfl
 ·left;decide
 ·right;decide
theorem ZVu(s v:Int)(h0:0≤v)(h1:v≤100):EvP (fun k=>ZmD k s v) (fun b=>b=0∨b=1):=by
 refine EvP.succ ?_
 have hw:IntKind.wrap IntKind.u64 v=v:=ZJf v h0 (by rw[two64];omega)
 have hn: ¬v<0:=by omega
 simp only[ZmD,hw,hn,if_false]
 exact EvP.some (and1 _)
section
variable {code:List Int} {at' seed:Int}
end
end
section
theorem ZJ8(a1 a2:Int)(code:List Int)(b0:Int)(o4:List Int)(c0:Int)(o6:List Int)(n few s:Int)(hn:n≤5): ∀(d:Nat) (v i:Int),n≤i+d→0≤i→i≤60→
  EvP (fun k=>Z41 k a1 a2 code b0 o4 c0 o6 n few s v i) (fun z=> ∃w,z=(a1,a2,code,b0,o4,c0,o6,n,few,s,w))
 |0,v,i,h,h0,h6=>by
  refine EvP.succ ?_
  have hlt: ¬i<n:=by omega
  simp only[Z41,hlt,decide_false,Bool.false_eq_true,if_false]
  exact EvP.some ⟨v,rfl⟩
 |d+1,v,i,h,h0,h6=>by
  refine EvP.succ ?_
  simp only[Z41]
  refine EvP.ite (fun hi=> ?_) (fun _=>EvP.some ⟨v,rfl⟩)
  simp only[decide_eq_true_eq]at hi
  have hw:wrap64 (i+1)=i+1:=w64 (by omega) (by omega)
  rw[hw]
  exact EvP.bind (ZVu s i h0 (by omega)) (fun y hy=>ZJ8 a1 a2 code b0 o4 c0 o6 n few s hn d _ (i+1) (by omega) (by omega) (by omega))
theorem ZIZ(code:List Int)(b0:Int)(o4:List Int)(c0:Int)(n few:Int)(m:Nat)(h0:0≤n)(h4:n≤4)(hm:(2:Int)^n.toNat=(m:Int))(hm2:m≤16): ∀(d:Nat) (o:List Int) (at' seed:Int),o.length+d=m→Cur code at' (2*d)→
  EvP (fun k=>Z1r k at' seed code b0 o4 c0 o n few (o.length:Int)) (fun z=> ∃a s l,z=(a,s,code,b0,o4,c0,l)∧l.length=m∧at'≤a∧a≤at'+2*d)
 |0,o,at',seed,h,hc=>by
  refine EvP.succ ?_
  have hlt: ¬(o.length:Int)<(m:Int):=by omega
  simp only[Z1r,u_id h0 h4,ZrJ h0 h4,hm,hlt,show¬n<0 by omega,decide_false,Bool.false_eq_true,if_false]
  exact EvP.some ⟨at',seed,o,rfl,by omega,by omega,by omega⟩
 |d+1,o,at',seed,h,hc=>by
  refine EvP.succ ?_
  have hlt:(o.length:Int)<(m:Int):=by omega
  have hw:wrap64 ((o.length:Int)+1)=(o.length:Int)+1:=w64 (by omega) (by omega)
  simp only[Z1r,u_id h0 h4,ZrJ h0 h4,hm,hlt,show¬n<0 by omega,decide_true,if_false,if_true]
  have go: ∀(x a2 s2:Int),at'≤a2→a2≤at'+2→EvP (fun k=>Z1r k a2 s2 code b0 o4 c0 (o++[x]) n few (wrap64 ((o.length:Int)+1))) (fun z=> ∃a s l,z=(a,s,code,b0,o4,c0,l)∧l.length=m∧at'≤a∧a≤at'+2*((d+1:Nat):Int)):=fun x a2 s2 g1 g2=>by
   rw[hw,show (o.length:Int)+1=((o++[x]).length:Int) by simp]
   refine (ZIZ code b0 o4 c0 n few m h0 h4 hm hm2 d (o++[x]) a2 s2 (by simp;omega) (hc.to g1 (by omega))).mono (fun z hz=> ?_)
   obtain ⟨a,s,l,e,g3,g4,g5⟩:=hz
   exact ⟨a,s,l,e,g3,by omega,by omega⟩
  refine EvP.ite (fun _=> ?_) (fun _=> ?_)
  ·refine EvP.bind (ZJ8 at' seed code b0 o4 c0 o n few (o.length : Int) (by omega) 6 0 0 (by omega) (by omega) (by omega)) (fun z hz => ?_)
   obtain ⟨w,rfl⟩:=hz
   dsimp only
   exact EvP.guard (by simp only[List.length_cons,List.length_nil];omega) (go _ _ _ (by omega) (by omega))
  ·refine EvP.bind (ZMa few (hc.to (by omega) (by omega))) (fun z hz => ?_)
   refine EvP.ite (fun _=> ?_) (fun _=> ?_)
   ·exact EvP.guard (by simp only[List.length_cons,List.length_nil];omega) (go _ _ _ hz.1 hz.2)
   ·exact EvP.guard (by simp only[List.length_cons,List.length_nil];omega) (go _ _ _ hz.1 hz.2)
section
variable {code:List Int} {at' seed:Int}
theorem ZPy(n:Int)(h0:0≤n)(h4:n≤4)(h:Cur code at' 40):EvP (fun k=>Z7u k (code,at',seed) n) (fun r=>at'≤r.2.1∧r.2.1≤at'+40∧1≤r.1.2.length∧r.1.2.length≤16):=by
 refine EvP.succ ?_
 simp only[Z7u]
 refine EvP.bind (ZbU _ (by simp) (h.to (by omega) (by omega))) (fun z hz=> ?_)
 obtain ⟨m,hm,m1,m2⟩: ∃m:Nat,(2:Int)^n.toNat=(m:Int)∧1≤m∧m≤16:=by
  rcases five h0 h4 with h|h|h|h|h<;>rw[h]
  ·exact ⟨1,by decide,by omega,by omega⟩
  ·exact ⟨2,by decide,by omega,by omega⟩
  ·exact ⟨4,by decide,by omega,by omega⟩
  ·exact ⟨8,by decide,by omega,by omega⟩
  ·exact ⟨16,by decide,by omega,by omega⟩
 have e0:=ZIZ code 0 [] n n z.1 m h0 h4 hm m2 m [] z.2.1 z.2.2 (by simp) (h.to (by omega) (by omega))
 simp only[List.length_nil,Int.natCast_zero]at e0
 refine EvP.bind e0 (fun y hy=> ?_)
 obtain ⟨a,s,l,rfl,g1,g2,g3⟩:=hy
 exact EvP.some ⟨by dsimp only;omega,by dsimp only;omega,by dsimp only;omega,by dsimp only;omega⟩
theorem ZVN(h:Cur code at' 50):EvP (fun k=>Zdq k (code,at',seed)) (fun r=>at'≤r.2.1∧r.2.1≤at'+50∧1≤r.1.2.length∧r.1.2.length≤16):=by
 refine EvP.succ ?_
 simp only[Zdq]
 refine EvP.bind (ZbU _ (by simp) (h.to (by omega) (by omega))) (fun z hz=> ?_)
 have hz1:0≤z.1∧z.1≤4:=by
  have:=hz.2.2
  simp only[List.mem_cons,List.not_mem_nil,or_false]at this
  omega
 exact EvP.bind (ZPy z.1 hz1.1 hz1.2 (h.to (by omega) (by omega))) (fun y hy=>EvP.some ⟨by dsimp only;omega,by dsimp only;omega,hy.2.2.1,hy.2.2.2⟩)
theorem ZU3(h:Cur code at' 60):EvP (fun k=>Zaw k (code,at',seed)) (fun r=>at'≤r.2.1∧r.2.1≤at'+60∧r.1.2.length≤32):=by
 refine EvP.succ ?_
 simp only[Zaw]
 refine EvP.bind (ZVN (h.to (by omega) (by omega))) (fun z hz=> ?_)
 refine EvP.bind (Z3O 30 (h.to (by omega) (by omega)) (by omega)) (fun y hy=> ?_)
 refine EvP.ite (fun _=> ?_) (fun _=>EvP.ite (fun _=> ?_) (fun _=>EvP.ite (fun _=> ?_) (fun _=>EvP.ite (fun _=> ?_) (fun _=> ?_))))
 ·exact EvP.bind (ZbU _ (by simp) (h.to (by omega) (by omega))) (fun x hx => EvP.some ⟨by dsimp only; omega, by dsimp only; omega, by dsimp only; omega⟩)
 ·simp only [Z3q]
  refine EvP.bind (Q1:=fun z9=>at'≤z9.1∧z9.1≤at'+60∧z9.2.2.2.2.2.2.length≤32) ?_ (fun z9 h9=>EvP.some ⟨h9.1,h9.2.1,h9.2.2⟩)
  refine EvP.bind (Z3O _ (h.to (by omega) (by omega)) (by omega)) (fun w hw=> ?_)
  refine EvP.bind (ZbU _ (by simp) (h.to (by omega) (by omega))) (fun x hx=> ?_)
  exact EvP.guard (by omega) (EvP.guard (by omega) (EvP.some ⟨by dsimp only;omega,by dsimp only;omega,by dsimp only;rw[List.length_set];omega⟩))
 ·exact EvP.guard (by omega) (EvP.guard (by omega) (EvP.some ⟨by dsimp only;omega,by dsimp only;omega,by dsimp only;rw[List.length_drop];omega⟩))
 ·exact EvP.some ⟨by dsimp only;omega,by dsimp only;omega,by dsimp only;rw[List.length_replicate];decide⟩
 ·exact EvP.some ⟨by dsimp only;omega,by dsimp only;omega,by dsimp only;omega⟩
theorem ZSt(h:Cur code at' 100):EvP (fun k=>Z86 k (code,at',seed)) (fun r=>r.1.2.length≤32):=by
 refine EvP.succ ?_
 simp only[Z86]
 refine EvP.bind (ZMa 8 (h.to (by omega) (by omega))) (fun z hz=> ?_)
 refine EvP.ite (fun _=> ?_) (fun _=> ?_)
 ·exact EvP.bind (ZU3 (h.to (by omega) (by omega))) (fun y hy => EvP.some hy.2.2)
 ·refine EvP.bind (ZbU _ (by simp) (h.to (by omega) (by omega))) (fun y hy => ?_)
  have hz1:0≤y.1∧y.1≤4:=by
   have:=hy.2.2
   simp only[List.mem_cons,List.not_mem_nil,or_false]at this
   omega
  exact EvP.bind (ZPy y.1 hz1.1 hz1.2 (h.to (by omega) (by omega))) (fun x hx=>EvP.some (by dsimp only;omega))
end
theorem ZGk(code:List Int)(h:Cur code 0 6000):EvP (fun k=>Z8d k code) (fun r=>r.2.length≤32):=by
 refine EvP.succ ?_
 simp only[Z8d]
 exact EvP.bind (ZSt (h.to (by omega) (by omega))) (fun z hz=>EvP.some hz)
end
section
theorem ZWw{l:List CellD}(h: ∀x∈l,cellOK x=true)(i:Nat):cellOK (List.getD l i (0,0))=true:=by
 rcases Nat.lt_or_ge i l.length with hi|hi
 ·rw [List.getD_eq_getElem?_getD, List.getElem?_eq_getElem hi]
  exact h _ (List.getElem_mem hi)
 ·rw [List.getD_eq_getElem?_getD, List.getElem?_eq_none hi]
  rfl
theorem ZCl(a1 a2:Int)(code:List Int)(b0 b1:Int)(o4:List CellD)(o5 o6:List Int)(R C:Int)(o9 o10:List Int)(all:List CellD)(hA:(all.length:Int)=8)(hx: ∀x∈all,cellOK x=true)(n:Int): ∀(d:Nat) (o:List CellD) (i:Int),n≤((o.length+d:Nat):Int)→o.length+d≤3→(∀x∈o,cellOK x=true)→0≤i→i+d≤100→
  EvP (fun k=>Z3p k a1 a2 code b0 b1 o4 o5 o6 R C o o9 o10 all n i) (fun z=> ∃l,z=(a1,a2,code,b0,b1,o4,o5,o6,R,C,l,o9,o10)∧n≤(l.length:Int)∧l.length≤3∧ ∀x∈l,cellOK x=true)
 |0,o,i,h,hl,ho,hi,hj=>by
  refine EvP.succ ?_
  have hlt: ¬(o.length:Int)<n:=by omega
  simp only[Z3p,hlt,decide_false,Bool.false_eq_true,if_false]
  exact EvP.some ⟨o,rfl,by omega,by omega,ho⟩
 |d+1,o,i,h,hl,ho,hi,hj=>by
  refine EvP.succ ?_
  have hw:wrap64 (i+1)=i+1:=w64 (by omega) (by omega)
  have ht:=Zra (n:=i) (m:=8) hi (by omega)
  simp only[Z3p,hA,hw,show¬(8:Int)=0 by omega,if_false]
  refine EvP.ite (fun _=> ?_) (fun hlt=>EvP.some ⟨o,rfl,by simp only[decide_eq_true_eq]at hlt;omega,by omega,ho⟩)
  refine EvP.guard ht.1 (EvP.guard ht.2 (EvP.guard (by simp only[List.length_cons,List.length_nil];omega) ?_))
  refine ZCl a1 a2 code b0 b1 o4 o5 o6 R C o9 o10 all hA hx n d _ (i+1) (by rw[List.length_append];simp only[List.length_cons,List.length_nil];omega) (by rw[List.length_append];simp only[List.length_cons,List.length_nil];omega) (fun x hx'=> ?_) (by omega) (by omega)
  rcases List.mem_append.1 hx' with h5|h5
  ·exact ho x h5
  ·rw[List.mem_singleton.1 h5];exact ZWw hx _
theorem ZCd(code:List Int)(b0 b1:Int)(o4:List CellD)(o5 o6:List Int)(R C:Int)(hC:0<C)(o8:List CellD)(o10:List Int): ∀(d:Nat) (o:List Int) (at' seed:Int),o.length+d≤4→(∀e∈o,0≤e∧e<C)→Cur code at' (2*d)→
  EvP (fun k=>Z3k k at' seed code b0 b1 o4 o5 o6 R C o8 o o10 (d:Int)) (fun z=> ∃a s l,z=(a,s,code,b0,b1,o4,o5,o6,R,C,o8,l,o10)∧l.length=o.length+d∧(∀e∈l,0≤e∧e<C)∧at'≤a∧a≤at'+2*d)
 | 0, o, at', seed, hl, ho, hc => by
  refine EvP.succ ?_
  have hlt: ¬((0:Nat):Int)>0:=by omega
  simp only[Z3k,hlt,decide_false,Bool.false_eq_true,if_false]
  exact EvP.some ⟨at',seed,o,rfl,by omega,ho,by omega,by omega⟩
 |d+1,o,at',seed,hl,ho,hc=>by
  refine EvP.succ ?_
  have hlt:((d+1:Nat):Int)>0:=by omega
  have hw:wrap64 (((d+1:Nat):Int)-1)=(d:Int):=by rw[w64 (by omega) (by omega)];omega
  simp only[Z3k,Z2t,hlt,decide_true,if_true]
  refine EvP.bind (Q1:=fun z=> ∃a s e:Int,z=(a,s,code,b0,b1,o4,o5,o6,R,C,o8,o++[e],o10,((d+1:Nat):Int))∧0≤e∧e<C∧at'≤a∧a≤at'+2) ?_ (fun z hz=> ?_)
  ·refine EvP.bind (Z3O C (hc.to (by omega) (by omega)) hC) (fun y hy => ?_)
   exact EvP.guard (by simp only[List.length_cons,List.length_nil];omega) (EvP.some ⟨_,_,_,rfl,hy.2.2.1,hy.2.2.2,hy.1,hy.2.1⟩)
  ·obtain ⟨a, s, e, rfl, g1, g2, g3, g4⟩ := hz
   dsimp only
   rw[hw]
   refine (ZCd code b0 b1 o4 o5 o6 R C hC o8 o10 d (o++[e]) a s (by simp;omega) (fun c hc'=> ?_) (hc.to (by omega) (by omega))).mono (fun z hz=> ?_)
   ·rcases List.mem_append.1 hc' with h5 | h5
    ·exact ho c h5
    ·rw[List.mem_singleton.1 h5];exact ⟨g1,g2⟩
   ·obtain ⟨a3, s3, l, e3, k1, k2, k3, k4⟩ := hz
    exact ⟨a3,s3,l,e3,by rw[k1,List.length_append];simp only[List.length_cons,List.length_nil];omega,k2,by omega,by omega⟩
theorem ZRr{R C:Int}{P:List CellD}{o9 o10:List Int}(r1:1≤R)(r2:R≤10)(c1:1≤C)(c2:C≤9)(hp: ∀x∈P,cellOK x=true){n:Int}(hn:0≤n):boardOK (boardAt (R,C,P,o9,o10) n)=true:=by
 have ha:=ZrK r1 r2 c1 c2
 unfold boardOK
 rw[Z3t]
 simp only[Bool.and_eq_true,decide_eq_true_eq,List.all_eq_true]
 refine ⟨⟨r1,r2,c1,c2,?_⟩,fun x hx=> ?_⟩
 ·show ((R * C).toNat : Int) = R * C
  omega
 ·rcases Zw0 _ _ _ hn (by simp) x hx with rfl | hx
  ·rfl
  ·exact hp x hx
theorem ZUC{b:BoardD}{o:List CellD}(h:boardOK (b.1,b.2.1,o)=true)(G K:List Int)(c:Int):boardOK (b.1,b.2.1,(fallOf (b.1,b.2.1,o) G K c o).2)=true:=by
 unfold boardOK at h⊢
 simp only[Bool.and_eq_true,decide_eq_true_eq,List.all_eq_true]at h⊢
 have hp:=congrArg List.length (ZrT (b.1,b.2.1,o) G K c h.2)
 rw[List.length_map,List.length_map]at hp
 exact ⟨by rw[hp];exact h.1,Zit _ G K c h.2⟩
theorem ZUS{l:List Int}{i:Nat}(h:i<l.length):List.getD l i 0∈l:=by
 rw[List.getD_eq_getElem?_getD,List.getElem?_eq_getElem h]
 exact List.getElem_mem h
theorem ZBJ(a1 a2:Int)(code:List Int)(b0 b1:Int)(o4:List CellD)(o5 o6:List Int)(R C:Int)(o8:List CellD)(b:BoardD)(hb:boardOK b=true)(en:List Int)(hl:en.length≤1000)(hc: ∀e∈en,0≤e∧e<b.2.1): ∀(d i:Nat) (o:List CellD) (o10:List Int),i+d=en.length→o10.length=i→boardOK (b.1,b.2.1,o)=true→
  EvP (fun k=>Z3j k a1 a2 code b0 b1 o4 o5 o6 R C o8 en o10 b.1 b.2.1 b.2.2 b.1 b.2.1 o (en.length:Int) (i:Int)) (fun z=> ∃l,z=(a1,a2,code,b0,b1,o4,o5,o6,R,C,o8,en,l)∧l.length=en.length)
 |0,i,o,o10,h,h1,hb'=>by
  refine EvP.succ ?_
  have hlt: ¬(i:Int)<(en.length:Int):=by omega
  simp only[Z3j,hlt,decide_false,Bool.false_eq_true,if_false]
  exact EvP.some ⟨o10,rfl,by omega⟩
 |d+1,i,o,o10,h,h1,hb'=>by
  refine EvP.succ ?_
  have hlt:(i:Int)<(en.length:Int):=by omega
  have hg:=hc _ (ZUS (l:=en) (i:=i) (by omega))
  have hrun:=ZBy (b.1,b.2.1,o) hb' (List.getD en i 0) hg.1 hg.2
  simp only[Z3j,hlt,decide_true,if_true,show (0:Int)≤(i:Int) by omega,Int.toNat_natCast]
  refine EvP.bind (EvP.ev (Q:=fun v=> ∃f o',v=(f,b.1,b.2.1,o')∧boardOK (b.1,b.2.1,o')=true) hrun ⟨_,_,rfl,ZUC hb' _ _ _⟩) (fun v hv=> ?_)
  obtain ⟨f,o',rfl,hb2⟩:=hv
  dsimp only
  refine EvP.bind (EvP.ev (Q:=fun _=>True) (ZFW b hb _) trivial) (fun e _=> ?_)
  refine EvP.guard (by simp only[List.length_cons,List.length_nil];omega) ?_
  rw[show wrap64 ((i:Int)+1)=((i+1:Nat):Int) by rw[w64 (by omega) (by omega)];omega]
  exact ZBJ a1 a2 code b0 b1 o4 o5 o6 R C o8 b hb en hl hc d (i+1) o' (o10++[e]) (by omega) (by simp;omega) hb2
section
variable {code:List Int} {at' seed:Int}
theorem ZWf(n m:Int)(h:Cur code at' 2)(hn:n≤m)(hm:0≤m):EvP (fun k=>Z1 k (code,at',seed) n) (fun r=>at'≤r.2.1∧r.2.1≤at'+2∧0≤r.1∧r.1≤m):=by
 obtain ⟨v,a,s,e,h1,h2,h3,h4,h5⟩:=ZMs seed n h
 refine ⟨_,e,h1,h2,h3,?_⟩
 show v≤m
 by_cases hc:n≤1
 ·rw[h4 hc];exact hm
 ·have:=h5 (by omega);omega
theorem ZWm(a b:Int):EvP (fun k=>Z1l k a b) (fun m=>m≤a):=by
 refine EvP.succ ?_
 simp only[Z1l]
 exact EvP.ite (fun _=>EvP.some (by omega)) (fun h=>EvP.some (by simp only[decide_eq_true_eq]at h;omega))
set_option maxHeartbeats 1000000 in
theorem ZSS(h:Cur code at' 60):EvP (fun k=>Z9w k (code,at',seed)) (fun r=>at'≤r.2.1∧r.2.1≤at'+60∧1≤r.1.2.2.1.length∧r.1.2.2.1.length≤3∧1≤r.1.2.2.2.1.length∧r.1.2.2.2.1.length≤4∧1≤r.1.2.2.2.2.length∧r.1.2.2.2.2.length≤4):=by
 refine EvP.succ ?_
 simp only[Z9w]
 refine EvP.bind (Z3O 2 (h.to (by omega) (by omega)) (by omega)) (fun z0 h0=> ?_)
 refine EvP.bind (Z3O 3 (h.to (by omega) (by omega)) (by omega)) (fun z1 h1=> ?_)
 refine EvP.bind (Z3O 3 (h.to (by omega) (by omega)) (by omega)) (fun z2 h2=> ?_)
 refine EvP.bind (Z3O _ (h.to (by omega) (by omega)) (by decide)) (fun z3 h3=> ?_)
 have h38:z3.1<8:=h3.2.2.2
 have wR:wrap64 (1+z0.1)=1+z0.1:=w64 (by omega) (by omega)
 have wC:wrap64 (1+z1.1)=1+z1.1:=w64 (by omega) (by omega)
 have wn:wrap64 (1+z2.1)=1+z2.1:=w64 (by omega) (by omega)
 rw[wR,wC,wn]
 refine EvP.bind (ZCl z3.2.1 z3.2.2 code 0 0 [] [] [] (1+z0.1) (1+z1.1) [] [] _ rfl (by decide) (1+z2.1) 3 [] z3.1 (by simp only[List.length_nil];omega) (by simp) (fun x hx=>by cases hx) h3.2.2.1 (by omega)) (fun z hz=> ?_)
 obtain ⟨P,rfl,p1,p2,p3⟩:=hz
 dsimp only
 refine EvP.bind (Z3O 4 (h.to (by omega) (by omega)) (by omega)) (fun z5 h5=> ?_)
 have w5:wrap64 (1+z5.1)=((1+z5.1).toNat:Int):=by rw[w64 (by omega) (by omega)];omega
 rw[w5]
 refine EvP.bind (ZCd code 0 0 [] [] [] (1+z0.1) (1+z1.1) (by omega) P [] (1+z5.1).toNat [] z5.2.1 z5.2.2 (by simp only[List.length_nil];omega) (fun e he=>by cases he) (h.to (by omega) (by omega))) (fun z hz=> ?_)
 obtain ⟨a2,s2,en,rfl,n1,n2,q1,q2⟩:=hz
 simp only[List.length_nil]at n1
 dsimp only
 have hp:=ZrK (r:=1+z0.1) (c:=1+z1.1) (by omega) (by omega) (by omega) (by omega)
 refine EvP.bind (Q1:=fun z=> ∃a s v:Int,z=(a,s,code,0,0,[],[],[],1+z0.1,1+z1.1,P,en,[],(boardAt (1+z0.1,1+z1.1,P,en,[]) v).1,(boardAt (1+z0.1,1+z1.1,P,en,[]) v).2.1,(boardAt (1+z0.1,1+z1.1,P,en,[]) v).2.2)∧0≤v∧a2≤a∧a≤a2+2) ?_ (fun z hz=> ?_)
 ·simp only [Z2s]
  obtain ⟨o,e1,t1,t2⟩:=ZoK (1+z0.1,1+z1.1,P,en,[]) (by show P.length≤1000;omega) (by show 0≤(1+z0.1)*(1+z1.1);omega) (by show (1+z0.1)*(1+z1.1)≤1000000;omega)
  refine EvP.bind (EvP.ev (Q:=fun v=>v=o) e1 rfl) (fun v hv=> ?_)
  refine EvP.bind (ZWm 7000 v) (fun m hm=> ?_)
  refine EvP.bind (ZWf m 7000 (h.to (by omega) (by omega)) hm (by omega)) (fun w hw=> ?_)
  refine EvP.bind (EvP.ev (Q:=fun x=>x=boardAt (1+z0.1,1+z1.1,P,en,[]) w.1) (ZiF (1+z0.1,1+z1.1,P,en,[]) (by show P.length≤1000;omega) (by show 0≤(1+z0.1)*(1+z1.1);omega) (by show (1+z0.1)*(1+z1.1)≤1000;omega) w.1 (by omega) (by omega)) rfl) (fun x hx=> ?_)
  subst hx
  exact EvP.some ⟨_,_,w.1,rfl,by omega,by omega,by omega⟩
 obtain ⟨a3,s3,v,rfl,v0,q3,q4⟩:=hz
 dsimp only
 have hB:boardOK (boardAt (1+z0.1,1+z1.1,P,en,[]) v)=true:=ZRr (by omega) (by omega) (by omega) (by omega) p3 v0
 have e4:=ZBJ a3 s3 code 0 0 [] [] [] (1+z0.1) (1+z1.1) P (boardAt (1+z0.1,1+z1.1,P,en,[]) v) hB en (by omega) n2 en.length 0 (boardAt (1+z0.1,1+z1.1,P,en,[]) v).2.2 [] (by omega) rfl hB
 simp only[Int.natCast_zero]at e4
 refine EvP.bind e4 (fun z hz=> ?_)
 obtain ⟨l,rfl,l1⟩:=hz
 dsimp only
 refine EvP.bind (ZMa 6 (h.to (by omega) (by omega))) (fun z6 h6=> ?_)
 refine EvP.ite (fun _=> ?_) (fun _=>EvP.some ⟨by dsimp only;omega,by dsimp only;omega,by dsimp only;omega,p2,by dsimp only;omega,by dsimp only;omega,by dsimp only;omega,by dsimp only;omega⟩)
 simp only[Z2r]
 have w7:wrap64 (1+z1.1+2)=1+z1.1+2:=w64 (by omega) (by omega)
 rw[w7]
 refine EvP.bind (Q1:=fun z=> ∃(a s:Int) (l2:List Int),z=(a,s,code,0,0,[],[],[],1+z0.1,1+z1.1,P,en,l2)∧l2.length=en.length∧at'≤a∧a≤at'+60) ?_ (fun z hz=> ?_)
 ·exact EvP.bind (Z3O _ (h.to (by omega) (by omega)) (by omega)) (fun w hw => EvP.guard (by omega) (EvP.some ⟨_, _, _, rfl, by rw [List.length_set]; omega, by omega, by omega⟩))
 ·obtain ⟨a5, s5, l2, rfl, g1, g2, g3⟩ := hz
  exact EvP.some ⟨g2,g3,by dsimp only;omega,p2,by dsimp only;omega,by dsimp only;omega,by dsimp only;omega,by dsimp only;omega⟩
end
end
section
theorem ZRP(C i:Int)(x:CellD):0<(kindsAt C i x).length:=by
 unfold kindsAt
 rw[List.length_map]
 refine List.length_pos_of_mem (a:=2) (List.mem_filter.2 ⟨by simp,?_⟩)
 simp[fits]
theorem ZUx{b:BoardD}(hb:boardOK b=true):0<(possFrom b.2.1 0 b.2.2).length:=by
 obtain ⟨g1,g2,g3,g4,g5,g6⟩:=ZY hb
 have hpp:=ZU g1 g2 g3 g4
 have hp:0<b.1*b.2.1:=Int.mul_pos (by omega) (by omega)
 cases hc:b.2.2 with
 |nil=>rw[hc]at g5;simp only[List.length_nil]at g5;omega
 |cons x r=>
  simp only[possFrom,List.length_append]
  have:=ZRP b.2.1 0 x
  omega
theorem ZSE{b:BoardD}{i:Int}(h0:0≤i)(h1:i<((possFrom b.2.1 0 b.2.2).length:Int)):List.getD (possFrom b.2.1 0 b.2.2) i.toNat (0,0,0)∈possFrom b.2.1 0 b.2.2:=by
 have hi:i.toNat<(possFrom b.2.1 0 b.2.2).length:=by omega
 rw[List.getD,List.getElem?_eq_getElem hi]
 exact List.getElem_mem hi
section
variable {code:List Int} {at' seed:Int}
theorem ZPA(r c:Int)(n:Nat)(hw:wrap64 (r*c)=(n:Int))(hn:n≤100)(h:Cur code at' 1010):EvP (fun k=>Z2B k (code,at',seed) r c) (fun z=>at'≤z.2.1∧z.2.1≤at'+1010∧z.1.2.2.length=n):=by
 obtain ⟨l,a,s,e,h1,h2,h3⟩:=ZF2 seed r c n hw hn h
 exact ⟨_,e,h1,h2,h3⟩
theorem ZLE(code:List Int)(b30 b31 b50 b51:Int)(o4 o6:List CellD)(v7:Int)(hb:0<b51): ∀(d:Nat) (o7:List Int) (at' seed:Int),v7≤((o7.length+d:Nat):Int)→o7.length+d≤21→(∀c∈o7,0≤c∧c<b51)→Cur code at' (2*d)→
  EvP (fun k=>Z4C k at' seed code b30 b31 o4 b50 b51 o6 o7 v7) (fun z=> ∃a s l,z=(a,s,code,b30,b31,o4,b50,b51,o6,l)∧l.length≤21∧(∀c∈l,0≤c∧c<b51)∧at'≤a∧a≤at'+2*d)
 |0,o7,at',seed,h,hl,hx,hc=>by
  refine EvP.succ ?_
  have hlt: ¬(o7.length:Int)<v7:=by omega
  simp only[Z4C,hlt,decide_false,Bool.false_eq_true,if_false]
  exact EvP.some ⟨at',seed,o7,rfl,by omega,hx,by omega,by omega⟩
 |d+1,o7,at',seed,h,hl,hx,hc=>by
  refine EvP.succ ?_
  simp only[Z4C]
  refine EvP.ite (fun _=> ?_) (fun _=>EvP.some ⟨at',seed,o7,rfl,by omega,hx,by omega,by omega⟩)
  refine EvP.bind (Z3O b51 (hc.to (by omega) (by omega)) hb) (fun y hy=> ?_)
  refine EvP.guard (by simp only[List.length_cons,List.length_nil];omega) ?_
  refine (ZLE code b30 b31 b50 b51 o4 o6 v7 hb d (o7++[y.1]) y.2.1 y.2.2 (by simp;omega) (by simp;omega) (fun c hc'=> ?_) (hc.to (by omega) (by omega))).mono (fun z hz=> ?_)
  ·rcases List.mem_append.1 hc' with h5 | h5
   ·exact hx c h5
   ·rw[List.mem_singleton.1 h5];exact hy.2.2
  ·obtain ⟨a2, s2, l2, e, g1, g2, g3, g4⟩ := hz
   exact ⟨a2,s2,l2,e,g1,g2,by omega,by omega⟩
def SeenIn(at':Int)(r:BoardD×List Int×List FallD×Int×Int):Prop:=at'≤r.2.2.2.1∧r.2.2.2.1≤at'+4000∧r.1.2.2.length≤91∧r.2.1.length≤21∧r.2.2.1.length≤21
set_option maxHeartbeats 1000000 in
theorem ZSG(b:BoardD)(l:List Int)(s:List FallD)(a e:Int):EvP (fun k=>ZD k a e code 0 0 [] b.1 b.2.1 b.2.2 l s) (fun r=>r=((b.1,b.2.1,b.2.2),l,s,a,e)):=by
 simp only[ZD]
 exact EvP.some rfl
theorem ZRy(h:Cur code at' 4000)(b:BoardD)(hl:b.2.2.length≤91)(cols:List Int)(hc:cols.length≤21)(E:List FallD)(hE:E.length=cols.length)(a e:Int)(h1:at'≤a)(h2:a≤at'+3900):EvP (fun k=>Z2n k a e code 0 0 [] b.1 b.2.1 b.2.2 cols E) (SeenIn at'):=by
 have fin: ∀(l2:List Int) (s2:List FallD) (a2 e2:Int),l2.length=cols.length→s2.length≤cols.length→at'≤a2→a2≤at'+4000→EvP (fun k=>Option.bind (ZD k a2 e2 code 0 0 [] b.1 b.2.1 b.2.2 l2 s2) fun z=>some z) (SeenIn at'):=fun l2 s2 a2 e2 k1 k2 k3 k4=>by
  refine EvP.bind (ZSG b l2 s2 a2 e2) (fun z hz=> ?_)
  subst hz
  exact EvP.some ⟨k3,k4,hl,by dsimp only;omega,by dsimp only;omega⟩
 simp only[Z2n]
 refine EvP.ite (fun hp=> ?_) (fun _=>fin _ _ _ _ rfl (by omega) (by omega) (by omega))
 simp only[decide_eq_true_eq]at hp
 refine EvP.bind (Z3O _ (h.to (by omega) (by omega)) (by omega)) (fun w hw=> ?_)
 refine EvP.guard (by omega) (EvP.guard (by omega) ?_)
 refine EvP.bind (Z3O 30 (h.to (by omega) (by omega)) (by omega)) (fun u hu=> ?_)
 refine EvP.ite (fun _=> ?_) (fun _=>EvP.ite (fun _=> ?_) (fun _=>EvP.ite (fun _=> ?_) (fun _=>EvP.ite (fun _=> ?_) (fun _=>EvP.ite (fun _=> ?_) (fun _=>fin _ _ _ _ rfl (by omega) (by omega) (by omega))))))
 ·exact EvP.bind (ZbU _ (by simp) (h.to (by omega) (by omega))) (fun y hy=>fin _ _ _ _ rfl (by rw[List.length_set];omega) (by omega) (by omega))
 ·exact EvP.bind (ZbU _ (by simp) (h.to (by omega) (by omega))) (fun y hy=>fin _ _ _ _ rfl (by rw[List.length_set];omega) (by omega) (by omega))
 ·exact EvP.bind (ZbU _ (by simp) (h.to (by omega) (by omega))) (fun y hy=>fin _ _ _ _ rfl (by rw[List.length_set];omega) (by omega) (by omega))
 ·exact EvP.guard (by omega) (EvP.guard (by omega) (fin _ _ _ _ rfl (by rw[List.length_drop];omega) (by omega) (by omega)))
 ·exact EvP.bind (ZbU _ (by simp) (h.to (by omega) (by omega))) (fun y hy=>EvP.guard (by omega) (fin _ _ _ _ (List.length_set) (by omega) (by omega) (by omega)))
theorem ZV4(h:Cur code at' 4000):EvP (fun k=>ZcB k (code,at',seed)) (SeenIn at'):=by
 refine EvP.succ ?_
 simp only[ZcB]
 refine EvP.bind (Z3O 4 (h.to (by omega) (by omega)) (by omega)) (fun z0 h0=> ?_)
 refine EvP.bind (Z3O 4 (h.to (by omega) (by omega)) (by omega)) (fun z1 h1=> ?_)
 have w0:wrap64 (1+z0.1)=1+z0.1:=w64 (by omega) (by omega)
 have w1:wrap64 (1+z1.1)=1+z1.1:=w64 (by omega) (by omega)
 have hp:=ZrK (r:=1+z0.1) (c:=1+z1.1) (by omega) (by omega) (by omega) (by omega)
 rw [w0, w1]
 refine EvP.bind (ZPA _ _ ((1+z0.1)*(1+z1.1)).toNat (by rw[w64 (by omega) (by omega)];omega) (by omega) (h.to (by omega) (by omega))) (fun z2 h2=> ?_)
 refine EvP.bind (Z3O 20 (h.to (by omega) (by omega)) (by omega)) (fun z3 h3=> ?_)
 refine EvP.bind (Q1:=fun z=> ∃a s:Int,∃b:BoardD,z=(a,s,code,0,0,[],b.1,b.2.1,b.2.2)∧at'≤a∧a≤at'+3000∧b.2.2.length≤91) ?_ (fun z hz=> ?_)
 ·simp only [ZcX]
  refine EvP.ite (fun _=> ?_) (fun _=>EvP.ite (fun _=> ?_) (fun _=>EvP.some ⟨z3.2.1,z3.2.2,z2.1,rfl,by omega,by omega,by omega⟩))
  ·exact EvP.bind (ZUj (h.to (by omega) (by omega))) (fun z4 h4 => EvP.some ⟨z4.2.1, z4.2.2, z4.1, rfl, by omega, by omega, h4.2.2⟩)
  ·refine EvP.bind (Z3O 2 (h.to (by omega) (by omega)) (by omega)) (fun z5 h5 => ?_)
   have w5:wrap64 (4+z5.1)=4+z5.1:=w64 (by omega) (by omega)
   rw[w5]
   exact EvP.bind (ZPA _ 6 ((4+z5.1)*6).toNat (by rw[w64 (by omega) (by omega)];omega) (by omega) (h.to (by omega) (by omega))) (fun z6 h6=>EvP.some ⟨z6.2.1,z6.2.2,z6.1,rfl,by omega,by omega,by omega⟩)
 obtain ⟨a3,s3,b,rfl,q1,q2,q3⟩:=hz
 dsimp only
 refine EvP.bind (EvP.ev (Q:=fun v=>v=boardOK b) (ZBe b (by omega)) rfl) (fun v hv=> ?_)
 subst hv
 cases hb:boardOK b with
 |false=>
  simp only[Bool.not_false,if_true]
  exact EvP.some ⟨by dsimp only;omega,by dsimp only;omega,q3,by simp,by simp⟩
 |true=>
  obtain ⟨b1,b2,b3,b4,b5,b6⟩:=ZY hb
  have hall:=Zro hb
  have hone:=ZUx hb
  simp only[Bool.not_true,Bool.false_eq_true,if_false]
  refine EvP.bind (Z3O 6 (h.to (by omega) (by omega)) (by omega)) (fun z9 h9=> ?_)
  refine EvP.bind (ZMa 20 (h.to (by omega) (by omega))) (fun z10 h10=> ?_)
  have w9:wrap64 (1+z9.1)=1+z9.1:=w64 (by omega) (by omega)
  rw [w9]
  refine EvP.bind (Q1:=fun z=> ∃a s n:Int,z=(a,s,code,0,0,[],b.1,b.2.1,b.2.2,[],n)∧0≤n∧n≤21∧at'≤a∧a≤at'+3010) ?_ (fun z hz=> ?_)
  ·simp only [Zd7]
   refine EvP.ite (fun _=> ?_) (fun _=>EvP.some ⟨z10.2.1,z10.2.2,1+z9.1,rfl,by omega,by omega,by omega,by omega⟩)
   refine EvP.bind (Z3O 2 (h.to (by omega) (by omega)) (by omega)) (fun z11 h11=> ?_)
   have w11:wrap64 (20+z11.1)=20+z11.1:=w64 (by omega) (by omega)
   rw[w11]
   exact EvP.some ⟨z11.2.1,z11.2.2,_,rfl,by omega,by omega,by omega,by omega⟩
  obtain ⟨a4,s4,n,rfl,n1,n2,q4,q5⟩:=hz
  dsimp only
  refine EvP.bind (ZLE code 0 0 b.1 b.2.1 [] b.2.2 n (by omega) 21 [] a4 s4 (by simpa using n2) (by simp) (fun c hc=>by cases hc) (h.to (by omega) (by omega))) (fun z hz=> ?_)
  obtain ⟨a5,s5,cols,rfl,c1,hcols,q6,q7⟩:=hz
  dsimp only
  refine EvP.bind (Q1:=SeenIn at') ?_ (fun z hz=>EvP.some hz)
  simp only[Zd0]
  refine EvP.bind (EvP.ev (Q:=fun v=>v=possFrom b.2.1 0 b.2.2) (ZqG b hb) rfl) (fun all ha=> ?_)
  subst ha
  have c27:=fun (E:List FallD) (hE:E.length=cols.length) (a e:Int) (h1:at'≤a) (h2:a≤at'+3900)=>EvP.bind (y:=fun z k=>some z) (ZRy h b q3 cols c1 E hE a e h1 h2) (fun z hz=>EvP.some hz)
  refine EvP.bind (Z3O 4 (h.to (by omega) (by omega)) (by omega)) (fun z16 h16=> ?_)
  refine EvP.ite (fun _=> ?_) (fun _=>EvP.ite (fun _=> ?_) (fun _=> ?_))
  ·refine EvP.bind (EvP.ev (Q := fun v => v.1.length = cols.length) (Zi4 b hb [] rfl (by simp) cols (by omega) hcols) (Zj0 _ _ _)) (fun v hv => ?_)
   exact c27 _ hv _ _ (by omega) (by omega)
  ·refine EvP.bind (Q1 := fun z => ∃ a s : Int, ∃ f g : FaultD, z = (a, s, code, 0, 0, [], b.1, b.2.1, b.2.2, cols, f.1, f.2.1, f.2.2, g.1, g.2.1, g.2.2) ∧ f ∈ possFrom b.2.1 0 b.2.2 ∧ at' ≤ a ∧ a ≤ at' + 3080) ?_ (fun z hz => ?_)
   ·simp only [Zd8]
    refine EvP.bind (Z3O _ (h.to (by omega) (by omega)) (by omega)) (fun w hw=> ?_)
    refine EvP.guard (by omega) (EvP.guard (by omega) ?_)
    refine EvP.bind (Z3O _ (h.to (by omega) (by omega)) (by omega)) (fun u hu=> ?_)
    exact EvP.guard (by omega) (EvP.guard (by omega) (EvP.some ⟨u.2.1,u.2.2,_,_,rfl,ZSE (by omega) (by omega),by omega,by omega⟩))
   ·obtain ⟨a6, s6, f, g, rfl, hf, q8, q9⟩ := hz
    dsimp only
    refine EvP.bind (EvP.ev (Q:=fun v=>v=faultsB b [f,g]) (ZRj b hb [f,g] (by simp)) rfl) (fun v hv=> ?_)
    subst hv
    cases hg:faultsB b [f,g]with
    |false=>
     simp only[Bool.not_false,if_true]
     refine EvP.bind (EvP.ev (Q:=fun v=>v.1.length=cols.length) (Zi4 b hb [f] (Zsz hb hf) (by simp) cols (by omega) hcols) (Zj0 _ _ _)) (fun v hv=> ?_)
     exact c27 _ hv _ _ (by omega) (by omega)
    |true=>
     simp only[Bool.not_true,Bool.false_eq_true,if_false]
     refine EvP.bind (EvP.ev (Q:=fun v=>v.1.length=cols.length) (Zi4 b hb [f,g] (ZzM hg).2 (by simp) cols (by omega) hcols) (Zj0 _ _ _)) (fun v hv=> ?_)
     exact c27 _ hv _ _ (by omega) (by omega)
  ·refine EvP.bind (Z3O _ (h.to (by omega) (by omega)) (by omega)) (fun z50 h50 => ?_)
   refine EvP.guard (by omega) (EvP.guard (by omega) ?_)
   refine EvP.bind (EvP.ev (Q:=fun v=>v.1.length=cols.length) (Zi4 b hb [List.getD (possFrom b.2.1 0 b.2.2) z50.1.toNat (0,0,0)] (Zsz hb (ZSE (by omega) (by omega))) (by simp) cols (by omega) hcols) (Zj0 _ _ _)) (fun v hv=> ?_)
   exact c27 _ hv _ _ (by omega) (by omega)
end
theorem ZIH(code:List Int)(h:Cur code 0 6000):EvP (fun k=>Z9y k code) (fun r=>r.1.2.2.length≤91∧r.2.1.length≤21∧r.2.2.length≤21):=by
 refine EvP.succ ?_
 simp only[Z9y]
 exact EvP.bind (ZV4 (h.to (by omega) (by omega))) (fun z hz=>EvP.some ⟨hz.2.2.1,hz.2.2.2.1,hz.2.2.2.2⟩)
end
section
theorem ZEs: ∀(d:Nat) (v:Int) (acc:List CellD),v+d=8→0≤v→v≤(acc.length:Int)→(acc.length:Int)≤2*v→ ∃l,Ev (fun k=>Z2u k acc v) l∧8≤l.length
 |0,v,acc,hv,h0,h1,h2=>by
  have hn: ¬v≤7:=by omega
  refine ⟨acc,Ev.succ ?_,by omega⟩
  simp only[Z2u,hn,decide_false,Bool.false_eq_true,if_false]
  exact Ev.some _
 |d+1,v,acc,hv,h0,h1,h2=>by
  have hle:v≤7:=by omega
  have hw:wrap64 (v+1)=v+1:=w64 (by omega) (by omega)
  have hal:acc.length+1≤140737488355328/16:=by omega
  have hal2:(acc++[(v,(0:Int))]).length+1≤140737488355328/16:=by simp;omega
  have ht:=Zcd (v,1)
  cases hb:turning (v,1) with
  |true=>
   rw[hb]at ht
   obtain ⟨l,e1,g1⟩:=ZEs d (v+1) (acc++[(v,0)]++[(v,1)]) (by omega) (by omega) (by simp;omega) (by simp;omega)
   refine ⟨l,Ev.succ ?_,g1⟩
   simp only[Z2u,hle,decide_true,if_true,List.length_singleton,hal,hw]
   refine Ev.bind ht ?_
   simp only[if_true,hal2]
   exact e1
  |false=>
   rw[hb]at ht
   obtain ⟨l,e1,g1⟩:=ZEs d (v+1) (acc++[(v,0)]) (by omega) (by omega) (by simp;omega) (by simp;omega)
   refine ⟨l,Ev.succ ?_,g1⟩
   simp only[Z2u,hle,decide_true,if_true,List.length_singleton,hal,hw]
   refine Ev.bind ht ?_
   simp only[Bool.false_eq_true,if_false]
   exact e1
theorem ZsK(a1 a2:Int)(code:List Int)(b0 b1:Int)(o4:List CellD)(o5 o6:List Int)(R C:Int)(o8:List CellD)(n:Int): ∀(d:Nat) (o9 o10:List Int),n≤((o9.length+d:Nat):Int)→o9.length+d≤100→o10.length+d≤100→
  EvP (fun k=>Z2a k a1 a2 code b0 b1 o4 o5 o6 R C o8 o9 o10 n) (fun z=> ∃l9 l10,z=(a1,a2,code,b0,b1,o4,o5,o6,R,C,o8,l9,l10)∧l9.length≤100∧l10.length≤100)
 |0,o9,o10,h,g1,g2=>by
  refine EvP.succ ?_
  have hlt: ¬(o9.length:Int)<n:=by omega
  simp only[Z2a,hlt,decide_false,Bool.false_eq_true,if_false]
  exact EvP.some ⟨o9,o10,rfl,by omega,by omega⟩
 |d+1,o9,o10,h,g1,g2=>by
  refine EvP.succ ?_
  simp only[Z2a]
  refine EvP.ite (fun _=> ?_) (fun _=>EvP.some ⟨o9,o10,rfl,by omega,by omega⟩)
  refine EvP.guard (by simp only[List.length_cons,List.length_nil];omega) (EvP.guard (by simp only[List.length_cons,List.length_nil];omega) ?_)
  exact ZsK a1 a2 code b0 b1 o4 o5 o6 R C o8 n d (o9++[0]) (o10++[0]) (by simp;omega) (by simp;omega) (by simp;omega)
theorem Ztp(a1 a2:Int)(code:List Int)(b0 b1:Int)(o4:List CellD)(o5 o6:List Int)(R C:Int)(o9 o10:List Int)(n:Int): ∀(d:Nat) (o:List CellD),n≤((o.length+d:Nat):Int)→o.length+d≤7→
  EvP (fun k=>Z2e k a1 a2 code b0 b1 o4 o5 o6 R C o o9 o10 n) (fun z=> ∃l,z=(a1,a2,code,b0,b1,o4,o5,o6,R,C,l,o9,o10)∧l.length≤7)
 |0,o,h,g1=>by
  refine EvP.succ ?_
  have hlt: ¬(o.length:Int)<n:=by omega
  simp only[Z2e,hlt,decide_false,Bool.false_eq_true,if_false]
  exact EvP.some ⟨o,rfl,by omega⟩
 |d+1,o,h,g1=>by
  obtain ⟨l,el,hl8⟩:=ZEs 8 0 [] (by omega) (by omega) (by simp) (by simp)
  have hp:Ev (fun k=>Zcb k) l:=by
   refine Ev.succ ?_
   simp only[Zcb]
   exact Ev.bind el (Ev.some _)
  have hs:addS 1 (o.length:Int)=1+o.length:=by rw[ZGE,w64 (by omega) (by omega)]
  refine EvP.succ ?_
  simp only[Z2e,hs]
  refine EvP.ite (fun _=> ?_) (fun _=>EvP.some ⟨o,rfl,by omega⟩)
  refine EvP.bind (EvP.ev (Q:=fun v=>8≤v.length) hp hl8) (fun v hv=> ?_)
  refine EvP.guard (by omega) (EvP.guard (by omega) (EvP.guard (by simp only[List.length_cons,List.length_nil];omega) ?_))
  exact Ztp a1 a2 code b0 b1 o4 o5 o6 R C o9 o10 n d _ (by rw[List.length_append];simp only[List.length_cons,List.length_nil];omega) (by rw[List.length_append];simp only[List.length_cons,List.length_nil];omega)
section
variable {code:List Int} {at' seed:Int}
def ChSmall(c:ChD):Prop:=c.2.2.1.length≤100∧c.2.2.2.1.length≤100∧c.2.2.2.2.length≤100
set_option maxHeartbeats 1000000 in
theorem ZO9(h:Cur code at' 100):EvP (fun k=>Z6T k (code,at',seed)) (fun r=>ChSmall r.1):=by
 refine EvP.succ ?_
 simp only[Z6T]
 refine EvP.bind (ZSS (h.to (by omega) (by omega))) (fun z hz=> ?_)
 obtain ⟨q1,q2,p1,p2,p3,p4,p5,p6⟩:=hz
 have fin: ∀(R C:Int) (P:List CellD) (e f:List Int) (a s:Int),P.length≤100→e.length≤100→f.length≤100→EvP (fun _=>some ((R,C,P,e,f),a,s)) (fun r=>ChSmall r.1):=fun R C P e f a s g1 g2 g3=>EvP.some ⟨g1,g2,g3⟩
 refine EvP.bind (Z3O 36 (h.to (by omega) (by omega)) (by omega)) (fun y hy=> ?_)
 refine EvP.ite (fun _=> ?_) (fun _=>EvP.ite (fun _=> ?_) (fun _=>EvP.ite (fun _=> ?_) (fun _=>EvP.ite (fun _=> ?_) (fun _=>EvP.ite (fun _=> ?_) (fun _=>EvP.ite (fun _=> ?_) (fun _=>EvP.ite (fun _=> ?_) (fun _=>EvP.ite (fun _=> ?_) (fun _=>EvP.ite (fun _=> ?_) (fun _=>EvP.ite (fun _=> ?_) (fun _=> ?_))))))))))
 ·exact EvP.bind (ZbU _ (by simp) (h.to (by omega) (by omega))) (fun x hx => fin _ _ _ _ _ _ _ (by omega) (by omega) (by omega))
 ·exact EvP.bind (ZbU _ (by simp) (h.to (by omega) (by omega))) (fun x hx => fin _ _ _ _ _ _ _ (by omega) (by omega) (by omega))
 ·exact EvP.guard (by omega) (EvP.guard (by simp only [List.length_cons, List.length_nil]; omega) (fin _ _ _ _ _ _ _ (by rw [List.length_append]; simp only [List.length_cons, List.length_nil]; omega) (by omega) (by omega)))
 ·exact EvP.guard (by simp only [List.length_cons, List.length_nil]; omega) (fin _ _ _ _ _ _ _ (by rw [List.length_append]; simp only [List.length_cons, List.length_nil]; omega) (by omega) (by omega))
 ·exact fin _ _ _ _ _ _ _ (by simp) (by omega) (by omega)
 ·simp only [Z1L]
  refine EvP.bind (Q1:=fun z9=> ∃(a s:Int) (l:List Int),z9=(a,s,code,0,0,[],[],[],z.1.1,z.1.2.1,z.1.2.2.1,l,z.1.2.2.2.2)∧l.length≤100) ?_ (fun z9 h9=> ?_)
  ·exact EvP.bind (ZbU _ (by simp) (h.to (by omega) (by omega))) (fun x hx => EvP.guard (by omega) (EvP.some ⟨_, _, _, rfl, by rw [List.length_set]; omega⟩))
  ·obtain ⟨a, s, l, rfl, g⟩ := h9
   dsimp only
   exact fin _ _ _ _ _ _ _ (by omega) g (by omega)
 ·simp only [Z1K]
  refine EvP.bind (Q1:=fun z9=> ∃(a s:Int) (l:List Int),z9=(a,s,code,0,0,[],[],[],z.1.1,z.1.2.1,z.1.2.2.1,z.1.2.2.2.1,l)∧l.length≤100) ?_ (fun z9 h9=> ?_)
  ·exact EvP.bind (ZbU _ (by simp) (h.to (by omega) (by omega))) (fun x hx => EvP.guard (by omega) (EvP.some ⟨_, _, _, rfl, by rw [List.length_set]; omega⟩))
  ·obtain ⟨a, s, l, rfl, g⟩ := h9
   dsimp only
   exact fin _ _ _ _ _ _ _ (by omega) (by omega) g
 ·refine EvP.bind (Z3O 2 (h.to (by omega) (by omega)) (by omega)) (fun x hx => ?_)
  have w:wrap64 (8+x.1)=8+x.1:=w64 (by omega) (by omega)
  rw[w]
  refine EvP.bind (ZsK _ _ _ _ _ _ _ _ _ _ _ (8+x.1) 9 _ _ (by omega) (by omega) (by omega)) (fun z9 h9=> ?_)
  obtain ⟨l9,l10,rfl,g1,g2⟩:=h9
  dsimp only
  exact fin _ _ _ _ _ _ _ (by omega) g1 g2
 ·refine EvP.bind (Z3O 2 (h.to (by omega) (by omega)) (by omega)) (fun x hx => ?_)
  have w:wrap64 (6+x.1)=6+x.1:=w64 (by omega) (by omega)
  rw[w]
  refine EvP.bind (Ztp _ _ _ _ _ _ _ _ _ _ _ _ (6+x.1) 7 [] (by simp only[List.length_nil];omega) (by simp)) (fun z9 h9=> ?_)
  obtain ⟨l,rfl,g1⟩:=h9
  dsimp only
  exact fin _ _ _ _ _ _ _ (by omega) (by simp) (by simp)
 ·refine EvP.bind (ZMa 2 (h.to (by omega) (by omega))) (fun x hx => ?_)
  exact EvP.ite (fun _=>fin _ _ _ _ _ _ _ (by simp) (by simp) (by simp)) (fun _=>fin _ _ _ _ _ _ _ (by simp) (by simp) (by simp))
 ·exact fin _ _ _ _ _ _ _ (by omega) (by omega) (by omega)
end
theorem ZCP(code:List Int)(h:Cur code 0 6000):EvP (fun k=>Z7c k code) ChSmall:=by
 refine EvP.succ ?_
 simp only[Z7c]
 refine EvP.bind (Q1:=ChSmall) ?_ (fun z hz=>EvP.some hz)
 refine EvP.succ ?_
 simp only[Ze3]
 exact EvP.bind (ZO9 (h.to (by omega) (by omega))) (fun z hz=>EvP.some hz)
theorem ZUg(code:List Int)(h:Cur code 0 6000):EvP (fun k=>Z88 k code) (fun r=>r.1.2.2.length≤91∧r.2.1.length≤21∧r.2.2.length≤21):=by
 refine EvP.succ ?_
 simp only[Z88]
 exact EvP.bind (ZIH code h) (fun z hz=>EvP.some hz)
end
section
theorem ZPx(b:BoardD)(hb:b.2.2.length≤1000000)(t:List Int)(ht:t.length≤1000000)(s:List FallD)(hs:s.length≤1000000): ∀(r pre:List FaultD),(∀f∈r,ZeU b [f] t s=(true,true)∧(ZaY b [f] t).1=s∧(ZaY b [f] t).2.2=true)→(pre++r).length≤1000000→
  Ev (fun k=>ZbY k b.1 b.2.1 b.2.2 t s (pre++r) ((pre++r).length:Int) (pre.length:Int)) (LR.go ())
 |[],pre,hr,hn=>by
  refine Ev.succ ?_
  simp only[ZbY,Zn,decide_false,Bool.false_eq_true,if_false]
  exact Ev.some _
 |f::r,pre,hr,hn=>by
  have ih:=ZPx b hb t ht s hs r (pre++[f]) (fun g hg=>hr g (List.mem_cons_of_mem _ hg)) (by simpa using hn)
  have e:=ZCH b [f] t s (by omega) (by simp) (by omega) (by omega)
  have e2:=ZFf b [f] t (by omega) (by simp) (by omega)
  obtain ⟨h1,h2,h3⟩:=hr f (List.mem_cons_self ..)
  rw[h1]at e
  refine Ev.succ ?_
  simp only[ZbY,Zl,Zu,decide_true,if_true,Int.toNat_natCast,Zg]
  rw[Zk pre f r (by omega)]
  rw[←Ze]at ih
  refine Ev.bind e (Ev.bind e2 ?_)
  simp only[h2,h3,Bool.not_true,Bool.false_eq_true,if_false]
  refine Ev.bind (ZQU s s hs) ?_
  simp only[decide_true,Bool.not_true,Bool.false_eq_true,if_false]
  exact ih
theorem ZSW(code:List Int)(h:Cur code 0 6000):Ev (fun k=>Zcg k code) true:=by
 obtain ⟨⟨b,t,s⟩,ed,hb,ht,hs⟩:=ZUg code h
 dsimp only at hb ht hs
 have es:=ZCQ b t s (by omega) (by omega) (by omega)
 have ei:=ZCS b t s (by omega) (by omega) (by omega)
 have hr:=ZFa b t s
 have e2:=ZPx b (by omega) t (by omega) s (by omega) (Z5j b t s).1 [] (fun f hf=>ZUo hf) (by simp;omega)
 simp only[List.nil_append,List.length_nil,Int.natCast_zero]at e2
 simp only[Zcg]
 refine Ev.bind ed (Ev.bind ei (Ev.bind es ?_))
 simp only[beq_self_eq_true,Bool.not_true,Bool.false_eq_true,if_false]
 refine Ev.bind (ZOj _ _ (by omega)) ?_
 simp only[decide_true,Bool.not_true,Bool.false_eq_true,if_false]
 refine Ev.bind e2 (Ev.go ?_)
 simp only[ZkY]
 exact Ev.some _
theorem ZSL(code:List Int)(hcur:Cur code 0 6000):Ev (fun k=>Zcm k code) true:=by
 have ec:=ZSW code hcur
 obtain ⟨c,ed,h1,h2,h3⟩:=ZCP code hcur
 have h1:c.2.2.1.length≤1000000:=by omega
 have h2:c.2.2.2.1.length≤1000000:=by omega
 have h3:c.2.2.2.2.length≤1000000:=by omega
 have ei:=ZAo c h1 h2
 have es:=ZzP c h1 h2 h3
 simp only[Zcm]
 refine Ev.bind ed (Ev.bind ei (Ev.bind es ?_))
 simp only[beq_self_eq_true,Bool.not_true,Bool.false_eq_true,if_false]
 have rest:(Z1B c).2=false→(Z1B c).1=(0,0,[]):=by
  unfold Z1B
  by_cases h : challOK c = true
  ·rw [if_pos h]
   intro hf
   rcases ZM6 h with hz|⟨m,_,hm,_⟩
   ·exact hz
   ·exfalso
    obtain ⟨⟨c1,_⟩,_⟩:=Z5B h
    have hf:=of_decide_eq_false hf
    rw[hm]at hf
    exact hf (show c.1>0 by omega)
  ·rw [if_neg h]; intro _; rfl
 by_cases ho : (Z1B c).2 = true
 ·have h : challOK c = true := by
   unfold Z1B at ho
   by_cases h : challOK c = true
   ·exact h
   ·rw [if_neg h] at ho; cases ho
  have ha:=Z90 h
  have htp:=Z5B h
  obtain ⟨⟨c1,c2,c3,c4,a5,a6,a7,a8,a9⟩,_,_,htr⟩:=htp
  obtain ⟨m,hm0,hm,hmt,hmem,hmin⟩: ∃m,0≤m∧bestOf (solsOf c)=boardAt c m∧meetsB c (boardAt c m)=true∧boardAt c m∈solsOf c∧ ∀b∈solsOf c,sizeL (boardAt c m).2.2≤sizeL b.2.2:=by
   rcases ZM6 h with hz|hx
   ·exfalso
    unfold Z1B at ho
    rw[if_pos h]at ho
    have:=of_decide_eq_true ho
    rw[hz]at this
    exact absurd this (by decide)
   ·exact hx
  have hR:Z1B c=(boardAt c m,true):=by
   unfold Z1B
   rw[if_pos h,hm,decide_eq_true (show (boardAt c m).1>0 from by show c.1>0;omega)]
  rw [hR]
  have hlen:(boardAt c m).2.2.length≤1000000:=by rw[Z3t];omega
  refine Ev.bind (Zdp (boardAt c m) hlen) ?_
  simp only[Bool.not_true,Bool.false_eq_true,if_false,if_true]
  refine Ev.bind (ZxJ c h hm0 hmt) ?_
  have e12:=Zx3 c h1 h2
  have e13:=Zwb c h1 h2 h3
  rw[if_pos h]at e12 e13
  refine Ev.bind e12 (Ev.bind e13 (Ev.bind (ZL0 _ (Zr2 h hm0) hlen) (Ev.bind (ZFL c h hm) ?_)))
  have hsl:(solsOf c).length≤7000:=by
   have:=ZRO (c:=c) (triedOf c).toNat 0
   unfold solsOf
   omega
  obtain ⟨hS1,hS2⟩:=ZRY (c.1*c.2.1+1).toNat (solsOf c) [] (zerosOf c) (by simp[zerosOf]) (fun i hi=>by
   unfold zerosOf cntS
   rw[List.getD_eq_getElem?_getD,List.getElem?_replicate,if_pos hi]
   simp) (fun x hx=>by
   obtain ⟨n,_,rfl,_⟩:=Zsf _ _ (by omega) x hx
   exact ZGz h n) (by simp;omega)
  rw [List.nil_append] at hS2
  generalize hS:(solsOf c).foldl incrS (zerosOf c)=S at hS1 hS2⊢
  have hsz:=ZGz h m
  generalize hp:sizeL (boardAt c m).2.2=p at hsz hmin⊢
  simp only[Bool.not_true,Bool.false_eq_true,if_false]
  refine Ev.bind (ZEa S S (by omega)) ?_
  have hcp:1≤cntS (solsOf c) p:=by
   unfold cntS
   refine List.length_pos_of_mem (a:=boardAt c m) (List.mem_filter.2 ⟨hmem,by simp[hp]⟩)
  have q1: ¬(p:Int)<0:=by omega
  have q2: ¬(p:Int)≥(S.length:Int):=by omega
  have q3:(0:Int)≤(p:Int):=by omega
  have q4:(p:Int)<(S.length:Int):=by omega
  have q5:(p:Int)≤(S.length:Int):=by omega
  have q6: ¬List.getD S p 0<1:=by rw[hS2 p hsz];omega
  simp only[decide_true,Bool.not_true,Bool.false_eq_true,if_false,ne_eq,not_true_eq_false,decide_false,q1,q2,q3,q4,q5,if_true,Int.toNat_natCast,q6]
  refine Ev.bind (ZTr _ ?_ ?_) ?_
  ·intro x hx
   simp only[Int.toNat_zero,Nat.sub_zero,List.drop_zero]at hx
   obtain ⟨i,hi⟩:=List.getElem?_of_mem hx
   rw[List.getElem?_take]at hi
   split at hi
   ·rename_i hip
    have hg:=hS2 i (by omega)
    rw[List.getD_eq_getElem?_getD,hi]at hg
    have hz:cntS (solsOf c) i=0:=by
     unfold cntS
     rw[List.length_eq_zero_iff,List.filter_eq_nil_iff]
     intro y hy
     have:=hmin y hy
     simp
     omega
    rw[hz]at hg
    simpa using hg
   ·cases hi
  ·simp only [List.length_take, List.length_drop]
   omega
  ·simp only [ne_eq, not_true_eq_false, decide_false, Bool.false_eq_true, if_false]
   exact Ev.bind ec (Ev.some _)
 ·have ho' : (Z1B c).2 = false := by simpa using ho
  rw[rest ho',ho']
  refine Ev.bind (Zdp (0,0,[]) (by simp)) ?_
  simp only[Bool.not_true,Bool.false_eq_true,if_false]
  exact Ev.bind ec (Ev.some _)
theorem ZPp{t:TblD}{b:BoardD}{z:Int}(hS:Sorts t b z)(c:List Int): ∀(r pre:List Int),pre++r=t.2→Ev (fun k=>ZbM k b.1 b.2.1 b.2.2 (pre++r) c z ((pre++r).length:Int) (pre.length:Int)) (LR.go c)
 |[],pre,h=>by
  refine Ev.succ ?_
  simp only[ZbM,Zn,decide_false,Bool.false_eq_true,if_false]
  exact Ev.some _
 |x::r,pre,h=>by
  have hlt:pre.length<t.2.length:=by rw[←h];simp
  have htl:=hS.tlen
  have hl2:(pre++x::r).length≤8:=by rw[h];exact htl
  have hlb:(pre.length:Int)<b.2.1:=by rw[hS.cols];omega
  have hgd:List.getD t.2 pre.length 0=x:=by rw[←h];exact Zg _ _ _ _
  obtain ⟨f1,f2⟩:=hS.fall pre.length hlt
  rw[hgd]at f2
  have ih:=ZPp hS c r (pre++[x]) (by rw[←h];simp)
  refine Ev.succ ?_
  simp only[ZbM,Zl,Zu,decide_true,if_true,Int.toNat_natCast,Zg]
  refine Ev.bind (ZCh b hS.ok hS.len _ (by omega) hlb) ?_
  have hd:decide ((fallOf b (groupsOf b) (kindsB b []) (pre.length:Int) b.2.2).1.2.2≥z)=decide (x=1):=decide_eq_decide.2 f2
  simp only[f1,ne_eq,not_true_eq_false,decide_false,Bool.not_true,Bool.false_eq_true,if_false,hd,beq_self_eq_true]
  rw[Zk pre x r (by omega)]
  rw[←Ze]at ih
  exact ih
theorem ZUw(p0 p1:List Int)(h0:p0.length≤9223372036854775807)(b0: ∀x∈p0,0≤x∧x≤255)(h1:p1.length≤9223372036854775807)(b1: ∀x∈p1,0≤x∧x≤255):Ev (fun k=>Ztt k p0 p1) true:=by
 refine Ev.succ ?_
 simp only[Ztt]
 refine Ev.ite (fun _=>Ev.some _) (fun _=> ?_)
 obtain ⟨t,ed,hl⟩:=ZGk p0 ⟨b0,h0,by omega,by omega⟩
 have hl:t.2.length≤32:=hl
 have ec:=ZSL p1 ⟨b1,h1,by omega,by omega⟩
 refine Ev.bind ed (Ev.bind (ZDN t (by omega)) (Ev.bind (ZDm t (by omega)) ?_))
 simp only[beq_self_eq_true,Bool.not_true,Bool.false_eq_true,if_false]
 by_cases h:smallT t=true
 ·have hS := sorts h
  have htl:=hS.tlen
  have hR:Zfw t=(sortB t.2,(zerosIn t.2:Int),true):=by unfold Zfw;rw[if_pos h]
  rw[hR]
  refine Ev.bind (Zdp (sortB t.2) hS.len) ?_
  simp only[Bool.not_true,Bool.false_eq_true,if_false,ne_eq,not_true_eq_false,decide_false,if_true]
  refine Ev.bind (ZDb h) (Ev.bind (ZCv h) ?_)
  simp only[Bool.not_true,Bool.false_eq_true,if_false,List.length_nil,Int.natCast_zero,not_true_eq_false,decide_false]
  refine Ev.bind (ZPM t (by omega)) ?_
  simp only[Bool.not_true,Bool.false_eq_true,if_false]
  have e0:=ZPp hS p1 t.2 [] rfl
  simp only[List.nil_append,List.length_nil,Int.natCast_zero]at e0
  exact Ev.bind e0 (Ev.go (Ev.bind ec (Ev.some _)))
 ·have hR : Zfw t = ((0, 0, []), 0, false) := by unfold Zfw; rw [if_neg h]
  rw[hR]
  refine Ev.bind (Zdp (0,0,[]) (by simp)) ?_
  simp only[Bool.not_true,Bool.false_eq_true,if_false,ne_eq,not_true_eq_false,decide_false]
  exact Ev.bind ec (Ev.some _)
end
end Go.Proofs.YtmhfhiofcoggbaaGreat.Vs
