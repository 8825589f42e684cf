/- The proof, part 13. -/
import Derived.Test.YtmhfhiofcoggbaaGreatqT2m11
set_option linter.unusedVariables false
set_option linter.unusedSimpArgs false
namespace Go.Proofs.YtmhfhiofcoggbaaGreat.Vs
open Go.RowKit
section
def fits(x:CellD)(kd:Int):Bool:=decide (kd=2)||(decide (kd=1)&&turning x)||(decide (kd=3)&&(turning x||decide (x.1=1∨x.1=2)))
theorem ZB4(x:CellD)(kd:Int):Ev (fun k=>Zgx k x kd) (fits x kd):=by
 refine Ev.succ ?_
 simp only[Zgx]
 refine Ev.ite (fun h=> ?_) (fun h=> ?_)
 ·simp only [decide_eq_true_eq] at h
  refine Ev.bind (Zcd x) (Ev.of ?_)
  simp[fits,h]
 ·simp only [decide_eq_true_eq] at h
  refine Ev.ite (fun h2=> ?_) (fun h2=> ?_)
  ·simp only [decide_eq_true_eq] at h2
   exact Ev.of (by simp[fits,h2])
  ·simp only [decide_eq_true_eq] at h2
   refine Ev.ite (fun h3=> ?_) (fun h3=> ?_)
   ·simp only [decide_eq_true_eq] at h3
    refine Ev.bind (Zcd x) (Ev.ite (fun h4=> ?_) (fun h4=> ?_))
    ·exact Ev.of (by simp [fits, h3, h4])
    ·refine Ev.of ?_
     simp only[Bool.not_eq_true]at h4
     by_cases h5:x.1=1<;>simp[fits,h3,h4,h5]
   ·simp only [decide_eq_true_eq] at h3
    exact Ev.of (by simp[fits,h,h2,h3])
theorem ZxH(x:CellD)(kd:Int)(hx:cellOK x=true):Ev (fun k=>Zfq k x kd) (fits x kd):=by
 have ht:Ev (fun k=>Z3I k x) (turning x):=by simpa[hx]using ZrY x
 refine Ev.succ ?_
 simp only[Zfq]
 refine Ev.ite (fun h=> ?_) (fun h=> ?_)
 ·simp only [decide_eq_true_eq] at h
  refine Ev.bind ht (Ev.of ?_)
  simp[fits,h]
 ·simp only [decide_eq_true_eq] at h
  refine Ev.ite (fun h2=> ?_) (fun h2=> ?_)
  ·simp only [decide_eq_true_eq] at h2
   exact Ev.of (by simp[fits,h2])
  ·simp only [decide_eq_true_eq] at h2
   refine Ev.ite (fun h3=> ?_) (fun h3=> ?_)
   ·simp only [decide_eq_true_eq] at h3
    refine Ev.bind ht (Ev.ite (fun h4=> ?_) (fun h4=> ?_))
    ·exact Ev.of (by simp [fits, h3, h4])
    ·refine Ev.of ?_
     simp only[Bool.not_eq_true]at h4
     by_cases h5:x.1=1<;>simp[fits,h3,h4,h5]
   ·simp only [decide_eq_true_eq] at h3
    exact Ev.of (by simp[fits,h,h2,h3])
def faultsOK(b:BoardD):Int→List FaultD→Bool
 |_,[]=>true
 |last,x::r=>decide (0≤x.2.1∧x.2.1<b.1∧0≤x.2.2∧x.2.2<b.2.1∧last<x.2.1*b.2.1+x.2.2)&&fits (List.getD b.2.2 (x.2.1*b.2.1+x.2.2).toNat (0,0)) x.1&&faultsOK b (x.2.1*b.2.1+x.2.2) r
theorem ZTl(b:BoardD)(hb:boardOK b=true){r c:Int}(h1:0≤r)(h2:r<b.1)(h3:0≤c)(h4:c<b.2.1):Ev (fun k=>ZbE k b r c) (List.getD b.2.2 (r*b.2.1+c).toNat (0,0)):=by
 have hp:=Z78 hb h1 h2 h3 h4
 refine Ev.succ ?_
 simp only[ZbE]
 rw[w64 (n:=r*b.2.1) (by omega) (by omega),w64 (by omega) (by omega)]
 simp only[hp.1,hp.2.1,if_true]
 exact Ev.some _
theorem Zvi(b:BoardD)(hb:boardOK b=true)(w:List FaultD): ∀(r pre:List FaultD) (last:Int),(pre++r).length≤9223372036854775806→Ev (fun k=>Zag k b.1 b.2.1 b.2.2 w last (pre++r) ((pre++r).length:Int) (pre.length:Int)) (if faultsOK b last r then LR.go w else LR.ret false)
 | [], pre, last, hl => by
  refine Ev.succ ?_
  simp only[Zag,Zn,decide_false,Bool.false_eq_true,if_false,faultsOK,if_true]
  exact Ev.some _
 |x::r,pre,last,hl=>by
  obtain ⟨g1,g2,g3,g4,g5,g6⟩:=ZY hb
  refine Ev.succ ?_
  simp only[Zag,Zl,Zu,decide_true,if_true,Int.toNat_natCast,Zg]
  rw[Zk pre x r (by omega),w64 (n:=b.1-1) (by omega) (by omega),w64 (n:=b.2.1-1) (by omega) (by omega)]
  refine Ev.bind (Z1U _ _ _) (Ev.ite (fun h=>Ev.of ?_) (fun h=> ?_))
  ·have h : ¬ (0 ≤ x.2.1 ∧ x.2.1 ≤ b.1 - 1) := nd h
   rw[if_neg (by simp only[faultsOK,Bool.and_eq_true,decide_eq_true_eq];omega)]
  have h1:0≤x.2.1∧x.2.1≤b.1-1:=yd h
  refine Ev.bind (Z1U _ _ _) (Ev.ite (fun h=>Ev.of ?_) (fun h=> ?_))
  ·have h : ¬ (0 ≤ x.2.2 ∧ x.2.2 ≤ b.2.1 - 1) := nd h
   rw[if_neg (by simp only[faultsOK,Bool.and_eq_true,decide_eq_true_eq];omega)]
  have h2:0≤x.2.2∧x.2.2≤b.2.1-1:=yd h
  have hp:=Z78 hb h1.1 (by omega) h2.1 (by omega)
  rw[w64 (n:=x.2.1*b.2.1) (by omega) (by omega),w64 (n:=x.2.1*b.2.1+x.2.2) (by omega) (by omega)]
  refine Ev.bind (ZTl b hb h1.1 (by omega) h2.1 (by omega)) ?_
  refine Ev.bind (ZB4 _ _) (Ev.ite (fun h=>Ev.of ?_) (fun h=> ?_))
  ·have h : fits (List.getD b.2.2 (x.2.1 * b.2.1 + x.2.2).toNat (0, 0)) x.1 = false := by simpa using h
   simp only[faultsOK,h,Bool.and_false,Bool.false_and,Bool.false_eq_true,if_false]
  have h3:fits (List.getD b.2.2 (x.2.1*b.2.1+x.2.2).toNat (0,0)) x.1=true:=by simpa using h
  refine Ev.ite (fun h=>Ev.of ?_) (fun h=> ?_)
  ·simp only [decide_eq_true_eq] at h
   rw[if_neg (by simp only[faultsOK,Bool.and_eq_true,decide_eq_true_eq];omega)]
  simp only[decide_eq_true_eq]at h
  have ih:=Zvi b hb w r (pre++[x]) (x.2.1*b.2.1+x.2.2) (by simpa using hl)
  rw[←Ze]at ih
  refine ih.congr ?_
  have h5:0≤x.2.1∧x.2.1<b.1∧0≤x.2.2∧x.2.2<b.2.1∧last<x.2.1*b.2.1+x.2.2:=by omega
  simp only[faultsOK,h3,h5,and_self,decide_true,Bool.true_and]
theorem ZRj(b:BoardD)(hb:boardOK b=true)(l:List FaultD)(hl:l.length≤9223372036854775806):Ev (fun k=>Zkf k b l) (decide (l.length≤4)&&faultsOK b (-1) l):=by
 refine Ev.succ ?_
 simp only[Zkf]
 refine Ev.bind (Zvi b hb l l [] (-1) (by simpa using hl)) ?_
 cases hx:faultsOK b (-1) l with
 |true=>
  simp only[if_true]
  refine Ev.go (Ev.of ?_)
  by_cases h4:l.length≤4
  ·have : (l.length : Int) ≤ 4 := by omega
   simp[h4,this]
  ·have : ¬ (l.length : Int) ≤ 4 := by omega
   simp[h4,this]
 |false=>
  simp only[Bool.false_eq_true,if_false,Bool.and_false]
  exact Ev.ret (Ev.some _)
theorem ZpN(b:BoardD)(hb:boardOK b=true): ∀(r pre:List FaultD) (last:Int),(pre++r).length≤9223372036854775806→Ev (fun k=>Z6A k b.1 b.2.1 b.2.2 last (pre++r) ((pre++r).length:Int) (pre.length:Int)) (if faultsOK b last r then LR.go () else LR.ret false)
 | [], pre, last, hl => by
  refine Ev.succ ?_
  simp only[Z6A,Zn,decide_false,Bool.false_eq_true,if_false,faultsOK,if_true]
  exact Ev.some _
 |x::r,pre,last,hl=>by
  obtain ⟨g1,g2,g3,g4,g5,g6⟩:=ZY hb
  have hp:=ZU g1 g2 g3 g4
  refine Ev.succ ?_
  simp only[Z6A,Zl,Zu,decide_true,if_true,Int.toNat_natCast,Zg]
  rw[Zk pre x r (by omega)]
  refine Ev.bind (ZOq b _ _ (by omega)) (Ev.ite (fun h=>Ev.of ?_) (fun h=> ?_))
  ·rw [hb, Bool.true_and] at h
   have h: ¬(0≤x.2.1∧x.2.1<b.1∧0≤x.2.2∧x.2.2<b.2.1):=nd h
   rw[if_neg (by simp only[faultsOK,Bool.and_eq_true,decide_eq_true_eq];omega)]
  rw[hb,Bool.true_and]at h
  have h1:0≤x.2.1∧x.2.1<b.1∧0≤x.2.2∧x.2.2<b.2.1:=yd h
  have hp:=Z78 hb h1.1 h1.2.1 h1.2.2.1 h1.2.2.2
  rw[w64 (n:=x.2.1*b.2.1) (by omega) (by omega),w64 (n:=x.2.1*b.2.1+x.2.2) (by omega) (by omega)]
  refine Ev.ite (fun h=>Ev.of ?_) (fun h=> ?_)
  ·simp only [decide_eq_true_eq] at h
   rw[if_neg (by simp only[faultsOK,Bool.and_eq_true,decide_eq_true_eq];omega)]
  simp only[decide_eq_true_eq]at h
  simp only[hp.1,hp.2.1,if_true]
  refine Ev.bind (ZxH _ _ (g6 _ (ZrI hp.1 hp.2.1 _))) (Ev.ite (fun h=>Ev.of ?_) (fun h=> ?_))
  ·have h : fits (List.getD b.2.2 (x.2.1 * b.2.1 + x.2.2).toNat (0, 0)) x.1 = false := by simpa using h
   simp only[faultsOK,h,Bool.and_false,Bool.false_and,Bool.false_eq_true,if_false]
  have h3:fits (List.getD b.2.2 (x.2.1*b.2.1+x.2.2).toNat (0,0)) x.1=true:=by simpa using h
  have ih:=ZpN b hb r (pre++[x]) (x.2.1*b.2.1+x.2.2) (by simpa using hl)
  rw[←Ze]at ih
  refine ih.congr ?_
  have h5:0≤x.2.1∧x.2.1<b.1∧0≤x.2.2∧x.2.2<b.2.1∧last<x.2.1*b.2.1+x.2.2:=by omega
  simp only[faultsOK,h3,h5,and_self,decide_true,Bool.true_and]
theorem ZsA(b:BoardD)(hb:boardOK b=true)(l:List FaultD)(hl:l.length≤9223372036854775806):Ev (fun k=>Zc8 k b l) (decide (l.length≤4)&&faultsOK b (-1) l):=by
 refine Ev.succ ?_
 simp only[Zc8]
 refine Ev.ite (fun h=>Ev.of ?_) (fun h=> ?_)
 ·simp only [decide_eq_true_eq] at h
  have: ¬l.length≤4:=by omega
  simp[this]
 simp only[decide_eq_true_eq]at h
 have h4:l.length≤4:=by omega
 refine Ev.bind (ZpN b hb l [] (-1) (by simpa using hl)) ?_
 simp only[h4,decide_true,Bool.true_and]
 cases hx:faultsOK b (-1) l with
 |true=>simp only[if_true];exact Ev.go (Ev.some _)
 |false=>simp only[Bool.false_eq_true,if_false];exact Ev.ret (Ev.some _)
end
section
def placeOf(b:BoardD)(f:FaultD):Int:=f.2.1*b.2.1+f.2.2
def kindsOf(b:BoardD)(l:List FaultD)(K:List Int):List Int:=l.foldl (fun K f=>List.set K (placeOf b f).toNat f.1) K
def faAtD(r c d:Int):List FaultD→Int
 |[]=>d
 |f::l=>if f.2.1=r∧f.2.2=c then f.1 else faAtD r c d l
theorem ZjZ{b:BoardD}{last:Int}{f:FaultD}{l:List FaultD}(h:faultsOK b last (f::l)=true):(0≤f.2.1∧f.2.1<b.1∧0≤f.2.2∧f.2.2<b.2.1∧last<placeOf b f)∧faultsOK b (placeOf b f) l=true:=by
 simp only[faultsOK,Bool.and_eq_true,decide_eq_true_eq]at h
 exact ⟨h.1.1,h.2⟩
theorem Zvy{b:BoardD}: ∀{l:List FaultD} {last:Int},faultsOK b last l=true→ ∀f∈l,0≤f.2.1∧f.2.1<b.1∧0≤f.2.2∧f.2.2<b.2.1
 |[],_,_,f,hf=>by cases hf
 |g::l,last,h,f,hf=>by
  obtain ⟨h1,h2⟩:=ZjZ h
  rcases List.mem_cons.1 hf with rfl|hf
  ·exact ⟨h1.1,h1.2.1,h1.2.2.1,h1.2.2.2.1⟩
  ·exact Zvy h2 f hf
theorem ZPw{C r c r' c':Int}(h1:0≤c)(h2:c<C)(h3:0≤c')(h4:c'<C)(h:r*C+c=r'*C+c'):r=r'∧c=c':=by
 have key: ∀{x y:Int},x<y→x*C+C≤y*C:=by
  intro x y hxy
  have:=Int.mul_le_mul_of_nonneg_right (show x+1≤y by omega) (show 0≤C by omega)
  rw[Int.add_mul,Int.one_mul]at this
  exact this
 rcases Int.lt_trichotomy r r' with hr|hr|hr
 ·have:=key hr;omega
 ·subst hr;omega
 ·have:=key hr;omega
theorem ZJ7{b:BoardD}{r c:Int}(d:Int): ∀{l:List FaultD} {last:Int},faultsOK b last l=true→r*b.2.1+c≤last→faAtD r c d l=d
 |[],_,_,_=>rfl
 |f::l,last,h,hp=>by
  obtain ⟨h1,h2⟩:=ZjZ h
  unfold placeOf at h1 h2
  simp only[faAtD]
  rw[if_neg (by rintro ⟨rfl,rfl⟩;omega)]
  exact ZJ7 d h2 (by omega)
theorem ZIR(b:BoardD): ∀(l:List FaultD) (K:List Int),(kindsOf b l K).length=K.length
 |[],_=>rfl
 |f::l,K=>by
  show (kindsOf b l (List.set K (placeOf b f).toNat f.1)).length=_
  rw[ZIR b l,List.length_set]
theorem ZJ2{α:Type}(l:List α)(i j:Nat)(x d:α)(hi:i<l.length):List.getD (List.set l i x) j d=if i=j then x else List.getD l j d:=by
 simp only[List.getD,List.getElem?_set]
 by_cases h:i=j
 ·subst h;simp[hi]
 ·simp[h]
theorem ZAH{b:BoardD}(hb:boardOK b=true){r c:Int}(h1:0≤r)(h2:r<b.1)(h3:0≤c)(h4:c<b.2.1): ∀{l:List FaultD} {last:Int} {K:List Int},faultsOK b last l=true→K.length=b.2.2.length→List.getD (kindsOf b l K) (r*b.2.1+c).toNat 0=faAtD r c (List.getD K (r*b.2.1+c).toNat 0) l
 | [], _, _, _, _ => rfl
 |f::l,last,K,h,hK=>by
  obtain ⟨g1,g2⟩:=ZjZ h
  have hp:=Z78 hb h1 h2 h3 h4
  have hf:=Z78 hb g1.1 g1.2.1 g1.2.2.1 g1.2.2.2.1
  show List.getD (kindsOf b l (List.set K (placeOf b f).toNat f.1)) _ 0=_
  rw[ZAH hb h1 h2 h3 h4 g2 (by rw[List.length_set];exact hK)]
  rw[ZJ2 _ _ _ _ _ (by unfold placeOf;omega)]
  simp only[faAtD]
  by_cases hm:f.2.1=r∧f.2.2=c
  ·rw [if_pos hm, if_pos (by unfold placeOf; rw [hm.1, hm.2])]
   exact ZJ7 _ g2 (by unfold placeOf;rw[hm.1,hm.2];omega)
  ·rw[if_neg hm,if_neg (fun he=>hm (ZPw g1.2.2.1 g1.2.2.2.1 h3 h4 (by unfold placeOf at he;omega)))]
theorem Zlo(b:BoardD)(hb:boardOK b=true): ∀(r pre:List FaultD) (K:List Int),(∀f∈r,0≤f.2.1∧f.2.1<b.1∧0≤f.2.2∧f.2.2<b.2.1)→(pre++r).length≤9223372036854775806→K.length=b.2.2.length→Ev (fun k=>Z4I k b.1 b.2.1 b.2.2 K (pre++r) ((pre++r).length:Int) (pre.length:Int)) (kindsOf b r K)
 |[],pre,K,hr,hl,hK=>by
  refine Ev.succ ?_
  simp only[Z4I,Zn,decide_false,Bool.false_eq_true,if_false]
  exact Ev.some _
 |f::r,pre,K,hr,hl,hK=>by
  obtain ⟨k1,k2,k3,k4⟩:=hr f (List.mem_cons_self ..)
  have hp:=Z78 hb k1 k2 k3 k4
  have hpK:f.2.1*b.2.1+f.2.2<(K.length:Int):=by omega
  have ih:=Zlo b hb r (pre++[f]) (List.set K (placeOf b f).toNat f.1) (fun g hg=>hr g (List.mem_cons_of_mem _ hg)) (by simpa using hl) (by rw[List.length_set];exact hK)
  refine Ev.succ ?_
  simp only[Z4I,Zl,Zu,decide_true,if_true,Int.toNat_natCast,Zg]
  rw[Zk pre f r (by omega),w64 (n:=f.2.1*b.2.1) (by omega) (by omega),w64 (n:=f.2.1*b.2.1+f.2.2) (by omega) (by omega)]
  simp only[hp.1,hpK,if_true]
  rw[←Ze]at ih
  exact ih
def kindsB(b:BoardD)(l:List FaultD):List Int:=kindsOf b l (List.replicate b.2.2.length 0)
theorem ZUb(b:BoardD)(l:List FaultD):(kindsB b l).length=b.2.2.length:=by unfold kindsB;rw[ZIR];simp
theorem ZDD(b:BoardD)(hb:boardOK b=true)(l:List FaultD)(hl:faultsOK b (-1) l=true)(hlen:l.length≤9223372036854775806):Ev (fun k=>Zcx k b l) (kindsB b l):=by
 obtain ⟨g1,g2,g3,g4,g5,g6⟩:=ZY hb
 have hp:=ZU g1 g2 g3 g4
 have hm:b.2.2.length*8≤281474976710656:=by omega
 refine Ev.succ ?_
 simp only[Zcx,Int.toNat_natCast,hm,if_true]
 exact Ev.bind (Zlo b hb l [] _ (Zvy hl) (by simpa using hlen) (by simp)) (Ev.some _)
theorem ZpU(r c:Int): ∀(l pre:List FaultD),(pre++l).length≤9223372036854775806→ ∀{z:LR Unit Int},(z=LR.go ()∧faAtD r c 0 l=0∨z=LR.ret (faAtD r c 0 l))→(∀f∈l,¬(f.2.1=r∧f.2.2=c))∧z=LR.go ()∨(∃f∈l,f.2.1=r∧f.2.2=c)∧z=LR.ret (faAtD r c 0 l)→Ev (fun k=>Z84 k r c (pre++l) ((pre++l).length:Int) (pre.length:Int)) z
 | [], pre, hl, z, _, hz => by
  refine Ev.succ ?_
  simp only[Z84,Zn,decide_false,Bool.false_eq_true,if_false]
  rcases hz with ⟨_,rfl⟩|⟨⟨f,hf,_⟩,_⟩
  ·exact Ev.some _
  ·cases hf
 |f::l,pre,hl,z,hz0,hz=>by
  have hn:=Zk pre f l (by omega)
  have hl':((pre++[f])++l).length≤9223372036854775806:=by simpa using hl
  refine Ev.succ ?_
  simp only[Z84,Zl,Zu,decide_true,if_true,Int.toNat_natCast,Zg,hn]
  by_cases hm : f.2.1 = r ∧ f.2.2 = c
  ·simp only [hm.1, hm.2, decide_true, if_true]
   rcases hz with ⟨h,_⟩|⟨_,rfl⟩
   ·exact absurd hm (h f (List.mem_cons_self ..))
   ·simp only [faAtD, hm, and_self, if_true]; exact Ev.some _
  ·have hfa : faAtD r c 0 (f :: l) = faAtD r c 0 l := by simp only [faAtD]; rw [if_neg hm]
   have ih:Ev (fun k=>Z84 k r c (pre++f::l) ((pre++f::l).length:Int) ((pre++[f]).length:Int)) z:=by
    rw[Ze]
    refine ZpU r c l (pre++[f]) hl' (by rw[←hfa];exact hz0) ?_
    rcases hz with ⟨h,h2⟩|⟨⟨g,hg,hgm⟩,h2⟩
    ·exact .inl ⟨fun g hg => h g (List.mem_cons_of_mem _ hg), h2⟩
    ·rcases List.mem_cons.1 hg with rfl | hg
     ·exact absurd hgm hm
     ·exact .inr ⟨⟨g,hg,hgm⟩,by rw[←hfa];exact h2⟩
   refine Ev.ite (fun g1=>Ev.ite (fun g2=> ?_) (fun _=>ih)) (fun _=>ih)
   simp only[decide_eq_true_eq]at g1 g2
   exact absurd ⟨g1,g2⟩ hm
theorem ZLR{r c d:Int}: ∀{l:List FaultD},(∀f∈l,¬(f.2.1=r∧f.2.2=c))→faAtD r c d l=d
 |[],_=>rfl
 |f::l,h=>by
  simp only[faAtD]
  rw[if_neg (h f (List.mem_cons_self ..))]
  exact ZLR (fun g hg=>h g (List.mem_cons_of_mem _ hg))
theorem ZTv(l:List FaultD)(r c:Int)(hl:l.length≤9223372036854775806):Ev (fun k=>ZoQ k l r c) (faAtD r c 0 l):=by
 refine Ev.succ ?_
 simp only[ZoQ]
 by_cases h: ∃f∈l,f.2.1=r∧f.2.2=c
 ·exact Ev.bind (ZpU r c l [] (by simpa using hl) (z := LR.ret (faAtD r c 0 l)) (.inr rfl) (.inr ⟨h, rfl⟩)) (Ev.ret (Ev.some _))
 ·have h' : ∀ f ∈ l, ¬ (f.2.1 = r ∧ f.2.2 = c) := fun f hf hm => h ⟨f, hf, hm⟩
  have h0:=ZLR (d:=0) h'
  refine Ev.bind (ZpU r c l [] (by simpa using hl) (z:=LR.go ()) (.inl ⟨rfl,h0⟩) (.inl ⟨h',rfl⟩)) ?_
  rw[h0]
  exact Ev.go (Ev.some _)
def flip1(x:CellD):CellD:=(x.1,1-x.2)
def turnGo(G K:List Int)(at':Nat)(ka:Int):Nat→List CellD→List CellD
 |_,[]=>[]
 |i,x::r=>(if (i=at'∨(ka=6∧x.1=6∧List.getD G i 0=List.getD G at' 0))∧List.getD K i 0≠1 then flip1 x else x)::turnGo G K at' ka (i+1) r
def passGo(G:List Int)(ga:Int):Nat→List CellD→List CellD
 |_,[]=>[]
 |i,x::r=>(if x.1=6∧List.getD G i 0=ga then flip1 x else x)::passGo G ga (i+1) r
theorem Zis{x:CellD}(h:cellOK x=true):0≤x.1∧x.1≤7∧(x.2=0∨x.2=1):=by
 unfold cellOK at h
 simp only[decide_eq_true_eq]at h
 omega
theorem ZV1{p r:List CellD}{x y d:CellD}(h:y.1=x.1)(n:Nat):(List.getD (p++y::r) n d).1=(List.getD (p++x::r) n d).1:=by
 simp only[List.getD]
 rcases Nat.lt_trichotomy n p.length with hn|hn|hn
 ·rw [List.getElem?_append_left hn, List.getElem?_append_left hn]
 ·subst hn; simp [h]
 ·rw [List.getElem?_append_right (by omega), List.getElem?_append_right (by omega)]
  have: ∃m,n-p.length=m+1:=⟨n-p.length-1,by omega⟩
  obtain ⟨m,hm⟩:=this
  rw[hm]
  rfl
theorem ZnG(R C:Int)(G K:List Int)(at':Nat)(ka:Int): ∀(r pre:List CellD),(pre++r).length≤1000→at'<(pre++r).length→G.length=(pre++r).length→K.length=(pre++r).length→(List.getD (pre++r) at' (0,0)).1=ka→(∀x∈r,cellOK x=true)→
  Ev (fun k=>ZA k (pre++r) R C G K (at':Int) ((pre++r).length:Int) (pre.length:Int)) (pre++turnGo G K at' ka pre.length r)
 | [], pre, hl, ha, hG, hK, hka, hx => by
  refine Ev.succ ?_
  simp only[ZA,Zn,decide_false,Bool.false_eq_true,if_false,turnGo]
  exact Ev.some _
 |x::r,pre,hl,ha,hG,hK,hka,hx=>by
  have hn:=Zk pre x r (by omega)
  have hlt:=Zl pre x r
  have hGl:(pre.length:Int)<(G.length:Int):=by rw[hG];exact hlt
  have hKl:(pre.length:Int)<(K.length:Int):=by rw[hK];exact hlt
  have ha0:(0:Int)≤(at':Int):=Int.natCast_nonneg _
  have ha1:(at':Int)<((pre++x::r).length:Int):=by omega
  have haG:(at':Int)<(G.length:Int):=by rw[hG];exact ha1
  obtain ⟨c1,c2,c3⟩:=Zis (hx x (List.mem_cons_self ..))
  have hr': ∀y∈r,cellOK y=true:=fun y hy=>hx y (List.mem_cons_of_mem _ hy)
  have next: ∀y:CellD,y.1=x.1→Ev (fun k=>ZA k (pre++y::r) R C G K (at':Int) ((pre++x::r).length:Int) ((pre++[x]).length:Int)) (pre++y::turnGo G K at' ka (pre.length+1) r):=by
   intro y hy
   have ih:=ZnG R C G K at' ka r (pre++[y]) (by simpa using hl) (by simpa using ha) (by simpa using hG) (by simpa using hK) (by rw[←Ze,ZV1 hy];exact hka) hr'
   have e1:((pre++[y]++r).length:Int)=((pre++x::r).length:Int):=by simp
   have e2:((pre++[y]).length:Int)=((pre++[x]).length:Int):=by simp
   have e3:(pre++[y]).length=pre.length+1:=by simp
   rw[e1,e2,e3,←Ze,←Ze]at ih
   exact ih
  refine Ev.succ ?_
  simp only[ZA,Zl,Zu,decide_true,if_true,Int.toNat_natCast,Zg,Zy9,hn,hGl,hKl,ha0,ha1,haG,hka]
  rw[w64 (n:=1-x.2) (by omega) (by omega)]
  simp only[turnGo]
  by_cases hia : pre.length = at'
  ·have hia' : (pre.length : Int) = (at' : Int) := by omega
   simp only[hia',decide_true,if_true]
   rw[←hia]
   refine Ev.ite (fun h=> ?_) (fun h=> ?_)
   ·simp only [ne_eq, decide_eq_true_eq] at h
    rw[if_pos ⟨.inl rfl,h⟩]
    have:=next (flip1 x) rfl
    rw[←hia]at this
    exact this
   ·simp only [ne_eq, decide_eq_true_eq, Decidable.not_not] at h
    rw[if_neg (fun hc=>hc.2 h)]
    have:=next x rfl
    rw[←hia]at this
    exact this
  ·have hia' : ¬ (pre.length : Int) = (at' : Int) := by omega
   simp only[hia',decide_false,Bool.false_eq_true,if_false]
   have no: ¬(ka=6∧x.1=6∧List.getD G pre.length 0=List.getD G at' 0)→Ev (fun k=>ZA k (pre++x::r) R C G K (at':Int) ((pre++x::r).length:Int) ((pre++[x]).length:Int)) (pre++(if (pre.length=at'∨(ka=6∧x.1=6∧List.getD G pre.length 0=List.getD G at' 0))∧List.getD K pre.length 0≠1 then flip1 x else x)::turnGo G K at' ka (pre.length+1) r):=by
    intro hno
    rw[if_neg (fun hc=>hc.1.elim hia hno)]
    exact next x rfl
   refine Ev.ite (fun h1=> ?_) (fun h1=>no (fun hc=>h1 (decide_eq_true hc.1)))
   refine Ev.ite (fun h2=> ?_) (fun h2=>no (fun hc=>h2 (decide_eq_true hc.2.1)))
   refine Ev.ite (fun h3=> ?_) (fun h3=>no (fun hc=>h3 (decide_eq_true hc.2.2)))
   simp only[decide_eq_true_eq]at h1 h2 h3
   refine Ev.ite (fun h=> ?_) (fun h=> ?_)
   ·simp only [ne_eq, decide_eq_true_eq] at h
    rw[if_pos ⟨.inr ⟨h1,h2,h3⟩,h⟩]
    exact next (flip1 x) rfl
   ·simp only [ne_eq, decide_eq_true_eq, Decidable.not_not] at h
    rw[if_neg (fun hc=>hc.2 h)]
    exact next x rfl
def turnAt(G K:List Int)(at':Nat)(o:List CellD):List CellD:=turnGo G K at' (List.getD o at' (0,0)).1 0 o
theorem ZH9(R C:Int)(o:List CellD)(G K:List Int)(at':Nat)(hl:o.length≤1000)(ha:at'<o.length)(hG:G.length=o.length)(hK:K.length=o.length)(hx: ∀x∈o,cellOK x=true):Ev (fun k=>Z7G k (R,C,o) G K (at':Int)) (turnAt G K at' o):=by
 refine Ev.succ ?_
 simp only[Z7G]
 exact Ev.bind (ZnG R C G K at' _ o [] hl ha hG hK rfl hx) (Ev.some _)
theorem ZCg(x:CellD)(h:cellOK x=true):Ev (fun k=>ZgB k x) (flip1 x):=by
 obtain ⟨c1,c2,c3⟩:=Zis h
 refine Ev.succ ?_
 simp only[ZgB]
 rw[w64 (n:=1-x.2) (by omega) (by omega)]
 exact Ev.some _
theorem Zv7(R C:Int)(G:List Int)(at':Nat): ∀(r pre:List CellD),(pre++r).length≤1000→at'<(pre++r).length→G.length=(pre++r).length→(∀x∈r,cellOK x=true)→
  Ev (fun k=>Z4p k (pre++r) R C G (at':Int) ((pre++r).length:Int) (pre.length:Int)) (pre++passGo G (List.getD G at' 0) pre.length r)
 | [], pre, hl, ha, hG, hx => by
  refine Ev.succ ?_
  simp only[Z4p,Zn,decide_false,Bool.false_eq_true,if_false,passGo]
  exact Ev.some _
 |x::r,pre,hl,ha,hG,hx=>by
  have hn:=Zk pre x r (by omega)
  have hlt:=Zl pre x r
  have hGl:(pre.length:Int)<(G.length:Int):=by rw[hG];exact hlt
  have ha0:(0:Int)≤(at':Int):=Int.natCast_nonneg _
  have ha1:(at':Int)<((pre++x::r).length:Int):=by omega
  have haG:(at':Int)<(G.length:Int):=by rw[hG];exact ha1
  have hr': ∀y∈r,cellOK y=true:=fun y hy=>hx y (List.mem_cons_of_mem _ hy)
  have next: ∀y:CellD,Ev (fun k=>Z4p k (pre++y::r) R C G (at':Int) ((pre++x::r).length:Int) ((pre++[x]).length:Int)) (pre++y::passGo G (List.getD G at' 0) (pre.length+1) r):=by
   intro y
   have ih:=Zv7 R C G at' r (pre++[y]) (by simpa using hl) (by simpa using ha) (by simpa using hG) hr'
   have e1:((pre++[y]++r).length:Int)=((pre++x::r).length:Int):=by simp
   have e2:((pre++[y]).length:Int)=((pre++[x]).length:Int):=by simp
   have e3:(pre++[y]).length=pre.length+1:=by simp
   rw[e1,e2,e3,←Ze,←Ze]at ih
   exact ih
  refine Ev.succ ?_
  simp only[Z4p,Zl,Zu,decide_true,if_true,Int.toNat_natCast,Zg,Zy9,hn,hGl,ha0,haG]
  simp only[passGo]
  refine Ev.ite (fun h1=>Ev.ite (fun h2=> ?_) (fun h2=> ?_)) (fun h1=> ?_)
  ·simp only [decide_eq_true_eq] at h1 h2
   rw[if_pos ⟨h1,h2⟩]
   exact Ev.bind (ZCg x (hx x (List.mem_cons_self ..))) (next (flip1 x))
  ·simp only [decide_eq_true_eq] at h2
   rw[if_neg (fun hc=>h2 hc.2)]
   exact next x
  ·simp only [decide_eq_true_eq] at h1
   rw[if_neg (fun hc=>h1 hc.1)]
   exact next x
def passAt(G:List Int)(at':Nat)(o:List CellD):List CellD:=if (List.getD o at' (0,0)).1=3 then List.set o at' (flip1 (List.getD o at' (0,0))) else if (List.getD o at' (0,0)).1=6 then passGo G (List.getD G at' 0) 0 o else o
theorem ZBw(R C:Int)(o:List CellD)(G:List Int)(at':Nat)(hl:o.length≤1000)(ha:at'<o.length)(hG:G.length=o.length)(hx: ∀x∈o,cellOK x=true):Ev (fun k=>Zdi k (R,C,o) G (at':Int)) (passAt G at' o):=by
 have ha0:(0:Int)≤(at':Int):=Int.natCast_nonneg _
 have ha1:(at':Int)<(o.length:Int):=by omega
 refine Ev.succ ?_
 simp only[Zdi,ha0,ha1,if_true,Int.toNat_natCast]
 unfold passAt
 refine Ev.ite (fun h1=> ?_) (fun h1=>Ev.ite (fun h2=> ?_) (fun h2=> ?_))
 ·simp only [decide_eq_true_eq] at h1
  rw[if_pos h1]
  exact Ev.bind (ZCg _ (hx _ (ZrI ha0 ha1 _))) (Ev.some _)
 ·simp only [decide_eq_true_eq] at h1 h2
  rw[if_neg h1,if_pos h2]
  exact Ev.bind (Zv7 R C G at' o [] hl ha hG hx) (Ev.some _)
 ·simp only [decide_eq_true_eq] at h1 h2
  rw[if_neg h1,if_neg h2]
  exact Ev.some _
theorem ZzJ(G K:List Int)(at':Nat)(ka:Int): ∀(l:List CellD) (i:Nat),(turnGo G K at' ka i l).length=l.length
 |[],_=>rfl
 |x::r,i=>by simp[turnGo,ZzJ G K at' ka r]
theorem ZMJ(G:List Int)(ga:Int): ∀(l:List CellD) (i:Nat),(passGo G ga i l).length=l.length
 |[],_=>rfl
 |x::r,i=>by simp[passGo,ZMJ G ga r]
theorem Zi8(G K:List Int)(at':Nat)(ka:Int): ∀(l:List CellD) (j i:Nat),(turnGo G K at' ka j l)[i]? =l[i]?.map fun x=>if (j+i=at'∨(ka=6∧x.1=6∧List.getD G (j+i) 0=List.getD G at' 0))∧List.getD K (j+i) 0≠1 then flip1 x else x
 |[],_,i=>by simp[turnGo]
 |x::r,j,0=>by simp[turnGo]
 |x::r,j,i+1=>by
  simp only[turnGo,List.getElem?_cons_succ]
  rw[Zi8 G K at' ka r (j+1) i,show j+1+i=j+(i+1) by omega]
theorem ZPi(G:List Int)(ga:Int): ∀(l:List CellD) (j i:Nat),(passGo G ga j l)[i]? =l[i]?.map fun x=>if x.1=6∧List.getD G (j+i) 0=ga then flip1 x else x
 |[],_,i=>by simp[passGo]
 |x::r,j,0=>by simp[passGo]
 |x::r,j,i+1=>by
  simp only[passGo,List.getElem?_cons_succ]
  rw[ZPi G ga r (j+1) i,show j+1+i=j+(i+1) by omega]
def restore(b:BoardD)(l:List FaultD)(o:List CellD):List CellD:=l.foldl (fun o f=>if f.1=1 then List.set o (placeOf b f).toNat (List.getD b.2.2 (placeOf b f).toNat (0,0)) else o) o
theorem ZwJ(b:BoardD): ∀(l:List FaultD) (o:List CellD),(restore b l o).length=o.length
 |[],_=>rfl
 |f::l,o=>by
  show (restore b l (if f.1=1 then _ else _)).length=_
  rw[ZwJ b l]
  split<;>simp
theorem ZAD(b:BoardD): ∀(l:List FaultD) (o:List CellD) (i:Nat),i<o.length→(restore b l o)[i]? =if∃f∈l,f.1=1∧(placeOf b f).toNat=i then some (List.getD b.2.2 i (0,0)) else o[i]?
 | [], o, i, hi => by rw [if_neg (by rintro ⟨f, hf, _⟩; cases hf)]; rfl
 |f::l,o,i,hi=>by
  show (restore b l (if f.1=1 then _ else _))[i]? =_
  by_cases hf : f.1 = 1
  ·rw [if_pos hf, ZAD b l _ i (by rw [List.length_set]; exact hi)]
   by_cases h : ∃ g ∈ l, g.1 = 1 ∧ (placeOf b g).toNat = i
   ·rw [if_pos h]
    obtain ⟨g,hg,h2⟩:=h
    rw[if_pos ⟨g,List.mem_cons_of_mem _ hg,h2⟩]
   ·rw [if_neg h]
    by_cases hp : (placeOf b f).toNat = i
    ·rw [if_pos ⟨f, List.mem_cons_self .., hf, hp⟩, hp, List.getElem?_set_self hi]
    ·rw [List.getElem?_set_ne hp, if_neg (by
      rintro ⟨g,hg,h2,h3⟩
      rcases List.mem_cons.1 hg with rfl|hg
      ·exact hp h3
      ·exact h ⟨g,hg,h2,h3⟩)]
  ·rw [if_neg hf, ZAD b l o i hi]
   by_cases h : ∃ g ∈ l, g.1 = 1 ∧ (placeOf b g).toNat = i
   ·rw [if_pos h]
    obtain ⟨g,hg,h2⟩:=h
    rw[if_pos ⟨g,List.mem_cons_of_mem _ hg,h2⟩]
   ·rw [if_neg h, if_neg (by
      rintro ⟨g,hg,h2,h3⟩
      rcases List.mem_cons.1 hg with rfl|hg
      ·exact hf h2
      ·exact h ⟨g,hg,h2,h3⟩)]
theorem ZPd{r c:Int}: ∀{l:List FaultD} {f:FaultD},f∈l→f.2.1=r→f.2.2=c→ ∀{b:BoardD} {last:Int},faultsOK b last l=true→faAtD r c 0 l=f.1
 |g::l,f,hf,h1,h2,b,last,hok=>by
  obtain ⟨k1,k2⟩:=ZjZ hok
  simp only[faAtD]
  rcases List.mem_cons.1 hf with rfl|hf
  ·rw [if_pos ⟨h1, h2⟩]
  ·have hno : ¬ (g.2.1 = r ∧ g.2.2 = c) := by
    rintro ⟨e1,e2⟩
    have key: ∀{l:List FaultD} {last:Int},faultsOK b last l=true→ ∀f∈l,last<placeOf b f:=by
     intro l
     induction l with
     |nil=>intro last _ f hf;cases hf
     |cons g l ih=>
      intro last h f hf
      obtain ⟨a1,a2⟩:=ZjZ h
      rcases List.mem_cons.1 hf with rfl|hf
      ·exact a1.2.2.2.2
      ·have:=ih a2 f hf;omega
    have:=key k2 f hf
    unfold placeOf at this
    rw[h1,h2,e1,e2]at this
    omega
   rw[if_neg hno]
   exact ZPd hf h1 h2 k2
theorem ZPl{r c:Int}: ∀{l:List FaultD},faAtD r c 0 l=1→ ∃f∈l,f.1=1∧f.2.1=r∧f.2.2=c
 | [], h => by simp [faAtD] at h
 |f::l,h=>by
  simp only[faAtD]at h
  split at h
  ·rename_i hm
   exact ⟨f,List.mem_cons_self ..,h,hm.1,hm.2⟩
  ·obtain ⟨g, hg, h2⟩ := ZPl h
   exact ⟨g,List.mem_cons_of_mem _ hg,h2⟩
theorem ZUF{b:BoardD}(hb:boardOK b=true){l:List FaultD}(hl:faultsOK b (-1) l=true){i:Nat}(hi:i<b.2.2.length):List.getD (kindsB b l) i 0=1↔ ∃f∈l,f.1=1∧(placeOf b f).toNat=i:=by
 obtain ⟨q,m,t,hq,hm,k1,k2,k3,k4,k5,k6,k7,k8,k9⟩:=ZoY hb (i:=(i:Int)) (by omega) (by omega)
 have hC:0<b.2.1:=by omega
 have e0:Int.tdiv (i:Int) b.2.1=(i:Int)/b.2.1:=Int.tdiv_eq_ediv_of_nonneg (by omega)
 have e1:Int.tmod (i:Int) b.2.1=(i:Int)%b.2.1:=Int.tmod_eq_emod_of_nonneg (by omega)
 have e2:=Int.mul_ediv_add_emod (i:Int) b.2.1
 rw[←e0,←e1,hq,hm]at e2
 have hi2:(i:Int)=q*b.2.1+m:=by rw[Int.mul_comm];omega
 have hi3:i=(q*b.2.1+m).toNat:=by omega
 have hk:List.getD (kindsB b l) i 0=faAtD q m 0 l:=by
  unfold kindsB
  rw[hi3,ZAH hb k4 k5 k2 k3 hl (by simp)]
  congr 1
  simp only[List.getD,List.getElem?_replicate]
  split<;>rfl
 rw[hk]
 constructor
 ·intro h
  obtain ⟨f,hf,h1,h2,h3⟩:=ZPl h
  exact ⟨f,hf,h1,by unfold placeOf;rw[h2,h3];exact hi3.symm⟩
 ·rintro ⟨f, hf, h1, h2⟩
  obtain ⟨o1,o2,o3,o4⟩:=Zvy hl f hf
  have hp:=Z78 hb o1 o2 o3 o4
  have:=ZPw o3 o4 k2 k3 (show f.2.1*b.2.1+f.2.2=q*b.2.1+m by unfold placeOf at h2;omega)
  rw[ZPd hf this.1 this.2 hl,h1]
def stepAt(G K:List Int)(at':Nat)(o:List CellD):List CellD:=if turning (List.getD o at' (0,0)) then turnAt G K at' o else o
theorem ZE0{b:BoardD}(hb:boardOK b=true){l:List FaultD}(hl:faultsOK b (-1) l=true)(G:List Int){at':Nat}{o:List CellD}(ho:o.length=b.2.2.length)(ha:at'<o.length)(hs: ∀i,i<o.length→List.getD (kindsB b l) i 0=1→o[i]? =some (List.getD b.2.2 i (0,0))):
  restore b l (passAt G at' o)=stepAt G (kindsB b l) at' o:=by
 have hpl : (passAt G at' o).length = o.length := by
  unfold passAt;split
  ·simp
  ·split
   ·exact ZMJ _ _ _ _
   ·rfl
 apply List.ext_getElem?
 intro i
 rcases Nat.lt_or_ge i o.length with hi|hi
 ·rw [ZAD b l _ i (by rw [hpl]; exact hi)]
  have hst := ZUF hb hl (i := i) (by omega)
  have hox : o[i]? = some o[i] := List.getElem?_eq_getElem hi
  have hax : List.getD o at' (0, 0) = o[at'] := by simp [List.getD, List.getElem?_eq_getElem ha]
  by_cases hk : List.getD (kindsB b l) i 0 = 1
  ·rw [if_pos (hst.1 hk), ← hs i hi hk]
   unfold stepAt turnAt
   split
   ·rw [Zi8, hox, Option.map_some, if_neg (fun hc => hc.2 (by rw [Nat.zero_add]; exact hk))]
   ·rfl
  ·rw [if_neg (fun h => hk (hst.2 h))]
   unfold stepAt turnAt passAt turning
   rw [hax]
   by_cases h3 : (o[at']).1 = 3
   ·simp only [h3, true_or, decide_true, if_true]
    rw [Zi8, hox, Option.map_some, Nat.zero_add]
    by_cases hia : at' = i
    ·subst hia
     rw[List.getElem?_set_self hi,if_pos ⟨.inl rfl,hk⟩]
    ·have hno : ¬ ((i = at' ∨ ((3 : Int) = 6 ∧ (o[i]).1 = 6 ∧ List.getD G i 0 = List.getD G at' 0)) ∧ List.getD (kindsB b l) i 0 ≠ 1) := by
      rintro ⟨h|⟨h,_⟩,_⟩
      ·exact hia h.symm
      ·omega
     rw[List.getElem?_set_ne hia,hox,if_neg hno]
   ·by_cases h6 : (o[at']).1 = 6
    ·have h36 : ¬ (6 : Int) = 3 := by omega
     simp only[h6,h36,or_true,decide_true,if_true,if_false]
     rw[Zi8,ZPi,hox,Option.map_some,Option.map_some,Nat.zero_add]
     congr 1
     by_cases hc : (o[i]).1 = 6 ∧ List.getD G i 0 = List.getD G at' 0
     ·rw [if_pos hc, if_pos ⟨.inr ⟨rfl, hc⟩, hk⟩]
     ·rw [if_neg hc, if_neg (by
       rintro ⟨h|⟨_,h⟩,_⟩
       ·subst h;exact hc ⟨h6,rfl⟩
       ·exact hc h)]
    ·simp only[h3,h6,or_self,decide_false,Bool.false_eq_true,if_false]
 ·rw [List.getElem?_eq_none (by rw [ZwJ, hpl]; exact hi), List.getElem?_eq_none ?_]
  unfold stepAt turnAt
  split
  ·rw[ZzJ];exact hi
  ·exact hi
end
section
abbrev FallD:=Int×Int×Int
def goesOf(x:CellD)(side:Int):Int:=if x.1=1 then-1 else if x.1=2 then 1 else if x.1=3 then 2*x.2-1 else if x.1=6 then 2*x.2-1 else if x.1=4 then 0-side else 0
theorem ZuE{x:CellD}(hx:cellOK x=true){side:Int}(h1: -1≤side)(h2:side≤1): -1≤goesOf x side∧goesOf x side≤1:=by
 obtain ⟨c1,c2,c3⟩:=Zis hx
 unfold goesOf
 repeat' split
 all_goals omega
theorem ZBt(x:CellD)(side:Int)(hx:cellOK x=true)(h1: -1≤side)(h2:side≤1):Ev (fun k=>ZgH k x side) (if x.1=5 then (0,false) else (goesOf x side,true)):=by
 obtain ⟨c1,c2,c3⟩:=Zis hx
 have n1: ¬side< -1:=by omega
 have n2: ¬side>1:=by omega
 refine Ev.succ ?_
 simp only[ZgH]
 refine Ev.bind (ZkB x) ?_
 simp only[hx,Bool.not_true,Bool.false_eq_true,if_false,n1,n2,decide_false]
 rw[w64 (n:=2*x.2) (by omega) (by omega),w64 (n:=2*x.2-1) (by omega) (by omega),w64 (n:=0-side) (by omega) (by omega)]
 refine Ev.of ?_
 unfold goesOf
 by_cases a5:x.1=5
 ·simp[a5]
 ·by_cases a1:x.1=1<;>by_cases a2:x.1=2<;>by_cases a3:x.1=3<;>by_cases a6:x.1=6<;>by_cases a4:x.1=4<;>simp[a1,a2,a3,a4,a5,a6]
theorem ZBP(x:CellD)(side:Int)(hx:cellOK x=true)(h1: -1≤side)(h2:side≤1):Ev (fun k=>Zdm k x side) (goesOf x side):=by
 obtain ⟨c1,c2,c3⟩:=Zis hx
 refine Ev.succ ?_
 simp only[Zdm]
 rw[w64 (n:=2*x.2) (by omega) (by omega),w64 (n:=2*x.2-1) (by omega) (by omega),w64 (n:=0-side) (by omega) (by omega)]
 refine Ev.of ?_
 unfold goesOf
 by_cases a1:x.1=1<;>by_cases a2:x.1=2<;>by_cases a3:x.1=3<;>by_cases a6:x.1=6<;>by_cases a4:x.1=4<;>simp[a1,a2,a3,a4,a6]
theorem ZV3{x:CellD}(hx:cellOK x=true)(h:x.1=3∨x.1=6):cellOK (flip1 x)=true:=by
 obtain ⟨c1,c2,c3⟩:=Zis hx
 unfold cellOK flip1
 simp only[decide_eq_true_eq]
 omega
theorem ZWT{α:Type}{l:List α}{x:α}(h:x∈l): ∃i:Nat,l[i]? =some x:=List.getElem?_of_mem h
theorem ZdB(G K:List Int)(at':Nat)(o:List CellD):(stepAt G K at' o).length=o.length:=by
 unfold stepAt turnAt
 split
 ·exact ZzJ _ _ _ _ _ _
 ·rfl
theorem Zpe(G K:List Int){at':Nat}{o:List CellD}(hx: ∀x∈o,cellOK x=true): ∀x∈stepAt G K at' o,cellOK x=true:=by
 unfold stepAt turnAt
 split
 ·rename_i ht
  unfold turning at ht
  simp only[decide_eq_true_eq]at ht
  intro y hy
  obtain ⟨i,hi⟩:=ZWT hy
  rw[Zi8]at hi
  obtain ⟨x,h1,h2⟩:=Option.map_eq_some_iff.1 hi
  have hxo:=hx x (List.mem_of_getElem? h1)
  split at h2
  ·rename_i hc
   rw[←h2]
   refine ZV3 hxo ?_
   rcases hc.1 with h|⟨_,h,_⟩
   ·rw [Nat.zero_add] at h
    subst h
    simpa[List.getD,h1]using ht
   ·exact .inr h
  ·rw[←h2];exact hxo
 ·exact hx
theorem ZSm(G K:List Int){at' i:Nat}{o:List CellD}(hk:List.getD K i 0=1):(stepAt G K at' o)[i]? =o[i]? :=by
 unfold stepAt turnAt
 split
 ·rw [Zi8, Nat.zero_add]
  cases h:o[i]? with
  |none=>rfl
  |some x=>rw[Option.map_some,if_neg (fun hc=>hc.2 hk)]
 ·rfl
def fallL(b:BoardD)(G K:List Int):Nat→Int→Int→Int→List CellD→LR (Int×List CellD) (FallD×List CellD)
 |0,_,col,_,o=> .go (col,o)
 |n+1,row,col,side,o=>
  let at':=(row*b.2.1+col).toNat
  let x:=List.getD o at' (0,0)
  if List.getD K at' 0=2 then .ret ((3,row,col),o)
  else if x.1=5 then .ret ((2,row,col),o)
  else
   let g:=if List.getD K at' 0=3 then 0-goesOf x side else goesOf x side
   if 0≤col+g∧col+g<b.2.1 then fallL b G K n (row+1) (col+g) (0-g) (stepAt G K at' o) else .ret ((3,row,col+g),stepAt G K at' o)
def LR.map2{Z R Z' R':Type}(f:Z→Z')(g:R→R'):LR Z R→LR Z' R'
 | .go z=> .go (f z)| .ret r=> .ret (g r)
theorem Znv(b:BoardD)(hb:boardOK b=true)(G K:List Int)(hG:G.length=b.2.2.length)(hK:K.length=b.2.2.length)(c0 c1 c2:Int): ∀(n:Nat) (row col side:Int) (o:List CellD),row+n=b.1→0≤row→0≤col→col<b.2.1→ -1≤side→side≤1→o.length=b.2.2.length→(∀x∈o,cellOK x=true)→
  Ev (fun k=>ZT k o b.1 b.2.1 c0 c1 c2 G K col side row) ((fallL b G K n row col side o).map2 (fun z=>(z.2,b.1,b.2.1,c0,c1,c2,z.1)) id)
 | 0, row, col, side, o, hn, hr, hc, hc2, hs, hs2, ho, hx => by
  refine Ev.succ ?_
  have: ¬row<b.1:=by omega
  simp only[ZT,this,decide_false,Bool.false_eq_true,if_false,fallL,LR.map2]
  exact Ev.some _
 |n+1,row,col,side,o,hn,hr,hc,hc2,hs,hs2,ho,hx=>by
  obtain ⟨g1,g2,g3,g4,g5,g6⟩:=ZY hb
  have hpp:=ZU g1 g2 g3 g4
  have hrow:row<b.1:=by omega
  have hp:=Z78 hb hr hrow hc hc2
  have hoI:row*b.2.1+col<(o.length:Int):=by omega
  have hKI:row*b.2.1+col<(K.length:Int):=by omega
  have hcast:((row*b.2.1+col).toNat:Int)=row*b.2.1+col:=Int.toNat_of_nonneg hp.1
  refine Ev.succ ?_
  simp only[ZT,fallL]
  rw [w64 (n := row * b.2.1) (by omega) (by omega), w64 (n := row * b.2.1 + col) (by omega) (by omega), w64 (n := row + 1) (by omega) (by omega)]
  simp only[hrow,hp.1,hKI,hoI,decide_true,if_true]
  have hxo:=hx _ (ZrI hp.1 hoI (0,0))
  have hgo:=ZuE hxo hs hs2
  have ht:=ZrY (List.getD o (row*b.2.1+col).toNat (0,0))
  rw [hxo, Bool.true_and] at ht
  have hturn:=ZH9 b.1 b.2.1 o G K (row*b.2.1+col).toNat (by omega) (by omega) (by omega) (by omega) hx
  rw [hcast] at hturn
  generalize hX:List.getD o (row*b.2.1+col).toNat (0,0)=X at*
  refine Ev.ite (fun h=> ?_) (fun h=> ?_)
  ·simp only [decide_eq_true_eq] at h
   rw[if_pos h]
   exact Ev.some _
  simp only[decide_eq_true_eq]at h
  rw[if_neg h]
  refine Ev.bind (ZBt X side hxo hs hs2) ?_
  by_cases h5 : X.1 = 5
  ·simp only [h5, if_true, Bool.not_false]
   exact Ev.some _
  simp only[h5,if_false,Bool.not_true,Bool.false_eq_true]
  have tail: ∀g:Int, -1≤g→g≤1→Ev (fun k=>Option.bind (Z3I k X) fun z=>if z=true then Option.bind (Z7G k (b.1,b.2.1,o) G K (row*b.2.1+col)) fun z2=>if decide (wrap64 (col+g)<0)=true then some (LR.ret ((3,row,wrap64 (col+g)),z2)) else if decide (wrap64 (col+g)≥b.2.1)=true then some (LR.ret ((3,row,wrap64 (col+g)),z2)) else ZT k z2 b.1 b.2.1 c0 c1 c2 G K (wrap64 (col+g)) (wrap64 (0-g)) (row+1)
    else if decide (wrap64 (col+g)<0)=true then some (LR.ret ((3,row,wrap64 (col+g)),o)) else if decide (wrap64 (col+g)≥b.2.1)=true then some (LR.ret ((3,row,wrap64 (col+g)),o)) else ZT k o b.1 b.2.1 c0 c1 c2 G K (wrap64 (col+g)) (wrap64 (0-g)) (row+1))
    (LR.map2 (fun z => (z.2, b.1, b.2.1, c0, c1, c2, z.1)) id (if 0 ≤ col + g ∧ col + g < b.2.1 then fallL b G K n (row + 1) (col + g) (0 - g) (stepAt G K (row * b.2.1 + col).toNat o) else .ret ((3, row, col + g), stepAt G K (row * b.2.1 + col).toNat o))) := by
   intro g hg hg2
   rw[w64 (n:=col+g) (by omega) (by omega),w64 (n:=0-g) (by omega) (by omega)]
   have last: ∀o':List CellD,o'=stepAt G K (row*b.2.1+col).toNat o→Ev (fun k=>if decide (col+g<0)=true then some (LR.ret ((3,row,col+g),o')) else if decide (col+g≥b.2.1)=true then some (LR.ret ((3,row,col+g),o')) else ZT k o' b.1 b.2.1 c0 c1 c2 G K (col+g) (0-g) (row+1))
     (LR.map2 (fun z=>(z.2,b.1,b.2.1,c0,c1,c2,z.1)) id (if 0≤col+g∧col+g<b.2.1 then fallL b G K n (row+1) (col+g) (0-g) (stepAt G K (row*b.2.1+col).toNat o) else .ret ((3,row,col+g),stepAt G K (row*b.2.1+col).toNat o))):=by
    intro o' ho'
    refine Ev.ite (fun q=> ?_) (fun q=>Ev.ite (fun q2=> ?_) (fun q2=> ?_))
    ·simp only [decide_eq_true_eq] at q
     rw[if_neg (by omega),ho']
     exact Ev.some _
    ·simp only [decide_eq_true_eq] at q2
     rw[if_neg (by omega),ho']
     exact Ev.some _
    ·simp only [decide_eq_true_eq] at q q2
     rw[if_pos (by omega),ho']
     exact Znv b hb G K hG hK c0 c1 c2 n (row+1) (col+g) (0-g) _ (by omega) (by omega) (by omega) (by omega) (by omega) (by omega) (by rw[ZdB];exact ho) (Zpe G K hx)
   refine Ev.bind ht ?_
   have hstep:stepAt G K (row*b.2.1+col).toNat o=if turning X then turnAt G K (row*b.2.1+col).toNat o else o:=by unfold stepAt;rw[hX]
   cases htx:turning X with
   |true=>
    simp only[if_true]
    exact Ev.bind hturn (last _ (by rw[hstep,htx];rfl))
   |false=>
    simp only[Bool.false_eq_true,if_false]
    exact last _ (by rw[hstep,htx];rfl)
  refine Ev.ite (fun h3=> ?_) (fun h3=> ?_)
  ·simp only [decide_eq_true_eq] at h3
   simp only[h3,if_true]
   rw[w64 (n:=0-goesOf X side) (by omega) (by omega)]
   exact tail _ (by omega) (by omega)
  ·simp only [decide_eq_true_eq] at h3
   simp only[h3,if_false]
   exact tail _ hgo.1 hgo.2
def fallEnd(b:BoardD)(z:LR (Int×List CellD) (FallD×List CellD)):FallD×List CellD:=match z with
 | .go z=>((1,b.1,z.1),z.2)
 | .ret r=>r
def fallOf(b:BoardD)(G K:List Int)(col:Int)(o:List CellD):FallD×List CellD:=fallEnd b (fallL b G K b.1.toNat 0 col 0 o)
theorem ZHd(b:BoardD)(hb:boardOK b=true)(G K:List Int)(hG:G.length=b.2.2.length)(hK:K.length=b.2.2.length)(col:Int)(hc:0≤col)(hc2:col<b.2.1)(o:List CellD)(ho:o.length=b.2.2.length)(hx: ∀x∈o,cellOK x=true):Ev (fun k=>ZeL k (b.1,b.2.1,o) G K col) (fallOf b G K col o):=by
 obtain ⟨g1,g2,g3,g4,g5,g6⟩:=ZY hb
 refine Ev.succ ?_
 simp only[ZeL]
 refine Ev.bind (Znv b hb G K hG hK 0 0 0 b.1.toNat 0 col 0 o (by omega) (by omega) hc hc2 (by omega) (by omega) ho hx) ?_
 unfold fallOf
 cases fallL b G K b.1.toNat 0 col 0 o with
 |go z=>exact Ev.go (Ev.some _)
 |ret r=>exact Ev.ret (Ev.some _)
theorem ZB3(b:BoardD)(hb:boardOK b=true)(d1 d2 d3 d4 d5:Int)(o4:List CellD)(e1 e2:Int)(v1:List Int)(v2:List FaultD)(v3 v12 v15:Int): ∀(r pre:List FaultD) (o:List CellD),(∀f∈r,0≤f.2.1∧f.2.1<b.1∧0≤f.2.2∧f.2.2<b.2.1)→(pre++r).length≤9223372036854775806→o.length=b.2.2.length→
  Ev (fun k=>ZaU k b.1 b.2.1 b.2.2 d1 d2 d3 d4 d5 o4 e1 e2 o v1 v2 v3 v12 v15 (pre++r) ((pre++r).length:Int) (pre.length:Int)) (b.1,b.2.1,b.2.2,d1,d2,d3,d4,d5,o4,e1,e2,restore b r o,v1,v2,v3,v12,v15)
 | [], pre, o, hr, hl, ho => by
  refine Ev.succ ?_
  simp only[ZaU,Zn,decide_false,Bool.false_eq_true,if_false]
  exact Ev.some _
 |f::r,pre,o,hr,hl,ho=>by
  obtain ⟨k1,k2,k3,k4⟩:=hr f (List.mem_cons_self ..)
  have hp:=Z78 hb k1 k2 k3 k4
  have hpo:f.2.1*b.2.1+f.2.2<(o.length:Int):=by omega
  have hr': ∀g∈r,0≤g.2.1∧g.2.1<b.1∧0≤g.2.2∧g.2.2<b.2.1:=fun g hg=>hr g (List.mem_cons_of_mem _ hg)
  have ih:=fun (o':List CellD) (ho':o'.length=b.2.2.length)=>ZB3 b hb d1 d2 d3 d4 d5 o4 e1 e2 v1 v2 v3 v12 v15 r (pre++[f]) o' hr' (by simpa using hl) ho'
  simp only[←Ze]at ih
  have hrest:restore b (f::r) o=restore b r (if f.1=1 then List.set o (placeOf b f).toNat (List.getD b.2.2 (placeOf b f).toNat (0,0)) else o):=rfl
  rw[hrest]
  refine Ev.succ ?_
  simp only[ZaU,Zl,Zu,decide_true,if_true,Int.toNat_natCast,Zg]
  rw[Zk pre f r (by omega),w64 (n:=f.2.1*b.2.1) (by omega) (by omega),w64 (n:=f.2.1*b.2.1+f.2.2) (by omega) (by omega)]
  simp only[hp.1,hp.2.1,hpo,if_true]
  refine Ev.ite (fun h=> ?_) (fun h=> ?_)
  ·simp only [decide_eq_true_eq] at h
   rw[if_pos h]
   exact ih _ (by rw[List.length_set];exact ho)
  ·simp only [decide_eq_true_eq] at h
   rw[if_neg h]
   exact ih _ ho
theorem ZrP(b:BoardD)(h:b.2.2.length≤1000000):Ev (fun k=>Z9R k b) b:=by
 refine Ev.succ ?_
 simp only[Z9R,Zau]
 have:0+b.2.2.length≤140737488355328/16:=by omega
 simp only[this,if_true]
 exact Ev.some _
theorem ZkK(b:BoardD)(h:b.2.2.length≤1000000):Ev (fun k=>Z4M k b) b:=by
 refine Ev.succ ?_
 simp only[Z4M,Z5S]
 have:0+b.2.2.length≤140737488355328/16:=by omega
 simp only[this,if_true]
 exact Ev.some _
theorem Zz1(b:BoardD)(hb:boardOK b=true)(o:List CellD)(ho:o.length=b.2.2.length){r c:Int}(h1:0≤r)(h2:r<b.1)(h3:0≤c)(h4:c<b.2.1):Ev (fun k=>ZbE k (b.1,b.2.1,o) r c) (List.getD o (r*b.2.1+c).toNat (0,0)):=by
 have hp:=Z78 hb h1 h2 h3 h4
 have hpo:r*b.2.1+c<(o.length:Int):=by omega
 refine Ev.succ ?_
 simp only[ZbE]
 rw[w64 (n:=r*b.2.1) (by omega) (by omega),w64 (n:=r*b.2.1+c) (by omega) (by omega)]
 simp only[hp.1,hpo,if_true]
 exact Ev.some _
theorem ZC6(b:BoardD)(hb:boardOK b=true)(G:List Int)(hG:G.length=b.2.2.length)(l:List FaultD)(hl:faultsOK b (-1) l=true)(hll:l.length≤9223372036854775806)(d1 d2 d3 d4 d5:Int)(o4:List CellD): ∀(n:Nat) (row col side:Int) (o:List CellD),row+n=b.1→0≤row→0≤col→col<b.2.1→ -1≤side→side≤1→o.length=b.2.2.length→(∀x∈o,cellOK x=true)→(∀i,i<o.length→List.getD (kindsB b l) i 0=1→o[i]? =some (List.getD b.2.2 i (0,0)))→
  Ev (fun k=>Zdc k b.1 b.2.1 b.2.2 d1 d2 d3 d4 d5 o4 b.1 b.2.1 o G l col side row) ((fallL b G (kindsB b l) n row col side o).map2 (fun z=>(b.1,b.2.1,b.2.2,d1,d2,d3,d4,d5,o4,b.1,b.2.1,z.2,z.1)) (fun r=>(r.1,b.1,b.2.1,r.2)))
 |0,row,col,side,o,hn,hr,hc,hc2,hs,hs2,ho,hx,hst=>by
  refine Ev.succ ?_
  have: ¬row<b.1:=by omega
  simp only[Zdc,this,decide_false,Bool.false_eq_true,if_false,fallL,LR.map2]
  exact Ev.some _
 |n+1,row,col,side,o,hn,hr,hc,hc2,hs,hs2,ho,hx,hst=>by
  obtain ⟨g1,g2,g3,g4,g5,g6⟩:=ZY hb
  have hpp:=ZU g1 g2 g3 g4
  have hrow:row<b.1:=by omega
  have hp:=Z78 hb hr hrow hc hc2
  have hoI:row*b.2.1+col<(o.length:Int):=by omega
  have hcast:((row*b.2.1+col).toNat:Int)=row*b.2.1+col:=Int.toNat_of_nonneg hp.1
  have hK:List.getD (kindsB b l) (row*b.2.1+col).toNat 0=faAtD row col 0 l:=by
   unfold kindsB
   rw[ZAH hb hr hrow hc hc2 hl (by simp)]
   congr 1
   simp only[List.getD,List.getElem?_replicate]
   split<;>rfl
  have hxo:=hx _ (ZrI hp.1 hoI (0,0))
  have hgo:=ZuE hxo hs hs2
  have hpass:=ZBw b.1 b.2.1 o G (row*b.2.1+col).toNat (by omega) (by omega) (by omega) hx
  rw[hcast]at hpass
  have hres:=ZE0 hb hl G ho (at':=(row*b.2.1+col).toNat) (by omega) hst
  have hpl:(passAt G (row*b.2.1+col).toNat o).length=b.2.2.length:=by
   have:=congrArg List.length hres
   rw[ZwJ,ZdB]at this
   omega
  refine Ev.succ ?_
  simp only[Zdc,fallL]
  simp only[hrow,decide_true,if_true]
  refine Ev.bind (Zz1 b hb o ho hr hrow hc hc2) ?_
  generalize hX:List.getD o (row*b.2.1+col).toNat (0,0)=X at*
  refine Ev.bind (ZTv l row col hll) ?_
  rw[hK]
  refine Ev.ite (fun h=> ?_) (fun h=> ?_)
  ·simp only [decide_eq_true_eq] at h
   rw[if_pos h]
   simp only[ZbN]
   exact Ev.bind (Ev.some _) (Ev.some _)
  simp only[decide_eq_true_eq]at h
  rw[if_neg h]
  refine Ev.ite (fun h5=> ?_) (fun h5=> ?_)
  ·simp only [decide_eq_true_eq] at h5
   rw[if_pos h5]
   simp only[Zat]
   exact Ev.bind (Ev.some _) (Ev.some _)
  simp only[decide_eq_true_eq]at h5
  rw[if_neg h5]
  refine Ev.bind (ZBP X side hxo hs hs2) ?_
  have hg: -1≤(if faAtD row col 0 l=3 then 0-goesOf X side else goesOf X side)∧(if faAtD row col 0 l=3 then 0-goesOf X side else goesOf X side)≤1:=by split<;>omega
  have hj:Ev (fun k=>Zhu k b.1 b.2.1 b.2.2 d1 d2 d3 d4 d5 o4 b.1 b.2.1 o G l col row (goesOf X side) (decide (faAtD row col 0 l=3))) (b.1,b.2.1,b.2.2,d1,d2,d3,d4,d5,o4,b.1,b.2.1,o,G,l,col,row,if faAtD row col 0 l=3 then 0-goesOf X side else goesOf X side):=by
   simp only[Zhu]
   rw[w64 (n:=0-goesOf X side) (by omega) (by omega)]
   refine Ev.of ?_
   by_cases h3:faAtD row col 0 l=3<;>simp[h3]
  refine Ev.bind hj ?_
  generalize (if faAtD row col 0 l=3 then 0-goesOf X side else goesOf X side)=g at*
  dsimp only
  rw[w64 (n:=row*b.2.1) (by omega) (by omega),w64 (n:=row*b.2.1+col) (by omega) (by omega)]
  refine Ev.bind hpass ?_
  refine Ev.bind (ZB3 b hb d1 d2 d3 d4 d5 o4 b.1 b.2.1 G l col row g l [] _ (Zvy hl) (by simpa using hll) hpl) ?_
  rw[hres]
  dsimp only
  rw[w64 (n:=col+g) (by omega) (by omega),w64 (n:=b.2.1-1) (by omega) (by omega),w64 (n:=0-g) (by omega) (by omega),w64 (n:=row+1) (by omega) (by omega)]
  refine Ev.bind (Z1U _ _ _) (Ev.ite (fun q=> ?_) (fun q=> ?_))
  ·have q : ¬ (0 ≤ col + g ∧ col + g ≤ b.2.1 - 1) := nd q
   rw[if_neg (by omega)]
   simp only[Zaa]
   exact Ev.bind (Ev.some _) (Ev.some _)
  ·have q : 0 ≤ col + g ∧ col + g ≤ b.2.1 - 1 := yd q
   rw[if_pos (by omega)]
   refine ZC6 b hb G hG l hl hll d1 d2 d3 d4 d5 o4 n (row+1) (col+g) (0-g) _ (by omega) (by omega) (by omega) (by omega) (by omega) (by omega) (by rw[ZdB];exact ho) (Zpe G _ hx) (fun i hi hk=> ?_)
   rw[ZSm G _ hk]
   rw[ZdB]at hi
   exact hst i hi hk
theorem ZTs(b:BoardD)(hb:boardOK b=true)(G:List Int)(hG:G.length=b.2.2.length)(l:List FaultD)(hl:faultsOK b (-1) l=true)(hll:l.length≤9223372036854775806)(col:Int)(hc:0≤col)(hc2:col<b.2.1):Ev (fun k=>ZoP k b G l col) ((fallOf b G (kindsB b l) col b.2.2).1,b.1,b.2.1,(fallOf b G (kindsB b l) col b.2.2).2):=by
 obtain ⟨g1,g2,g3,g4,g5,g6⟩:=ZY hb
 have hpp:=ZU g1 g2 g3 g4
 refine Ev.succ ?_
 simp only[ZoP]
 refine Ev.bind (ZrP b (by omega)) ?_
 refine Ev.bind (ZC6 b hb G hG l hl hll 0 0 0 0 0 [] b.1.toNat 0 col 0 b.2.2 (by omega) (by omega) hc hc2 (by omega) (by omega) rfl g6 (fun i hi _=>by simp[List.getD,List.getElem?_eq_getElem hi])) ?_
 unfold fallOf
 cases fallL b G (kindsB b l) b.1.toNat 0 col 0 b.2.2 with
 |go z=>
  refine Ev.go ?_
  simp only[Zae]
  exact Ev.bind (Ev.some _) (Ev.some _)
 |ret r=>exact Ev.ret (Ev.some _)
end
section
end
section
theorem ZHb(b:BoardD)(c:Int)(hl:b.2.2.length≤9223372036854775806):Ev (fun k=>Zey k b c) (boardOK b&&decide (0≤c∧c<b.2.1)):=by
 refine Ev.succ ?_
 simp only[Zey]
 refine Ev.bind (Z8A b hl) ?_
 cases hb:boardOK b with
 |false=>simp only[Bool.false_eq_true,if_false,Bool.false_and];exact Ev.some _
 |true=>
  simp only[if_true,Bool.true_and]
  refine Ev.of ?_
  by_cases h1:c≥0<;>by_cases h2:c<b.2.1<;>simp[h1,h2]
  all_goals omega
theorem Zv9(b:BoardD)(G K:List Int): ∀(n:Nat) (row col side:Int) (o:List CellD),(fallEnd b (fallL b G K n row col side o)).2.length=o.length
 |0,_,_,_,_=>rfl
 |n+1,row,col,side,o=>by
  unfold fallL
  dsimp only
  repeat' split
  all_goals first|rfl|(rw[Zv9];exact ZdB _ _ _ _)|exact ZdB _ _ _ _
theorem ZU5(b:BoardD)(G K:List Int)(c:Int)(o:List CellD):(fallOf b G K c o).2.length=o.length:=Zv9 b G K _ _ _ _ o
end
section
theorem ZSh(G K:List Int)(at':Nat)(o:List CellD):(stepAt G K at' o).map Prod.fst=o.map Prod.fst:=by
 unfold stepAt turnAt
 split
 ·apply List.ext_getElem?
  intro i
  simp only[List.getElem?_map,Zi8]
  cases o[i]? with
  |none=>rfl
  |some x=>
   simp only[Option.map_some]
   split<;>simp[flip1]
 ·rfl
theorem Zwa(b:BoardD)(G K:List Int): ∀(n:Nat) (row col side:Int) (o:List CellD),(∀x∈o,cellOK x=true)→(∀x∈(fallEnd b (fallL b G K n row col side o)).2,cellOK x=true)∧(fallEnd b (fallL b G K n row col side o)).2.map Prod.fst=o.map Prod.fst
 |0,_,_,_,o,hx=>⟨hx,rfl⟩
 |n+1,row,col,side,o,hx=>by
  have h1:=Zwa b G K n (row+1)
  unfold fallL
  dsimp only
  have h2:=Zpe G K (at':=(row*b.2.1+col).toNat) hx
  have h3:=ZSh G K (row*b.2.1+col).toNat o
  repeat' split
  all_goals first|exact ⟨hx,rfl⟩|exact ⟨h2,h3⟩|exact ⟨(h1 _ _ _ h2).1,(h1 _ _ _ h2).2.trans h3⟩
theorem Zit(b:BoardD)(G K:List Int)(c:Int){o:List CellD}(hx: ∀x∈o,cellOK x=true): ∀x∈(fallOf b G K c o).2,cellOK x=true:=(Zwa b G K _ _ _ _ o hx).1
theorem ZrT(b:BoardD)(G K:List Int)(c:Int){o:List CellD}(hx: ∀x∈o,cellOK x=true):(fallOf b G K c o).2.map Prod.fst=o.map Prod.fst:=(Zwa b G K _ _ _ _ o hx).2
theorem ZMK{b b':BoardD}(h:b.2.1=b'.2.1)(G K:List Int): ∀(n:Nat) (row col side:Int) (o:List CellD),fallL b G K n row col side o=fallL b' G K n row col side o
 |0,_,_,_,_=>rfl
 |n+1,row,col,side,o=>by simp only[fallL,h,ZMK h G K n]
theorem ZJ6{b b':BoardD}(h1:b.1=b'.1)(h2:b.2.1=b'.2.1)(G K:List Int)(c:Int)(o:List CellD):fallOf b G K c o=fallOf b' G K c o:=by
 have:fallEnd b=fallEnd b':=by funext z;cases z<;>simp[fallEnd,h1]
 unfold fallOf
 rw[this,ZMK h2,h1]
theorem ZJd{b b':BoardD}(h:b.2.1=b'.2.1)(hl:b.2.2.length=b'.2.2.length)(l:List FaultD):kindsB b l=kindsB b' l:=by simp only[kindsB,kindsOf,placeOf,h,hl]
theorem ZUK{x y:CellD}(h:x.1=y.1)(k:Int):fits x k=fits y k:=by unfold fits turning;rw[h]
theorem ZPg{o o':List CellD}(h:o.map Prod.fst=o'.map Prod.fst)(i:Nat):(List.getD o i (0,0)).1=(List.getD o' i (0,0)).1:=by
 have:=congrArg (fun l=>l[i]?) h
 simp only[List.getElem?_map]at this
 simp only[List.getD]
 cases h1:o[i]? <;>cases h2:o'[i]? <;>simp[h1,h2]at this⊢
 exact this
theorem ZBI{b b':BoardD}(h1:b.1=b'.1)(h2:b.2.1=b'.2.1)(h:b.2.2.map Prod.fst=b'.2.2.map Prod.fst): ∀(l:List FaultD) (last:Int),faultsOK b last l=faultsOK b' last l
 |[],_=>rfl
 |x::r,last=>by
  simp only[faultsOK,h1,h2,ZBI h1 h2 h r]
  rw[ZUK (ZPg h _)]
theorem ZVn{b:BoardD}(hb:boardOK b=true){o:List CellD}(ho:o.length=b.2.2.length)(hx: ∀x∈o,cellOK x=true):boardOK (b.1,b.2.1,o)=true:=by
 obtain ⟨g1,g2,g3,g4,g5,g6⟩:=ZY hb
 unfold boardOK
 have:(o.length:Int)=b.1*b.2.1:=by omega
 simp only[g1,g2,g3,g4,this,and_self,decide_true,Bool.true_and]
 exact List.all_eq_true.2 hx
def runsOf(b:BoardD)(G K:List Int):List Int→List CellD→List FallD×List CellD
 |[],o=>([],o)
 |c::r,o=>((fallOf b G K c o).1::(runsOf b G K r (fallOf b G K c o).2).1,(runsOf b G K r (fallOf b G K c o).2).2)
theorem ZMn(b:BoardD)(G K:List Int): ∀(l:List Int) (o:List CellD),(runsOf b G K l o).1.length=l.length
 |[],_=>rfl
 |c::r,o=>by simp[runsOf,ZMn b G K r]
def colsOK(b:BoardD)(l:List Int):Prop:= ∀c∈l,0≤c∧c<b.2.1
theorem ZxO(b:BoardD)(hb:boardOK b=true)(G:List Int)(hG:G.length=b.2.2.length)(l:List FaultD)(hl:faultsOK b (-1) l=true)(hll:l.length≤9223372036854775806)(d1 d2:Int)(d3:List CellD): ∀(r pre:List Int) (o:List CellD) (w:List FallD),colsOK b r→(pre++r).length≤1000→w.length=pre.length→o.length=b.2.2.length→(∀x∈o,cellOK x=true)→o.map Prod.fst=b.2.2.map Prod.fst→
  Ev (fun k=>ZbT k d1 d2 d3 b.1 b.2.1 o G w l (pre++r) ((pre++r).length:Int) (pre.length:Int)) (d1,d2,d3,b.1,b.2.1,(runsOf b G (kindsB b l) r o).2,w++(runsOf b G (kindsB b l) r o).1)
 |[],pre,o,w,hc,hl1,hw,ho,hx,hp=>by
  refine Ev.succ ?_
  simp only[ZbT,Zn,decide_false,Bool.false_eq_true,if_false]
  simp only[runsOf,List.append_nil]
  exact Ev.some _
 |c::r,pre,o,w,hc,hl1,hw,ho,hx,hp=>by
  obtain ⟨k1,k2⟩:=hc c (List.mem_cons_self ..)
  have hb':=ZVn hb ho hx
  have hg:=ZTs (b.1,b.2.1,o) hb' G (hG.trans ho.symm) l (by rw[ZBI (b:=(b.1,b.2.1,o)) (b':=b) rfl rfl hp];exact hl) hll c k1 k2
  rw[ZJ6 (b:=(b.1,b.2.1,o)) (b':=b) rfl rfl,ZJd (b:=(b.1,b.2.1,o)) (b':=b) rfl ho]at hg
  have hlw:w.length+1≤140737488355328/24:=by simp at hl1;omega
  refine Ev.succ ?_
  simp only[ZbT,Zl,Zu,decide_true,if_true,Int.toNat_natCast,Zg]
  refine Ev.bind hg ?_
  simp only[List.length_singleton,hlw,if_true]
  rw[Zk pre c r (by omega)]
  have ih:=ZxO b hb G hG l hl hll d1 d2 d3 r (pre++[c]) (fallOf b G (kindsB b l) c o).2 (w++[(fallOf b G (kindsB b l) c o).1]) (fun y hy=>hc y (List.mem_cons_of_mem _ hy)) (by simpa using hl1) (by simp[hw]) ((Zv9 b G _ _ _ _ _ o).trans ho) (Zit _ _ _ _ hx) ((ZrT _ _ _ _ hx).trans hp)
  rw[←Ze]at ih
  refine ih.congr ?_
  simp[runsOf]
theorem Zi4(b:BoardD)(hb:boardOK b=true)(l:List FaultD)(hl:faultsOK b (-1) l=true)(hll:l.length≤9223372036854775806)(t:List Int)(ht:t.length≤1000)(hc:colsOK b t):Ev (fun k=>Z9X k b l t) ((runsOf b (groupsOf b) (kindsB b l) t b.2.2).1,b.1,b.2.1,(runsOf b (groupsOf b) (kindsB b l) t b.2.2).2):=by
 obtain ⟨g1,g2,g3,g4,g5,g6⟩:=ZY hb
 have hpp:=ZU g1 g2 g3 g4
 refine Ev.succ ?_
 simp only[Z9X]
 have h0:Ev (fun k=>Z74 k b.1 b.2.1 b.2.2 0 0 [] l t) (0,0,[],b.1,b.2.1,b.2.2,groupsOf b,l,t):=by
  simp only[Z74]
  exact Ev.bind (ZrP b (by omega)) (Ev.bind (ZvA b hb) (Ev.some _))
 refine Ev.bind h0 ?_
 refine Ev.bind (ZxO b hb (groupsOf b) (ZhS b) l hl hll 0 0 [] t [] b.2.2 [] hc (by simpa using ht) rfl rfl g6 rfl) ?_
 exact Ev.some _
theorem Zmb(b:BoardD)(hb:boardOK b=true)(G K:List Int)(hG:G.length=b.2.2.length)(hK:K.length=b.2.2.length)(d1 d2:Int)(d3:List CellD): ∀(r pre:List Int) (o:List CellD) (w:List FallD),colsOK b r→(pre++r).length≤1000→w.length=pre.length→o.length=b.2.2.length→(∀x∈o,cellOK x=true)→
  Ev (fun k=>Z5e k d1 d2 d3 b.1 b.2.1 o G K w (pre++r) ((pre++r).length:Int) (pre.length:Int)) (d1,d2,d3,b.1,b.2.1,(runsOf b G K r o).2,w++(runsOf b G K r o).1)
 |[],pre,o,w,hc,hl1,hw,ho,hx=>by
  refine Ev.succ ?_
  simp only[Z5e,Zn,decide_false,Bool.false_eq_true,if_false]
  simp only[runsOf,List.append_nil]
  exact Ev.some _
 |c::r,pre,o,w,hc,hl1,hw,ho,hx=>by
  obtain ⟨k1,k2⟩:=hc c (List.mem_cons_self ..)
  have hg:=ZHd b hb G K hG hK c k1 k2 o ho hx
  have hlw:w.length+1≤140737488355328/24:=by simp at hl1;omega
  refine Ev.succ ?_
  simp only[Z5e,Zl,Zu,decide_true,if_true,Int.toNat_natCast,Zg]
  refine Ev.bind hg ?_
  simp only[List.length_singleton,hlw,if_true]
  rw[Zk pre c r (by omega)]
  have ih:=Zmb b hb G K hG hK d1 d2 d3 r (pre++[c]) (fallOf b G K c o).2 (w++[(fallOf b G K c o).1]) (fun y hy=>hc y (List.mem_cons_of_mem _ hy)) (by simpa using hl1) (by simp[hw]) ((Zv9 b G _ _ _ _ _ o).trans ho) (Zit _ _ _ _ hx)
  rw[←Ze]at ih
  refine ih.congr ?_
  simp[runsOf]
theorem Zpp(b:BoardD)(hb:boardOK b=true)(l:List FaultD)(hl:faultsOK b (-1) l=true)(hll:l.length≤9223372036854775806)(t:List Int)(ht:t.length≤1000)(hc:colsOK b t):Ev (fun k=>Z9S k b l t) ((runsOf b (groupsOf b) (kindsB b l) t b.2.2).1,b.1,b.2.1,(runsOf b (groupsOf b) (kindsB b l) t b.2.2).2):=by
 obtain ⟨g1,g2,g3,g4,g5,g6⟩:=ZY hb
 have hpp:=ZU g1 g2 g3 g4
 refine Ev.succ ?_
 simp only[Z9S]
 refine Ev.bind (ZkK b (by omega)) (Ev.bind (ZgV b hb) (Ev.bind (ZDD b hb l hl hll) ?_))
 refine Ev.bind (Zmb b hb (groupsOf b) (kindsB b l) (ZhS b) (ZUb b l) 0 0 [] t [] b.2.2 [] hc (by simpa using ht) rfl rfl g6) ?_
 exact Ev.some _
theorem ZAi(b:BoardD)(i:Nat):List.getD (kindsB b []) i 0=0:=by
 show List.getD (List.replicate b.2.2.length (0:Int)) i 0=0
 simp only[List.getD,List.getElem?_replicate]
 split<;>rfl
theorem ZPu{b:BoardD}(hb:boardOK b=true)(G:List Int){at':Nat}{o:List CellD}(ho:o.length=b.2.2.length)(ha:at'<o.length):passAt G at' o=stepAt G (kindsB b []) at' o:=
 ZE0 (l:=[]) hb rfl G ho ha (fun i _ h=>by rw[ZAi]at h;cases h)
theorem ZCi(b:BoardD)(hb:boardOK b=true)(G:List Int)(hG:G.length=b.2.2.length)(d1 d2 d3 d4 d5:Int)(o4:List CellD): ∀(n:Nat) (row col side:Int) (o:List CellD) (q:List (List Int)),row+n=b.1→0≤row→0≤col→col<b.2.1→ -1≤side→side≤1→o.length=b.2.2.length→(∀x∈o,cellOK x=true)→(q.length:Int)=row→
  ∃p,Ev (fun k=>Z7T k b.1 b.2.1 b.2.2 d1 d2 d3 d4 d5 o4 b.1 b.2.1 o q G col side row) ((fallL b G (kindsB b []) n row col side o).map2 (fun z=>(b.1,b.2.1,b.2.2,d1,d2,d3,d4,d5,o4,b.1,b.2.1,z.2,p,z.1)) (fun r=>(r.1,(b.1,b.2.1,r.2),p)))
 | 0, row, col, side, o, q, hn, hr, hc, hc2, hs, hs2, ho, hx, hq => by
  refine ⟨q,Ev.succ ?_⟩
  have: ¬row<b.1:=by omega
  simp only[Z7T,this,decide_false,Bool.false_eq_true,if_false,fallL,LR.map2]
  exact Ev.some _
 |n+1,row,col,side,o,q,hn,hr,hc,hc2,hs,hs2,ho,hx,hq=>by
  obtain ⟨g1,g2,g3,g4,g5,g6⟩:=ZY hb
  have hpp:=ZU g1 g2 g3 g4
  have hrow:row<b.1:=by omega
  have hp:=Z78 hb hr hrow hc hc2
  have hoI:row*b.2.1+col<(o.length:Int):=by omega
  have hcast:((row*b.2.1+col).toNat:Int)=row*b.2.1+col:=Int.toNat_of_nonneg hp.1
  have hxo:=hx _ (ZrI hp.1 hoI (0,0))
  have hgo:=ZuE hxo hs hs2
  have hpass:=ZBw b.1 b.2.1 o G (row*b.2.1+col).toNat (by omega) (by omega) (by omega) hx
  rw[hcast,ZPu hb G ho (by omega)]at hpass
  have hql:q.length+1≤140737488355328/24:=by omega
  have hk2: ¬(0:Int)=2:=by omega
  have hk3: ¬(0:Int)=3:=by omega
  generalize hX:List.getD o (row*b.2.1+col).toNat (0,0)=X at*
  have start: ∀{v:List (List Int)→LR (Int×Int×List CellD×Int×Int×Int×Int×Int×List CellD×Int×Int×List CellD×List (List Int)×Int) (FallD×BoardD×List (List Int))},(∃p,Ev (fun k=>if decide (X.1=5)=true then Option.bind (Z77 k d1 d2 d3 d4 d5 o4 b.1 b.2.1 o (q++[[row,col]]) col row) fun z2=>some (LR.ret ((z2.1,z2.2.1,z2.2.2.1),(z2.2.2.2.1,z2.2.2.2.2.1,z2.2.2.2.2.2.1),z2.2.2.2.2.2.2))
    else Option.bind (Zdm k X side) fun z3=>Option.bind (Zdi k (b.1,b.2.1,o) G (row*b.2.1+col)) fun z4=>Option.bind (Z1f k (wrap64 (col+z3)) (0:Int) (b.2.1-1)) fun z5=>if (!z5)=true then Option.bind (Z7a k d1 d2 d3 d4 d5 o4 b.1 b.2.1 z4 (q++[[row,col]]) (wrap64 (col+z3)) row) fun z6=>some (LR.ret ((z6.1,z6.2.1,z6.2.2.1),(z6.2.2.2.1,z6.2.2.2.2.1,z6.2.2.2.2.2.1),z6.2.2.2.2.2.2)) else Z7T k b.1 b.2.1 b.2.2 d1 d2 d3 d4 d5 o4 b.1 b.2.1 z4 (q++[[row,col]]) G (wrap64 (col+z3)) (wrap64 ((0:Int)-z3)) (wrap64 (row+1))) (v p))→
    ∃p,Ev (fun k=>Z7T k b.1 b.2.1 b.2.2 d1 d2 d3 d4 d5 o4 b.1 b.2.1 o q G col side row) (v p):=by
   rintro v ⟨p,h⟩
   refine ⟨p,Ev.succ ?_⟩
   simp only[Z7T,hrow,decide_true,if_true,List.length_singleton,hql]
   rw[w64 (n:=row*b.2.1) (by omega) (by omega),w64 (n:=row*b.2.1+col) (by omega) (by omega),w64 (n:=b.2.1-1) (by omega) (by omega)]
   have:=Zz1 b hb o ho hr hrow hc hc2
   rw[hX]at this
   exact Ev.bind this h
  refine start ?_
  simp only[fallL,hX,ZAi,hk2,hk3,if_false]
  by_cases h5 : X.1 = 5
  ·refine ⟨q ++ [[row, col]], ?_⟩
   simp only[h5,decide_true,if_true,Z77]
   exact Ev.bind (Ev.some _) (Ev.some _)
  simp only[h5,decide_false,Bool.false_eq_true,if_false]
  generalize hgg:goesOf X side=g at*
  have hgo':=ZBP X side hxo hs hs2
  rw[hgg]at hgo'
  by_cases hin : 0 ≤ col + g ∧ col + g < b.2.1
  ·rw [if_pos hin]
   obtain ⟨p,ih⟩:=ZCi b hb G hG d1 d2 d3 d4 d5 o4 n (row+1) (col+g) (0-g) (stepAt G (kindsB b []) (row*b.2.1+col).toNat o) (q++[[row,col]]) (by omega) (by omega) (by omega) (by omega) (by omega) (by omega) (by rw[ZdB];exact ho) (Zpe G _ hx) (by simp;omega)
   refine ⟨p,Ev.bind hgo' (Ev.bind hpass ?_)⟩
   rw[w64 (n:=col+g) (by omega) (by omega),w64 (n:=0-g) (by omega) (by omega),w64 (n:=row+1) (by omega) (by omega)]
   refine Ev.bind (Z1U _ _ _) (Ev.ite (fun hh=> ?_) (fun hh=>ih))
   have hh: ¬(0≤col+g∧col+g≤b.2.1-1):=nd hh
   omega
  ·rw [if_neg hin]
   refine ⟨q++[[row,col]],Ev.bind hgo' (Ev.bind hpass ?_)⟩
   rw[w64 (n:=col+g) (by omega) (by omega)]
   refine Ev.bind (Z1U _ _ _) (Ev.ite (fun hh=> ?_) (fun hh=> ?_))
   ·simp only [Z7a]
    exact Ev.bind (Ev.some _) (Ev.some _)
   ·have hh : 0 ≤ col + g ∧ col + g ≤ b.2.1 - 1 := yd hh
    omega
theorem ZTe(b:BoardD)(hb:boardOK b=true)(G:List Int)(hG:G.length=b.2.2.length)(col:Int)(hc:0≤col)(hc2:col<b.2.1): ∃p,Ev (fun k=>Z2I k b G col) ((fallOf b G (kindsB b []) col b.2.2).1,(b.1,b.2.1,(fallOf b G (kindsB b []) col b.2.2).2),p):=by
 obtain ⟨g1,g2,g3,g4,g5,g6⟩:=ZY hb
 have hpp:=ZU g1 g2 g3 g4
 obtain ⟨p,h⟩:=ZCi b hb G hG 0 0 0 0 0 [] b.1.toNat 0 col 0 b.2.2 [] (by omega) (by omega) hc hc2 (by omega) (by omega) rfl g6 rfl
 refine ⟨p,Ev.succ ?_⟩
 simp only[Z2I]
 refine Ev.bind (ZrP b (by omega)) (Ev.bind h ?_)
 unfold fallOf
 cases fallL b G (kindsB b []) b.1.toNat 0 col 0 b.2.2 with
 |go z=>
  refine Ev.go ?_
  simp only[Zah]
  exact Ev.bind (Ev.some _) (Ev.some _)
 |ret r=>exact Ev.ret (Ev.some _)
theorem Zpl(R C:Int)(G:List Int)(at':Nat): ∀(r pre:List CellD),(pre++r).length≤1000→at'<(pre++r).length→G.length=(pre++r).length→(∀x∈r,cellOK x=true)→
  Ev (fun k=>Z2y k (pre++r) R C G (at':Int) ((pre++r).length:Int) (pre.length:Int)) (pre++passGo G (List.getD G at' 0) pre.length r)
 | [], pre, hl, ha, hG, hx => by
  refine Ev.succ ?_
  simp only[Z2y,Zn,decide_false,Bool.false_eq_true,if_false,passGo]
  exact Ev.some _
 |x::r,pre,hl,ha,hG,hx=>by
  have hn:=Zk pre x r (by omega)
  have hlt:=Zl pre x r
  have hGl:(pre.length:Int)<(G.length:Int):=by rw[hG];exact hlt
  have ha0:(0:Int)≤(at':Int):=Int.natCast_nonneg _
  have ha1:(at':Int)<((pre++x::r).length:Int):=by omega
  have haG:(at':Int)<(G.length:Int):=by rw[hG];exact ha1
  obtain ⟨c1,c2,c3⟩:=Zis (hx x (List.mem_cons_self ..))
  have hr': ∀y∈r,cellOK y=true:=fun y hy=>hx y (List.mem_cons_of_mem _ hy)
  have next: ∀y:CellD,Ev (fun k=>Z2y k (pre++y::r) R C G (at':Int) ((pre++x::r).length:Int) ((pre++[x]).length:Int)) (pre++y::passGo G (List.getD G at' 0) (pre.length+1) r):=by
   intro y
   have ih:=Zpl R C G at' r (pre++[y]) (by simpa using hl) (by simpa using ha) (by simpa using hG) hr'
   have e1:((pre++[y]++r).length:Int)=((pre++x::r).length:Int):=by simp
   have e2:((pre++[y]).length:Int)=((pre++[x]).length:Int):=by simp
   have e3:(pre++[y]).length=pre.length+1:=by simp
   rw[e1,e2,e3,←Ze,←Ze]at ih
   exact ih
  refine Ev.succ ?_
  simp only[Z2y,Zl,Zu,decide_true,if_true,Int.toNat_natCast,Zg,Zy9,hn,hGl,ha0,haG]
  rw[w64 (n:=1-x.2) (by omega) (by omega)]
  simp only[passGo]
  refine Ev.ite (fun h1=>Ev.ite (fun h2=> ?_) (fun h2=> ?_)) (fun h1=> ?_)
  ·simp only [decide_eq_true_eq] at h1 h2
   rw[if_pos ⟨h1,h2⟩]
   exact next (flip1 x)
  ·simp only [decide_eq_true_eq] at h2
   rw[if_neg (fun hc=>h2 hc.2)]
   exact next x
  ·simp only [decide_eq_true_eq] at h1
   rw[if_neg (fun hc=>h1 hc.1)]
   exact next x
theorem ZJt(R C:Int)(o:List CellD)(G:List Int)(at':Nat)(hl:o.length≤1000)(ha:at'<o.length)(hG:G.length=o.length)(hx: ∀x∈o,cellOK x=true):Ev (fun k=>Zcv k (R,C,o) G (at':Int)) (passGo G (List.getD G at' 0) 0 o):=by
 refine Ev.succ ?_
 simp only[Zcv]
 exact Ev.bind (Zpl R C G at' o [] hl ha hG hx) (Ev.some _)
theorem ZCj(b:BoardD)(hb:boardOK b=true)(G:List Int)(hG:G.length=b.2.2.length)(c0 c1 c2:Int): ∀(n:Nat) (row col side:Int) (o:List CellD) (q:List Int),row+n=b.1→0≤row→0≤col→col<b.2.1→ -1≤side→side≤1→o.length=b.2.2.length→(∀x∈o,cellOK x=true)→(q.length:Int)=row→
  ∃p,Ev (fun k=>Z3M k o b.1 b.2.1 c0 c1 c2 q G col side row) ((fallL b G (kindsB b []) n row col side o).map2 (fun z=>(z.2,b.1,b.2.1,c0,c1,c2,p,z.1)) (fun r=>(r.1,p,r.2)))
 | 0, row, col, side, o, q, hn, hr, hc, hc2, hs, hs2, ho, hx, hq => by
  refine ⟨q,Ev.succ ?_⟩
  have: ¬row<b.1:=by omega
  simp only[Z3M,this,decide_false,Bool.false_eq_true,if_false,fallL,LR.map2]
  exact Ev.some _
 |n+1,row,col,side,o,q,hn,hr,hc,hc2,hs,hs2,ho,hx,hq=>by
  obtain ⟨g1,g2,g3,g4,g5,g6⟩:=ZY hb
  have hpp:=ZU g1 g2 g3 g4
  have hrow:row<b.1:=by omega
  have hp:=Z78 hb hr hrow hc hc2
  have hoI:row*b.2.1+col<(o.length:Int):=by omega
  have hcast:((row*b.2.1+col).toNat:Int)=row*b.2.1+col:=Int.toNat_of_nonneg hp.1
  have hxo:=hx _ (ZrI hp.1 hoI (0,0))
  have hgo:=ZuE hxo hs hs2
  have hgt:=ZBt (List.getD o (row*b.2.1+col).toNat (0,0)) side hxo hs hs2
  have hturn:=ZJt b.1 b.2.1 o G (row*b.2.1+col).toNat (by omega) (by omega) (by omega) hx
  rw[hcast]at hturn
  have hpass:=ZPu hb G ho (show (row*b.2.1+col).toNat<o.length by omega)
  unfold passAt at hpass
  have hql:q.length+1≤140737488355328/8:=by omega
  have hk2: ¬(0:Int)=2:=by omega
  have hk3: ¬(0:Int)=3:=by omega
  obtain ⟨cc1,cc2,cc3⟩:=Zis hxo
  simp only[fallL,ZAi,hk2,hk3,if_false]
  generalize hS:stepAt G (kindsB b []) (row*b.2.1+col).toNat o=S at*
  have hSl:S.length=b.2.2.length:=by rw[←hS,ZdB];exact ho
  have hSx: ∀x∈S,cellOK x=true:=by rw[←hS];exact Zpe G _ hx
  generalize hX:List.getD o (row*b.2.1+col).toNat (0,0)=X at*
  by_cases h5 : X.1 = 5
  ·refine ⟨q ++ [row * b.2.1 + col], Ev.succ ?_⟩
   simp only[Z3M,hrow,decide_true,if_true,List.length_singleton,hql]
   rw[w64 (n:=row*b.2.1) (by omega) (by omega),w64 (n:=row*b.2.1+col) (by omega) (by omega)]
   simp only[hp.1,hoI,if_true,hX]
   refine Ev.bind hgt ?_
   simp only[h5,if_true,Bool.not_false]
   exact Ev.some _
  simp only[h5,if_false]at hgt⊢
  generalize goesOf X side=g at*
  have tail: ∃p,∀o',o'=S→Ev (fun k=>if decide (wrap64 (col+g)<0)=true then some (LR.ret ((3,row,wrap64 (col+g)),q++[row*b.2.1+col],o')) else if decide (wrap64 (col+g)≥b.2.1)=true then some (LR.ret ((3,row,wrap64 (col+g)),q++[row*b.2.1+col],o')) else Z3M k o' b.1 b.2.1 c0 c1 c2 (q++[row*b.2.1+col]) G (wrap64 (col+g)) (wrap64 (0-g)) (wrap64 (row+1)))
    (LR.map2 (fun z=>(z.2,b.1,b.2.1,c0,c1,c2,p,z.1)) (fun r=>(r.1,p,r.2)) (if 0≤col+g∧col+g<b.2.1 then fallL b G (kindsB b []) n (row+1) (col+g) (0-g) S else .ret ((3,row,col+g),S))):=by
   rw[w64 (n:=col+g) (by omega) (by omega),w64 (n:=0-g) (by omega) (by omega),w64 (n:=row+1) (by omega) (by omega)]
   by_cases hin:0≤col+g∧col+g<b.2.1
   ·obtain ⟨p, ih⟩ := ZCj b hb G hG c0 c1 c2 n (row + 1) (col + g) (0 - g) S (q ++ [row * b.2.1 + col]) (by omega) (by omega) (by omega) (by omega) (by omega) (by omega) hSl hSx (by simp; omega)
    refine ⟨p,fun o' ho'=> ?_⟩
    subst ho'
    rw[if_pos hin]
    refine Ev.ite (fun h=> ?_) (fun _=>Ev.ite (fun h=> ?_) (fun _=>ih))
    ·simp only[decide_eq_true_eq]at h;omega
    ·simp only[decide_eq_true_eq]at h;omega
   ·refine ⟨q ++ [row * b.2.1 + col], fun o' ho' => ?_⟩
    subst ho'
    rw[if_neg hin]
    refine Ev.ite (fun _=>Ev.some _) (fun h=>Ev.ite (fun _=>Ev.some _) (fun h2=> ?_))
    simp only[decide_eq_true_eq]at h h2
    omega
  obtain ⟨p,tail⟩:=tail
  refine ⟨p,Ev.succ ?_⟩
  simp only[Z3M,hrow,decide_true,if_true,List.length_singleton,hql]
  rw[w64 (n:=row*b.2.1) (by omega) (by omega),w64 (n:=row*b.2.1+col) (by omega) (by omega)]
  simp only[hp.1,hoI,if_true,hX]
  rw[w64 (n:=1-X.2) (by omega) (by omega)]
  refine Ev.bind hgt ?_
  simp only[Bool.not_true,Bool.false_eq_true,if_false]
  by_cases h3 : X.1 = 3
  ·have h36 : ¬ (3 : Int) = 6 := by omega
   simp only[h3,decide_true,if_true,h36,decide_false,Bool.false_eq_true,if_false]
   rw[if_pos h3]at hpass
   refine tail _ ?_
   rw[←hpass]
   simp[flip1,h3]
  ·simp only [h3, decide_false, Bool.false_eq_true, if_false]
   rw[if_neg h3]at hpass
   by_cases h6:X.1=6
   ·simp only [h6, decide_true, if_true]
    rw[if_pos h6]at hpass
    exact Ev.bind hturn (tail _ hpass)
   ·simp only [h6, decide_false, Bool.false_eq_true, if_false]
    rw[if_neg h6]at hpass
    exact tail _ hpass
theorem ZJc(b:BoardD)(hb:boardOK b=true)(G:List Int)(hG:G.length=b.2.2.length)(col:Int)(hc:0≤col)(hc2:col<b.2.1)(o:List CellD)(ho:o.length=b.2.2.length)(hx: ∀x∈o,cellOK x=true): ∃p,Ev (fun k=>Z9r k (b.1,b.2.1,o) G col) ((fallOf b G (kindsB b []) col o).1,p,(fallOf b G (kindsB b []) col o).2):=by
 obtain ⟨g1,g2,g3,g4,g5,g6⟩:=ZY hb
 obtain ⟨p,h⟩:=ZCj b hb G hG 0 0 0 b.1.toNat 0 col 0 o [] (by omega) (by omega) hc hc2 (by omega) (by omega) ho hx rfl
 refine ⟨p,Ev.succ ?_⟩
 simp only[Z9r]
 refine Ev.bind h ?_
 unfold fallOf
 cases fallL b G (kindsB b []) b.1.toNat 0 col 0 o with
 |go z=>exact Ev.go (Ev.some _)
 |ret r=>exact Ev.ret (Ev.some _)
end
section
theorem ZlK(b:BoardD): ∀(r pre:List Int),(pre++r).length≤9223372036854775806→Ev (fun k=>Z4y k b.1 b.2.1 b.2.2 (pre++r) ((pre++r).length:Int) (pre.length:Int)) (if r.all (fun c=>decide (0≤c∧c<b.2.1)) then LR.go () else LR.ret false)
 | [], pre, hl => by
  refine Ev.succ ?_
  simp only[Z4y,Zn,decide_false,Bool.false_eq_true,if_false,List.all_nil,if_true]
  exact Ev.some _
 |x::r,pre,hl=>by
  have ih:=ZlK b r (pre++[x]) (by simpa using hl)
  refine Ev.succ ?_
  simp only[Z4y,Zl,Zu,decide_true,if_true,Int.toNat_natCast,Zg]
  rw[Zk pre x r (by omega)]
  rw[←Ze]at ih
  refine Ev.ite (fun h=> ?_) (fun h=>Ev.ite (fun h2=> ?_) (fun h2=> ?_))
  ·simp only [decide_eq_true_eq] at h
   have hx: ¬(0≤x∧x<b.2.1):=by omega
   simp only[hx,List.all_cons,decide_false,Bool.false_and,Bool.false_eq_true,if_false];exact Ev.some _
  ·simp only [decide_eq_true_eq] at h2
   have hx: ¬(0≤x∧x<b.2.1):=by omega
   simp only[hx,List.all_cons,decide_false,Bool.false_and,Bool.false_eq_true,if_false];exact Ev.some _
  ·simp only [decide_eq_true_eq] at h h2
   have hx:0≤x∧x<b.2.1:=by omega
   simp only[hx,and_self,List.all_cons,decide_true,Bool.true_and];exact ih
theorem ZnM(b:BoardD)(l:List Int)(hb:b.2.2.length≤9223372036854775806)(hl:l.length≤9223372036854775806):Ev (fun k=>Z8n k b l) (boardOK b&&decide (l.length≤60)&&l.all fun c=>decide (0≤c∧c<b.2.1)):=by
 refine Ev.succ ?_
 simp only[Z8n]
 refine Ev.bind (Z8A b hb) ?_
 cases hbo:boardOK b with
 |false=>simp only[Bool.not_false,if_true,Bool.false_and];exact Ev.some _
 |true=>
  simp only[Bool.not_true,Bool.false_eq_true,if_false,Bool.true_and]
  refine Ev.ite (fun h=>Ev.of ?_) (fun h=> ?_)
  ·simp only [decide_eq_true_eq] at h
   have: ¬l.length≤60:=by omega
   simp[this]
  ·simp only [decide_eq_true_eq] at h
   have h6:l.length≤60:=by omega
   refine Ev.bind (ZlK b l [] (by simpa using hl)) ?_
   simp only[h6,decide_true,Bool.true_and]
   cases hx:l.all (fun c=>decide (0≤c∧c<b.2.1)) with
   |true=>simp only[if_true];exact Ev.go (Ev.some _)
   |false=>simp only[Bool.false_eq_true,if_false];exact Ev.ret (Ev.some _)
end
section
end
section
theorem eq3(x y:FallD):(decide (x.1=y.1)&&(decide (x.2.1=y.2.1)&&(decide (x.2.2=y.2.2)&&true)))=decide (x=y):=by
 obtain ⟨a0,a1,a2⟩:=x
 obtain ⟨b0,b1,b2⟩:=y
 by_cases h0:a0=b0<;>by_cases h1:a1=b1<;>by_cases h2:a2=b2<;>simp[h0,h1,h2]
def diffIx:Nat→List FallD→List FallD→Option Nat
 |i,x::r,y::s=>if x=y then diffIx (i+1) r s else some i
 |_,_,_=>none
def ixOf:Option Nat→Int
 |none=> -1
 |some i=>(i:Int)
def lrOf{R:Type}(f:Nat→R):Option Nat→LR Unit R
 |none=> .go ()
 |some i=> .ret (f i)
theorem Zx0: ∀(i:Nat) (r s:List FallD),s.length=r.length→(diffIx i r s=none↔r=s)
 |i,[],s,h=>by
  obtain rfl:s=[]:=List.eq_nil_of_length_eq_zero h
  simp[diffIx]
 |i,x::r,[],h=>by simp at h
 |i,x::r,y::s,h=>by
  have ih:=Zx0 (i+1) r s (by simpa using h)
  by_cases hxy:x=y<;>simp[diffIx,hxy,ih]
theorem ZWE(z:Option Nat):ixOf z<0↔z=none:=by
 cases z with
 |none=>simp[ixOf]
 |some i=>simp only[ixOf,reduceCtorEq,iff_false];omega
theorem ZuO: ∀(r s pre pre':List FallD),s.length=r.length→pre'.length=pre.length→(pre++r).length≤1000000→Ev (fun k=>Zav k (pre'++s) (pre++r) ((pre++r).length:Int) (pre.length:Int)) (lrOf (fun i=>(i:Int)) (diffIx pre.length r s))
 | [], s, pre, pre', h, hp, hl => by
  obtain rfl:s=[]:=List.eq_nil_of_length_eq_zero h
  refine Ev.succ ?_
  simp only[Zav,Zn,decide_false,Bool.false_eq_true,if_false]
  exact Ev.some _
 |x::r,[],pre,pre',h,hp,hl=>by simp at h
 |x::r,y::s,pre,pre',h,hp,hl=>by
  have ih:=ZuO r s (pre++[x]) (pre'++[y]) (by simpa using h) (by simpa using hp) (by simpa using hl)
  have l2:(pre.length:Int)<((pre'++y::s).length:Int):=by rw[←hp];exact Zl _ _ _
  have g2:List.getD (pre'++y::s) pre.length (0,0,0)=y:=by rw[←hp];exact Zg _ _ _ _
  refine Ev.succ ?_
  simp only[Zav,Zl,Zu,l2,decide_true,if_true,Int.toNat_natCast,Zg,g2,eq3]
  rw[Zk pre x r (by omega)]
  rw[←Ze,←Ze]at ih
  refine Ev.ite (fun hh=> ?_) (fun hh=> ?_)
  ·have hh : ¬ x = y := nd hh
   exact Ev.of (by simp[diffIx,hh,lrOf])
  ·have hh : x = y := yd hh
   refine ih.congr ?_
   simp[diffIx,hh]
theorem Z9T: ∀(r s pre pre':List FallD),s.length=r.length→pre'.length=pre.length→(pre++r).length≤1000000→Ev (fun k=>ZN k (pre++r) (pre'++s) ((pre++r).length:Int) (pre.length:Int)) (lrOf (fun _=>false) (diffIx pre.length r s))
 | [], s, pre, pre', h, hp, hl => by
  obtain rfl:s=[]:=List.eq_nil_of_length_eq_zero h
  refine Ev.succ ?_
  simp only[ZN,Zn,decide_false,Bool.false_eq_true,if_false]
  exact Ev.some _
 |x::r,[],pre,pre',h,hp,hl=>by simp at h
 |x::r,y::s,pre,pre',h,hp,hl=>by
  have ih:=Z9T r s (pre++[x]) (pre'++[y]) (by simpa using h) (by simpa using hp) (by simpa using hl)
  have l2:(pre.length:Int)<((pre'++y::s).length:Int):=by rw[←hp];exact Zl _ _ _
  have g2:List.getD (pre'++y::s) pre.length (0,0,0)=y:=by rw[←hp];exact Zg _ _ _ _
  refine Ev.succ ?_
  simp only[ZN,Zl,Zu,l2,decide_true,if_true,Int.toNat_natCast,Zg,g2,eq3]
  rw[Zk pre x r (by omega)]
  rw[←Ze,←Ze]at ih
  refine Ev.ite (fun hh=> ?_) (fun hh=> ?_)
  ·have hh : ¬ x = y := nd hh
   exact Ev.of (by simp[diffIx,hh,lrOf])
  ·have hh : x = y := yd hh
   refine ih.congr ?_
   simp[diffIx,hh]
theorem ZQl(l m:List FallD)(h:m.length=l.length)(hl:l.length≤1000000):Ev (fun k=>Zkz k l m) (ixOf (diffIx 0 l m)):=by
 refine Ev.succ ?_
 simp only[Zkz]
 refine Ev.bind (ZuO l m [] [] h rfl (by simpa using hl)) ?_
 simp only[List.length_nil]
 cases diffIx 0 l m with
 |none=>exact Ev.go (Ev.some _)
 |some i=>exact Ev.ret (Ev.some _)
theorem ZjD(l m:List FallD)(hl:l.length≤1000000):Ev (fun k=>Z38 k l m) (decide (l=m)):=by
 refine Ev.succ ?_
 simp only[Z38]
 by_cases h : l.length = m.length
 ·simp only [h, ne_eq, not_true_eq_false, decide_false, Bool.false_eq_true, if_false]
  have hh:=Z9T l m [] [] h.symm rfl (by simpa using hl)
  simp only[List.nil_append,List.length_nil,h]at hh
  refine Ev.bind hh ?_
  have hn:=Zx0 0 l m h.symm
  cases hd:diffIx 0 l m with
  |none=>
   rw[hd]at hn
   simp only[hn.1 rfl,decide_true]
   exact Ev.go (Ev.some _)
  |some i=>
   rw[hd]at hn
   have: ¬l=m:=fun hc=>by have:=hn.2 hc;cases this
   simp only[this,decide_false]
   exact Ev.ret (Ev.some _)
 ·have h2 : ¬ (l.length : Int) = (m.length : Int) := by omega
  have h3: ¬l=m:=fun hc=>h (by rw[hc])
  simp only[ne_eq,h2,not_false_eq_true,decide_true,if_true,h3,decide_false]
  exact Ev.some _
def entriesOK(b:BoardD)(t:List Int):Bool:=boardOK b&&decide (t.length≤60)&&t.all fun c=>decide (0≤c∧c<b.2.1)
theorem ZU6{b:BoardD}{t:List Int}(h:entriesOK b t=true):boardOK b=true∧t.length≤60∧colsOK b t:=by
 unfold entriesOK at h
 simp only[Bool.and_eq_true,decide_eq_true_eq,List.all_eq_true]at h
 exact ⟨h.1.1,h.1.2,h.2⟩
def endOK(b:BoardD)(e:FallD):Bool:=decide (1≤e.1∧e.1≤3)&&decide (0≤e.2.1∧e.2.1≤b.1)&&decide (-1≤e.2.2∧e.2.2≤b.2.1)
def seenOK(b:BoardD)(t:List Int)(s:List FallD):Bool:=boardOK b&&(decide (b.2.2.length≤24)&&(decide (t.length≤20)&&((t.all fun c=>decide (0≤c∧c<b.2.1))&&(decide (s.length=t.length)&&s.all (endOK b)))))
theorem ZxB{b:BoardD}{t:List Int}{s:List FallD}(h:seenOK b t s=true):boardOK b=true∧b.2.2.length≤24∧t.length≤20∧colsOK b t∧s.length=t.length:=by
 unfold seenOK at h
 simp only[Bool.and_eq_true,decide_eq_true_eq,List.all_eq_true]at h
 exact ⟨h.1,h.2.1,h.2.2.1,h.2.2.2.1,h.2.2.2.2.1⟩
theorem ZvH(b:BoardD): ∀(r pre:List FallD),(pre++r).length≤9223372036854775806→Ev (fun k=>Zam k b.1 b.2.1 b.2.2 (pre++r) ((pre++r).length:Int) (pre.length:Int)) (if r.all (endOK b) then LR.go () else LR.ret false)
 | [], pre, hl => by
  refine Ev.succ ?_
  simp only[Zam,Zn,decide_false,Bool.false_eq_true,if_false,List.all_nil,if_true]
  exact Ev.some _
 |x::r,pre,hl=>by
  have ih:=ZvH b r (pre++[x]) (by simpa using hl)
  refine Ev.succ ?_
  simp only[Zam,Zl,Zu,decide_true,if_true,Int.toNat_natCast,Zg]
  rw[Zk pre x r (by omega)]
  rw[←Ze]at ih
  simp only[List.all_cons]
  have hd:endOK b x=(decide (1≤x.1∧x.1≤3)&&decide (0≤x.2.1∧x.2.1≤b.1)&&decide (-1≤x.2.2∧x.2.2≤b.2.1)):=rfl
  refine Ev.bind (Z1U _ _ _) (Ev.ite (fun h=> ?_) (fun h1=> ?_))
  ·have h := nd (c := 1 ≤ x.1 ∧ x.1 ≤ 3) h
   exact Ev.of (by simp[hd,h])
  refine Ev.bind (Z1U _ _ _) (Ev.ite (fun h=> ?_) (fun h2=> ?_))
  ·have h := nd (c := 0 ≤ x.2.1 ∧ x.2.1 ≤ b.1) h
   exact Ev.of (by simp only[hd,h,decide_false,Bool.and_false,Bool.false_and,Bool.false_eq_true,if_false])
  refine Ev.bind (Z1U _ _ _) (Ev.ite (fun h=> ?_) (fun h3=> ?_))
  ·have h := nd (c := -1 ≤ x.2.2 ∧ x.2.2 ≤ b.2.1) h
   exact Ev.of (by simp only[hd,h,decide_false,Bool.and_false,Bool.false_and,Bool.false_eq_true,if_false])
  have h1:=yd (c:=1≤x.1∧x.1≤3) h1
  have h2:=yd (c:=0≤x.2.1∧x.2.1≤b.1) h2
  have h3:=yd (c:= -1≤x.2.2∧x.2.2≤b.2.1) h3
  refine ih.congr ?_
  simp only[hd,h1,h2,h3,and_self,decide_true,Bool.true_and]
theorem ZQf(b:BoardD)(t:List Int)(s:List FallD)(hb:b.2.2.length≤9223372036854775806)(ht:t.length≤9223372036854775806)(hs:s.length≤9223372036854775806):Ev (fun k=>Zkd k b t s) (seenOK b t s):=by
 refine Ev.succ ?_
 simp only[Zkd]
 have hdg:Ev (fun k=>Ziz k b) (boardOK b&&decide (b.2.2.length≤24)):=by
  refine Ev.succ ?_
  simp only[Ziz]
  refine Ev.bind (ZBe b hb) (Ev.of ?_)
  have:((b.2.2.length:Int)≤24)↔b.2.2.length≤24:=by omega
  cases boardOK b<;>simp[this]
 refine Ev.bind hdg ?_
 unfold seenOK
 rw [← Bool.and_assoc]
 cases h0:(boardOK b&&decide (b.2.2.length≤24)) with
 |false=>simp only[Bool.not_false,if_true,Bool.false_and];exact Ev.some _
 |true=>
  have hbo:boardOK b=true:=by rw[Bool.and_eq_true]at h0;exact h0.1
  obtain ⟨g1,g2,g3,g4,g5,g6⟩:=ZY hbo
  simp only[Bool.not_true,Bool.false_eq_true,if_false,Bool.true_and]
  rw[w64 (n:=b.2.1-1) (by omega) (by omega)]
  refine Ev.ite (fun h=> ?_) (fun h=> ?_)
  ·simp only [decide_eq_true_eq] at h
   have: ¬t.length≤20:=by omega
   simp only[this,decide_false,Bool.false_and]
   exact Ev.some _
  simp only[decide_eq_true_eq]at h
  have h20:t.length≤20:=by omega
  simp only[h20,decide_true,Bool.true_and]
  have hall:(t.all fun n=>decide (0≤n∧n≤b.2.1-1))=(t.all fun c=>decide (0≤c∧c<b.2.1)):=by
   congr 1
   funext c
   have:(0≤c∧c≤b.2.1-1)↔(0≤c∧c<b.2.1):=by omega
   simp only[this]
  refine Ev.bind (ZlZ t _ _ ht) ?_
  rw[hall]
  cases h1:(t.all fun c=>decide (0≤c∧c<b.2.1)) with
  |false=>simp only[Bool.not_false,if_true,Bool.false_and];exact Ev.some _
  |true=>
   simp only[Bool.not_true,Bool.false_eq_true,if_false,Bool.true_and]
   refine Ev.ite (fun h=> ?_) (fun h=> ?_)
   ·simp only [decide_eq_true_eq] at h
    have: ¬s.length=t.length:=by omega
    simp only[this,decide_false,Bool.false_and]
    exact Ev.some _
   simp only[decide_eq_true_eq]at h
   have hst:s.length=t.length:=by omega
   rw[decide_eq_true hst,Bool.true_and]
   refine Ev.bind (ZvH b s [] (by simpa using hs)) ?_
   cases s.all (endOK b) with
   |true=>simp only[if_true];exact Ev.go (Ev.some _)
   |false=>simp only[Bool.false_eq_true,if_false];exact Ev.ret (Ev.some _)
theorem Zvv(b:BoardD): ∀(r pre:List FallD),(pre++r).length≤9223372036854775806→Ev (fun k=>Za9 k b.1 b.2.1 b.2.2 (pre++r) ((pre++r).length:Int) (pre.length:Int)) (if r.all (endOK b) then LR.go () else LR.ret false)
 | [], pre, hl => by
  refine Ev.succ ?_
  simp only[Za9,Zn,decide_false,Bool.false_eq_true,if_false,List.all_nil,if_true]
  exact Ev.some _
 |x::r,pre,hl=>by
  have ih:=Zvv b r (pre++[x]) (by simpa using hl)
  refine Ev.succ ?_
  simp only[Za9,Zl,Zu,decide_true,if_true,Int.toNat_natCast,Zg]
  rw[Zk pre x r (by omega)]
  rw[←Ze]at ih
  simp only[List.all_cons]
  have hd:endOK b x=decide (1≤x.1∧x.1≤3∧0≤x.2.1∧x.2.1≤b.1∧ -1≤x.2.2∧x.2.2≤b.2.1):=by
   unfold endOK
   rw[←Bool.decide_and,←Bool.decide_and]
   exact decide_eq_decide.2 (by omega)
  have no: ¬(1≤x.1∧x.1≤3∧0≤x.2.1∧x.2.1≤b.1∧ -1≤x.2.2∧x.2.2≤b.2.1)→(if (endOK b x&&r.all (endOK b))=true then LR.go () else LR.ret false:LR Unit Bool)=LR.ret false:=by
   intro h
   simp only[hd,h,decide_false,Bool.false_and,Bool.false_eq_true,if_false]
  refine Ev.ite (fun h=>Ev.of ?_) (fun a1=>Ev.ite (fun h=>Ev.of ?_) (fun a2=>Ev.ite (fun h=>Ev.of ?_) (fun a3=>Ev.ite (fun h=>Ev.of ?_) (fun a4=>Ev.ite (fun h=>Ev.of ?_) (fun a5=>Ev.ite (fun h=>Ev.of ?_) (fun a6=> ?_))))))
  all_goals try (simp only[decide_eq_true_eq]at h;exact congrArg some (no (by omega)).symm)
  simp only[decide_eq_true_eq]at a1 a2 a3 a4 a5 a6
  have:1≤x.1∧x.1≤3∧0≤x.2.1∧x.2.1≤b.1∧ -1≤x.2.2∧x.2.2≤b.2.1:=by omega
  refine ih.congr ?_
  simp only[hd,decide_eq_true this,Bool.true_and]
theorem ZC0(b:BoardD)(t:List Int)(s:List FallD)(hb:b.2.2.length≤9223372036854775806)(ht:t.length≤9223372036854775806)(hs:s.length≤9223372036854775806):Ev (fun k=>ZgC k b t s) (seenOK b t s):=by
 refine Ev.succ ?_
 simp only[ZgC]
 refine Ev.bind (ZnM b t hb ht) ?_
 unfold seenOK
 have no: ∀{p q r:Bool} {c:Bool},(p&&(q&&(r&&(c&&(decide (s.length=t.length)&&s.all (endOK b))))))=true→p=true∧q=true∧r=true∧c=true∧s.length=t.length∧s.all (endOK b)=true:=by
  intro p q r c h
  simp only[Bool.and_eq_true,decide_eq_true_eq]at h
  exact ⟨h.1,h.2.1,h.2.2.1,h.2.2.2.1,h.2.2.2.2.1,h.2.2.2.2.2⟩
 generalize hv:(boardOK b&&(decide (b.2.2.length≤24)&&(decide (t.length≤20)&&((t.all fun c=>decide (0≤c∧c<b.2.1))&&(decide (s.length=t.length)&&s.all (endOK b))))))=v
 have out:(∀(h1:boardOK b=true) (h2:b.2.2.length≤24) (h3:t.length≤20) (h4:(t.all fun c=>decide (0≤c∧c<b.2.1))=true) (h5:s.length=t.length) (h6:s.all (endOK b)=true),False)→v=false:=by
  intro h
  cases hb:v with
  |false=>rfl
  |true=>
   rw[hb]at hv
   obtain ⟨a1,a2,a3,a4,a5,a6⟩:=no hv
   exact (h a1 (of_decide_eq_true a2) (of_decide_eq_true a3) a4 a5 a6).elim
 refine Ev.ite (fun h=> ?_) (fun h=> ?_)
 ·rw [out (fun h1 h2 h3 h4 h5 h6 => by
   have h3':t.length≤60:=by omega
   rw[h1,h4,decide_eq_true h3']at h
   cases h)]
  exact Ev.some _
 simp only[Bool.not_eq_true,Bool.not_eq_false',Bool.and_eq_true,decide_eq_true_eq]at h
 obtain ⟨⟨a1,a2⟩,a3⟩:=h
 refine Ev.ite (fun h=> ?_) (fun h=> ?_)
 ·simp only [decide_eq_true_eq] at h
  rw[out (fun h1 h2 h3 h4 h5 h6=>by omega)]
  exact Ev.some _
 refine Ev.ite (fun h'=> ?_) (fun h'=> ?_)
 ·simp only [decide_eq_true_eq] at h'
  rw[out (fun h1 h2 h3 h4 h5 h6=>by omega)]
  exact Ev.some _
 refine Ev.ite (fun h''=> ?_) (fun h''=> ?_)
 ·simp only [decide_eq_true_eq] at h''
  rw[out (fun h1 h2 h3 h4 h5 h6=>by omega)]
  exact Ev.some _
 simp only[decide_eq_true_eq]at h h' h''
 have b2:b.2.2.length≤24:=by omega
 have b3:t.length≤20:=by omega
 have b5:s.length=t.length:=by omega
 rw[a1,a3,decide_eq_true b2,decide_eq_true b3,decide_eq_true b5,Bool.true_and,Bool.true_and,Bool.true_and,Bool.true_and,Bool.true_and]at hv
 subst hv
 refine Ev.bind (Zvv b s [] (by simpa using hs)) ?_
 cases s.all (endOK b) with
 |true=>simp only[if_true];exact Ev.go (Ev.some _)
 |false=>simp only[Bool.false_eq_true,if_false];exact Ev.ret (Ev.some _)
def endsOf(b:BoardD)(l:List FaultD)(t:List Int):List FallD:=(runsOf b (groupsOf b) (kindsB b l) t b.2.2).1
def leftOf(b:BoardD)(l:List FaultD)(t:List Int):List CellD:=(runsOf b (groupsOf b) (kindsB b l) t b.2.2).2
theorem Zj0(b:BoardD)(l:List FaultD)(t:List Int):(endsOf b l t).length=t.length:=ZMn _ _ _ _ _
theorem ZIC(b:BoardD)(hb:boardOK b=true)(l:List FaultD)(hl:faultsOK b (-1) l=true)(hll:l.length≤9223372036854775806)(t:List Int)(ht:t.length≤1000)(hc:colsOK b t)(s:List FallD)(hs:s.length=t.length):Ev (fun k=>ZeB k b l t s) (decide (endsOf b l t=s)):=by
 refine Ev.succ ?_
 simp only[ZeB]
 have he:=Zj0 b l t
 refine Ev.bind (Zi4 b hb l hl hll t ht hc) (Ev.bind (ZQl (endsOf b l t) s (by omega) (by omega)) (Ev.of ?_))
 congr 1
 exact decide_eq_decide.2 ((ZWE _).trans (Zx0 0 _ _ (by omega)))
theorem ZnI(b:BoardD)(hb:boardOK b=true)(l:List FaultD)(hl:faultsOK b (-1) l=true)(hll:l.length≤9223372036854775806)(t:List Int)(ht:t.length≤1000)(hc:colsOK b t)(s:List FallD):Ev (fun k=>Z8u k b l t s) (decide (endsOf b l t=s)):=by
 refine Ev.succ ?_
 simp only[Z8u]
 have he:=Zj0 b l t
 exact Ev.bind (Zpp b hb l hl hll t ht hc) (Ev.bind (ZjD (endsOf b l t) s (by omega)) (Ev.some _))
end
section
def kindsAt(C i:Int)(x:CellD):List FaultD:=([1,2,3].filter (fits x)).map fun kd=>(kd,Int.tdiv i C,Int.tmod i C)
def possFrom(C:Int):Int→List CellD→List FaultD
 |_,[]=>[]
 |i,x::r=>kindsAt C i x++possFrom C (i+1) r
theorem ZvU(C i:Int)(x:CellD):(kindsAt C i x).length≤3:=by
 unfold kindsAt
 rw[List.length_map]
 exact Nat.le_trans (List.length_filter_le _ _) (by simp)
theorem ZEj(C:Int): ∀(r:List CellD) (i:Int),(possFrom C i r).length≤3*r.length
 |[],_=>by simp[possFrom]
 |x::r,i=>by
  have h1:=ZvU C i x
  have h2:=ZEj C r (i+1)
  simp only[possFrom,List.length_append,List.length_cons]
  omega
theorem ZTB{i C:Int}(hi:0≤i)(hC:1≤C):0≤Int.tdiv i C∧Int.tdiv i C≤i:=by
 rw[Int.tdiv_eq_ediv_of_nonneg hi]
 exact ⟨Int.ediv_nonneg hi (by omega),Int.ediv_le_self _ hi⟩
theorem Zcu(R C:Int)(cs:List CellD)(x:CellD)(i kd:Int)(hi:0≤i)(hi2:i≤90)(hC:1≤C)(hk:1≤kd)(hk2:kd≤3)(v8:List CellD)(v9 v10:Int)(o:List FaultD)(ho:o.length≤1000)(z:Int×Int×List CellD×List FaultD×List CellD×Int×Int)
  (h:Ev (fun k=>Z23 k R C cs (if fits x kd then o++[(kd,Int.tdiv i C,Int.tmod i C)] else o) x.1 x.2 i (kd+1) v8 v9 v10) z):Ev (fun k=>Z23 k R C cs o x.1 x.2 i kd v8 v9 v10) z:=by
 have hd:=ZTB hi hC
 have hC0: ¬C=0:=by omega
 have hlen:o.length+1≤5864062014805:=by omega
 refine Ev.succ ?_
 simp only[Z23,hk2,decide_true,if_true]
 rw[w64 (n:=kd+1) (by omega) (by omega),w64 (n:=Int.tdiv i C) (by omega) (by omega)]
 refine Ev.bind (ZB4 x kd) ?_
 cases hf:fits x kd with
 |true=>
  simp only[hf,if_true]at h
  simp only[if_true,hC0,if_false,List.length_singleton]
  have:o.length+1≤140737488355328/24:=by omega
  simp only[this,if_true]
  exact h
 |false=>
  simp only[hf,Bool.false_eq_true,if_false]at h
  simp only[Bool.false_eq_true,if_false]
  exact h
theorem ZCx(R C:Int)(cs:List CellD)(x:CellD)(i:Int)(hi:0≤i)(hi2:i≤90)(hC:1≤C)(v8:List CellD)(v9 v10:Int)(o:List FaultD)(ho:o.length≤900):Ev (fun k=>Z23 k R C cs o x.1 x.2 i 1 v8 v9 v10) (R,C,cs,o++kindsAt C i x,v8,v9,v10):=by
 have e1:(if fits x 1 then o++[(1,Int.tdiv i C,Int.tmod i C)] else o)=o++(if fits x 1 then [(1,Int.tdiv i C,Int.tmod i C)] else []):=by split<;>simp
 refine Zcu R C cs x i 1 hi hi2 hC (by omega) (by omega) v8 v9 v10 o (by omega) _ ?_
 rw[e1]
 generalize h1:(if fits x 1 then [((1:Int),Int.tdiv i C,Int.tmod i C)] else [])=o1
 have l1:o1.length≤1:=by rw[←h1];split<;>simp
 refine Zcu R C cs x i 2 hi hi2 hC (by omega) (by omega) v8 v9 v10 _ (by simp;omega) _ ?_
 have e2:(if fits x 2 then (o++o1)++[(2,Int.tdiv i C,Int.tmod i C)] else o++o1)=(o++o1)++(if fits x 2 then [(2,Int.tdiv i C,Int.tmod i C)] else []):=by split<;>simp
 rw[e2]
 generalize h2:(if fits x 2 then [((2:Int),Int.tdiv i C,Int.tmod i C)] else [])=o2
 have l2:o2.length≤1:=by rw[←h2];split<;>simp
 refine Zcu R C cs x i 3 hi hi2 hC (by omega) (by omega) v8 v9 v10 _ (by simp;omega) _ ?_
 refine Ev.succ ?_
 simp only[Z23]
 have h4: ¬(3+1:Int)≤3:=by omega
 simp only[h4,decide_false,Bool.false_eq_true,if_false]
 refine Ev.of ?_
 rw[←h1,←h2]
 unfold kindsAt
 cases f1:fits x 1<;>cases f2:fits x 2<;>cases f3:fits x 3<;>simp[List.filter,f1,f2,f3]
theorem ZnO(R C:Int)(hC:1≤C)(cs:List CellD): ∀(r pre:List CellD) (o:List FaultD),(pre++r).length≤90→o.length≤3*pre.length→Ev (fun k=>Z4f k R C cs o (pre++r) ((pre++r).length:Int) (pre.length:Int)) (o++possFrom C pre.length r)
 |[],pre,o,hl,ho=>by
  refine Ev.succ ?_
  simp only[Z4f,Zn,decide_false,Bool.false_eq_true,if_false,possFrom]
  rw[List.append_nil o]
  exact Ev.some _
 |x::r,pre,o,hl,ho=>by
  have hl2:=hl
  simp only[List.length_append,List.length_cons]at hl2
  have hka:(kindsAt C pre.length x).length≤3:=ZvU _ _ _
  have ih:=ZnO R C hC cs r (pre++[x]) (o++kindsAt C pre.length x) (by simpa using hl) (by simp;omega)
  refine Ev.succ ?_
  simp only[Z4f,Zl,Zu,decide_true,if_true,Int.toNat_natCast,Zg]
  refine Ev.bind (ZCx R C cs x (pre.length:Int) (by omega) (by omega) hC (pre++x::r) ((pre++x::r).length:Int) (pre.length:Int) o (by omega)) ?_
  show Ev (fun k=>Z4f k R C cs (o++kindsAt C pre.length x) (pre++x::r) ((pre++x::r).length:Int) (wrap64 ((pre.length:Int)+1))) _
  rw[Zk pre x r (by omega)]
  rw[←Ze]at ih
  refine ih.congr ?_
  simp[possFrom]
theorem ZqG(b:BoardD)(hb:boardOK b=true):Ev (fun k=>Zbd k b) (possFrom b.2.1 0 b.2.2):=by
 obtain ⟨g1,g2,g3,g4,g5,g6⟩:=ZY hb
 have hp:=ZU g1 g2 g3 g4
 refine Ev.succ ?_
 simp only[Zbd]
 exact Ev.bind (ZnO b.1 b.2.1 g3 b.2.2 b.2.2 [] [] (by simp;omega) (by simp)) (Ev.some _)
theorem Z92(R C:Int)(cs:List CellD)(x:CellD)(hx:cellOK x=true)(i kd:Int)(hi:0≤i)(hi2:i≤90)(hC:1≤C)(hk:1≤kd)(hk2:kd≤3)(v8:List CellD)(v9 v10:Int)(o:List FaultD)(ho:o.length≤1000)(z:Int×Int×List CellD×List FaultD×List CellD×Int×Int)
  (h:Ev (fun k=>Z1h k R C cs (if fits x kd then o++[(kd,Int.tdiv i C,Int.tmod i C)] else o) x.1 x.2 i (kd+1) v8 v9 v10) z):Ev (fun k=>Z1h k R C cs o x.1 x.2 i kd v8 v9 v10) z:=by
 have hd:=ZTB hi hC
 have hC0: ¬C=0:=by omega
 have hlen:o.length+1≤5864062014805:=by omega
 refine Ev.succ ?_
 simp only[Z1h,hk2,decide_true,if_true]
 rw[w64 (n:=kd+1) (by omega) (by omega),w64 (n:=Int.tdiv i C) (by omega) (by omega)]
 refine Ev.bind (ZxH x kd hx) ?_
 cases hf:fits x kd with
 |true=>
  simp only[hf,if_true]at h
  simp only[if_true,hC0,if_false,List.length_singleton]
  have:o.length+1≤140737488355328/24:=by omega
  simp only[this,if_true]
  exact h
 |false=>
  simp only[hf,Bool.false_eq_true,if_false]at h
  simp only[Bool.false_eq_true,if_false]
  exact h
theorem ZtY(R C:Int)(cs:List CellD)(x:CellD)(hx:cellOK x=true)(i:Int)(hi:0≤i)(hi2:i≤90)(hC:1≤C)(v8:List CellD)(v9 v10:Int)(o:List FaultD)(ho:o.length≤900):Ev (fun k=>Z1h k R C cs o x.1 x.2 i 1 v8 v9 v10) (R,C,cs,o++kindsAt C i x,v8,v9,v10):=by
 have e1:(if fits x 1 then o++[(1,Int.tdiv i C,Int.tmod i C)] else o)=o++(if fits x 1 then [(1,Int.tdiv i C,Int.tmod i C)] else []):=by split<;>simp
 refine Z92 R C cs x hx i 1 hi hi2 hC (by omega) (by omega) v8 v9 v10 o (by omega) _ ?_
 rw[e1]
 generalize h1:(if fits x 1 then [((1:Int),Int.tdiv i C,Int.tmod i C)] else [])=o1
 have l1:o1.length≤1:=by rw[←h1];split<;>simp
 refine Z92 R C cs x hx i 2 hi hi2 hC (by omega) (by omega) v8 v9 v10 _ (by simp;omega) _ ?_
 have e2:(if fits x 2 then (o++o1)++[(2,Int.tdiv i C,Int.tmod i C)] else o++o1)=(o++o1)++(if fits x 2 then [(2,Int.tdiv i C,Int.tmod i C)] else []):=by split<;>simp
 rw[e2]
 generalize h2:(if fits x 2 then [((2:Int),Int.tdiv i C,Int.tmod i C)] else [])=o2
 have l2:o2.length≤1:=by rw[←h2];split<;>simp
 refine Z92 R C cs x hx i 3 hi hi2 hC (by omega) (by omega) v8 v9 v10 _ (by simp;omega) _ ?_
 refine Ev.succ ?_
 simp only[Z1h]
 have h4: ¬(3+1:Int)≤3:=by omega
 simp only[h4,decide_false,Bool.false_eq_true,if_false]
 refine Ev.of ?_
 rw[←h1,←h2]
 unfold kindsAt
 cases f1:fits x 1<;>cases f2:fits x 2<;>cases f3:fits x 3<;>simp[List.filter,f1,f2,f3]
theorem Zja(R C:Int)(hC:1≤C)(cs:List CellD): ∀(r pre:List CellD) (o:List FaultD),(∀y∈r,cellOK y=true)→(pre++r).length≤90→o.length≤3*pre.length→Ev (fun k=>Z2q k R C cs o (pre++r) ((pre++r).length:Int) (pre.length:Int)) (o++possFrom C pre.length r)
 |[],pre,o,hx,hl,ho=>by
  refine Ev.succ ?_
  simp only[Z2q,Zn,decide_false,Bool.false_eq_true,if_false,possFrom]
  rw[List.append_nil o]
  exact Ev.some _
 |x::r,pre,o,hx,hl,ho=>by
  have hl2:=hl
  simp only[List.length_append,List.length_cons]at hl2
  have hka:(kindsAt C pre.length x).length≤3:=ZvU _ _ _
  have ih:=Zja R C hC cs r (pre++[x]) (o++kindsAt C pre.length x) (fun y hy=>hx y (List.mem_cons_of_mem _ hy)) (by simpa using hl) (by simp;omega)
  refine Ev.succ ?_
  simp only[Z2q,Zl,Zu,decide_true,if_true,Int.toNat_natCast,Zg]
  refine Ev.bind (ZtY R C cs x (hx x (List.mem_cons_self ..)) (pre.length:Int) (by omega) (by omega) hC (pre++x::r) ((pre++x::r).length:Int) (pre.length:Int) o (by omega)) ?_
  show Ev (fun k=>Z2q k R C cs (o++kindsAt C pre.length x) (pre++x::r) ((pre++x::r).length:Int) (wrap64 ((pre.length:Int)+1))) _
  rw[Zk pre x r (by omega)]
  rw[←Ze]at ih
  refine ih.congr ?_
  simp[possFrom]
theorem Zzz(b:BoardD)(hb:boardOK b=true):Ev (fun k=>Zak k b) (possFrom b.2.1 0 b.2.2):=by
 obtain ⟨g1,g2,g3,g4,g5,g6⟩:=ZY hb
 have hp:=ZU g1 g2 g3 g4
 refine Ev.succ ?_
 simp only[Zak]
 exact Ev.bind (Zja b.1 b.2.1 g3 b.2.2 b.2.2 [] [] g6 (by simp;omega) (by simp)) (Ev.some _)
theorem ZWc{i C:Int}(hi:0≤i)(hC:1≤C):Int.tdiv i C*C+Int.tmod i C=i∧0≤Int.tmod i C∧Int.tmod i C<C∧0≤Int.tdiv i C:=by
 rw[Int.tdiv_eq_ediv_of_nonneg hi,Int.tmod_eq_emod_of_nonneg hi]
 refine ⟨?_,Int.emod_nonneg _ (by omega),Int.emod_lt_of_pos _ (by omega),Int.ediv_nonneg hi (by omega)⟩
 rw[Int.mul_comm]
 exact Int.mul_ediv_add_emod i C
theorem ZTw{C i:Int}{x:CellD}{f:FaultD}(h:f∈kindsAt C i x):f.2.1=Int.tdiv i C∧f.2.2=Int.tmod i C∧fits x f.1=true:=by
 unfold kindsAt at h
 obtain ⟨kd,h1,rfl⟩:=List.mem_map.1 h
 exact ⟨rfl,rfl,(List.mem_filter.1 h1).2⟩
theorem ZSn{C:Int}: ∀{r:List CellD} {i:Nat} {f:FaultD},f∈possFrom C i r→ ∃j:Nat,i≤j∧j<i+r.length∧f.2.1=Int.tdiv j C∧f.2.2=Int.tmod j C∧fits (List.getD r (j-i) (0,0)) f.1=true
 | [], i, f, h => by simp [possFrom] at h
 |x::r,i,f,h=>by
  simp only[possFrom,List.mem_append]at h
  rcases h with h|h
  ·obtain ⟨h1, h2, h3⟩ := ZTw h
   exact ⟨i,Nat.le_refl _,by simp,h1,h2,by simpa using h3⟩
  ·have h' : f ∈ possFrom C ((i + 1 : Nat) : Int) r := h
   obtain ⟨j,h1,h2,h3,h4,h5⟩:=ZSn h'
   refine ⟨j,by omega,by simp only[List.length_cons];omega,h3,h4,?_⟩
   rw[show j-i=(j-(i+1))+1 by omega]
   exact h5
theorem ZU9{b:BoardD}(hb:boardOK b=true){f:FaultD}(h:f∈possFrom b.2.1 0 b.2.2):0≤f.2.1∧f.2.1<b.1∧0≤f.2.2∧f.2.2<b.2.1∧fits (List.getD b.2.2 (placeOf b f).toNat (0,0)) f.1=true:=by
 obtain ⟨g1,g2,g3,g4,g5,g6⟩:=ZY hb
 have h':f∈possFrom b.2.1 ((0:Nat):Int) b.2.2:=h
 obtain ⟨j,h1,h2,h3,h4,h5⟩:=ZSn h'
 obtain ⟨d1,d2,d3,d4⟩:=ZWc (i:=(j:Int)) (C:=b.2.1) (by omega) g3
 have hp:placeOf b f=j:=by unfold placeOf;rw[h3,h4];exact d1
 refine ⟨by rw[h3];exact d4,?_,by rw[h4];exact d2,by rw[h4];exact d3,?_⟩
 ·rw [h3]
  by_cases hh:Int.tdiv (j:Int) b.2.1<b.1
  ·exact hh
  ·have := Int.mul_le_mul_of_nonneg_right (show b.1 ≤ Int.tdiv (j : Int) b.2.1 by omega) (show 0 ≤ b.2.1 by omega)
   omega
 ·rw [hp]
  simpa using h5
theorem Zsz{b:BoardD}(hb:boardOK b=true){f:FaultD}(h:f∈possFrom b.2.1 0 b.2.2):faultsOK b (-1) [f]=true:=by
 obtain ⟨h1,h2,h3,h4,h5⟩:=ZU9 hb h
 have hp:=Z78 hb h1 h2 h3 h4
 unfold placeOf at h5
 have h6:0≤f.2.1∧f.2.1<b.1∧0≤f.2.2∧f.2.2<b.2.1∧ -1<f.2.1*b.2.1+f.2.2:=⟨h1,h2,h3,h4,by omega⟩
 simp only[faultsOK,h5,h6,and_self,decide_true,Bool.and_self]
theorem Zro{b:BoardD}(hb:boardOK b=true):(possFrom b.2.1 0 b.2.2).length≤270:=by
 obtain ⟨g1,g2,g3,g4,g5,g6⟩:=ZY hb
 have hpp:=ZU g1 g2 g3 g4
 have:=ZEj b.2.1 b.2.2 0
 omega
end
section
def singlesOf(b:BoardD)(t:List Int)(s:List FallD):List FaultD:=(possFrom b.2.1 0 b.2.2).filter fun f=>decide (endsOf b [f] t=s)
theorem Zqy(b:BoardD)(hb:boardOK b=true)(t:List Int)(ht:t.length≤1000)(hc:colsOK b t)(s:List FallD)(hs:s.length=t.length): ∀(r pre acc:List FaultD),(∀f∈r,faultsOK b (-1) [f]=true)→(pre++r).length≤1000→acc.length≤pre.length→Ev (fun k=>Z5x k b.1 b.2.1 b.2.2 acc (pre++r) t s ((pre++r).length:Int) (pre.length:Int)) (acc++r.filter (fun f=>decide (endsOf b [f] t=s)))
 | [], pre, acc, hf, hl, ha => by
  refine Ev.succ ?_
  simp only[Z5x,Zn,decide_false,Bool.false_eq_true,if_false]
  exact Ev.of (by simp)
 |f::r,pre,acc,hf,hl,ha=>by
  have ih:=fun acc' ha'=>Zqy b hb t ht hc s hs r (pre++[f]) acc' (fun g hg=>hf g (List.mem_cons_of_mem _ hg)) (by simpa using hl) ha'
  simp only[←Ze]at ih
  have hal:acc.length+1≤140737488355328/24:=by simp at hl;omega
  have h1:=ZIC b hb [f] (hf f (List.mem_cons_self ..)) (by simp) t ht hc s hs
  refine Ev.succ ?_
  simp only[Z5x,Zl,Zu,decide_true,if_true,Int.toNat_natCast,Zg,List.length_singleton,hal]
  rw[Zk pre f r (by omega)]
  refine Ev.bind h1 (Ev.ite (fun h=> ?_) (fun h=> ?_))
  ·have h : (fun f => decide (endsOf b [f] t = s)) f = true := h
   refine (ih (acc++[f]) (by simp;omega)).congr ?_
   simp only[List.filter_cons,h,if_true,List.append_assoc,List.singleton_append]
  ·have h : ¬ (fun f => decide (endsOf b [f] t = s)) f = true := h
   refine (ih acc (by simp;omega)).congr ?_
   exact congrArg (acc++ ·) (List.filter_cons_of_neg (p:=(fun f=>decide (endsOf b [f] t=s))) h).symm
theorem ZMm(b:BoardD)(hb:boardOK b=true)(t:List Int)(ht:t.length≤1000)(hc:colsOK b t)(s:List FallD)(hs:s.length=t.length):Ev (fun k=>Zhf k b t s) (singlesOf b t s):=by
 have hn:=Zro hb
 refine Ev.succ ?_
 simp only[Zhf]
 exact Ev.bind (ZqG b hb) (Ev.bind (Zqy b hb t ht hc s hs (possFrom b.2.1 0 b.2.2) [] [] (fun f hf=>Zsz hb hf) (by simp;omega) (by simp)) (Ev.some _))
theorem Zlm(b:BoardD)(hb:boardOK b=true)(t:List Int)(ht:t.length≤1000)(hc:colsOK b t)(s:List FallD)(hs:s.length=t.length): ∀(r pre acc:List FaultD),(∀f∈r,faultsOK b (-1) [f]=true)→(pre++r).length≤1000→acc.length≤pre.length→Ev (fun k=>Z3s k b.1 b.2.1 b.2.2 acc (pre++r) t s ((pre++r).length:Int) (pre.length:Int)) (acc++r.filter (fun f=>decide (endsOf b [f] t=s)))
 | [], pre, acc, hf, hl, ha => by
  refine Ev.succ ?_
  simp only[Z3s,Zn,decide_false,Bool.false_eq_true,if_false]
  exact Ev.of (by simp)
 |f::r,pre,acc,hf,hl,ha=>by
  have ih:=fun acc' ha'=>Zlm b hb t ht hc s hs r (pre++[f]) acc' (fun g hg=>hf g (List.mem_cons_of_mem _ hg)) (by simpa using hl) ha'
  simp only[←Ze]at ih
  have hal:acc.length+1≤140737488355328/24:=by simp at hl;omega
  have h1:=ZnI b hb [f] (hf f (List.mem_cons_self ..)) (by simp) t ht hc s
  refine Ev.succ ?_
  simp only[Z3s,Zl,Zu,decide_true,if_true,Int.toNat_natCast,Zg,List.length_singleton,hal]
  rw[Zk pre f r (by omega)]
  refine Ev.bind h1 (Ev.ite (fun h=> ?_) (fun h=> ?_))
  ·have h : (fun f => decide (endsOf b [f] t = s)) f = true := h
   refine (ih (acc++[f]) (by simp;omega)).congr ?_
   simp only[List.filter_cons,h,if_true,List.append_assoc,List.singleton_append]
  ·have h : ¬ (fun f => decide (endsOf b [f] t = s)) f = true := h
   refine (ih acc (by simp;omega)).congr ?_
   exact congrArg (acc++ ·) (List.filter_cons_of_neg (p:=(fun f=>decide (endsOf b [f] t=s))) h).symm
theorem ZDd(b:BoardD)(hb:boardOK b=true)(t:List Int)(ht:t.length≤1000)(hc:colsOK b t)(s:List FallD)(hs:s.length=t.length):Ev (fun k=>ZcI k b t s) (singlesOf b t s):=by
 have hn:=Zro hb
 refine Ev.succ ?_
 simp only[ZcI]
 exact Ev.bind (Zzz b hb) (Ev.bind (Zlm b hb t ht hc s hs (possFrom b.2.1 0 b.2.2) [] [] (fun f hf=>Zsz hb hf) (by simp;omega) (by simp)) (Ev.some _))
end
section
def Z5j(b:BoardD)(t:List Int)(s:List FallD):List FaultD×Bool:=if seenOK b t s then (singlesOf b t s,true) else ([],false)
theorem ZCQ(b:BoardD)(t:List Int)(s:List FallD)(h0:b.2.2.length≤9223372036854775806)(h2:t.length≤9223372036854775806)(h3:s.length≤9223372036854775806):Ev (fun k=>ZcD k b t s) (Z5j b t s):=by
 refine Ev.succ ?_
 simp only[ZcD]
 unfold Z5j
 refine Ev.bind (a:=seenOK b t s) (ZQf b t s h0 h2 h3) ?_
 cases g0:seenOK b t s with
 |false=>simp only[Bool.not_false,if_true,Bool.false_eq_true,if_false,Bool.false_and,Bool.and_false];exact Ev.some _
 |true=>
  simp only[Bool.not_true,Bool.false_eq_true,if_false,if_true,Bool.and_self]
  obtain ⟨hb,h24,ht,hc,hs⟩:=ZxB g0
  exact Ev.bind (ZMm b hb t (by omega) hc s hs) (Ev.some _)
theorem ZCS(b:BoardD)(t:List Int)(s:List FallD)(h0:b.2.2.length≤9223372036854775806)(h2:t.length≤9223372036854775806)(h3:s.length≤9223372036854775806):Ev (fun k=>ZcE k b t s) (Z5j b t s):=by
 refine Ev.succ ?_
 simp only[ZcE]
 unfold Z5j
 refine Ev.bind (a:=seenOK b t s) (ZC0 b t s h0 h2 h3) ?_
 cases g0:seenOK b t s with
 |false=>simp only[Bool.not_false,if_true,Bool.false_eq_true,if_false,Bool.false_and,Bool.and_false];exact Ev.some _
 |true=>
  simp only[Bool.not_true,Bool.false_eq_true,if_false,if_true,Bool.and_self]
  obtain ⟨hb,h24,ht,hc,hs⟩:=ZxB g0
  exact Ev.bind (ZDd b hb t (by omega) hc s hs) (Ev.some _)
theorem ZTn{b:BoardD}(hb:boardOK b=true)(t:List Int)(s:List FallD):(singlesOf b t s).length≤270:=
 Nat.le_trans (List.length_filter_le _ _) (Zro hb)
theorem ZFa(b:BoardD)(t:List Int)(s:List FallD):(Z5j b t s).1.length≤270:=by
 unfold Z5j
 split
 ·rename_i h
  exact ZTn (ZxB h).1 _ _
 ·simp
end
section
def faultsB(b:BoardD)(l:List FaultD):Bool:=decide (l.length≤4)&&faultsOK b (-1) l
theorem ZzM{b:BoardD}{l:List FaultD}(h:faultsB b l=true):l.length≤4∧faultsOK b (-1) l=true:=by
 unfold faultsB at h
 simp only[Bool.and_eq_true,decide_eq_true_eq]at h
 exact h
def ZaY(b:BoardD)(l:List FaultD)(t:List Int):List FallD×BoardD×Bool:=if entriesOK b t&&faultsB b l then (endsOf b l t,(b.1,b.2.1,leftOf b l t),true) else ([],(0,0,[]),false)
theorem ZFf(b:BoardD)(l:List FaultD)(t:List Int)(h0:b.2.2.length≤9223372036854775806)(h1:l.length≤9223372036854775806)(h2:t.length≤9223372036854775806):Ev (fun k=>ZdS k b l t) (ZaY b l t):=by
 refine Ev.succ ?_
 simp only[ZdS]
 unfold ZaY
 refine Ev.bind (a:=entriesOK b t) (ZnM b t h0 h2) ?_
 cases g0:entriesOK b t with
 |false=>simp only[Bool.not_false,if_true,Bool.false_eq_true,if_false,Bool.false_and,Bool.and_false];exact Ev.some _
 |true=>
  simp only[Bool.not_true,Bool.false_eq_true,if_false,if_true,Bool.and_self]
  obtain ⟨hb,ht,hc⟩:=ZU6 g0
  refine Ev.bind (a:=faultsB b l) (ZsA b hb l h1) ?_
  cases g1:faultsB b l with
  |false=>simp only[Bool.not_false,if_true,Bool.false_eq_true,if_false,Bool.false_and,Bool.and_false];exact Ev.some _
  |true=>
   simp only[Bool.not_true,Bool.false_eq_true,if_false,if_true,Bool.and_self]
   obtain ⟨hl4,hl⟩:=ZzM g1
   exact Ev.bind (Zpp b hb l hl h1 t (by omega) hc) (Ev.some _)
def ZeU(b:BoardD)(l:List FaultD)(t:List Int)(s:List FallD):Bool×Bool:=if seenOK b t s&&faultsB b l then (decide (endsOf b l t=s),true) else (false,false)
theorem ZCH(b:BoardD)(l:List FaultD)(t:List Int)(s:List FallD)(h0:b.2.2.length≤9223372036854775806)(h1:l.length≤9223372036854775806)(h2:t.length≤9223372036854775806)(h3:s.length≤9223372036854775806):Ev (fun k=>ZcJ k b l t s) (ZeU b l t s):=by
 refine Ev.succ ?_
 simp only[ZcJ]
 unfold ZeU
 refine Ev.bind (a:=seenOK b t s) (ZC0 b t s h0 h2 h3) ?_
 cases g0:seenOK b t s with
 |false=>simp only[Bool.not_false,if_true,Bool.false_eq_true,if_false,Bool.false_and,Bool.and_false];exact Ev.some _
 |true=>
  simp only[Bool.not_true,Bool.false_eq_true,if_false,if_true,Bool.and_self]
  obtain ⟨hb,h24,ht,hc,hs⟩:=ZxB g0
  refine Ev.bind (a:=faultsB b l) (ZsA b hb l h1) ?_
  cases g1:faultsB b l with
  |false=>simp only[Bool.not_false,if_true,Bool.false_eq_true,if_false,Bool.false_and,Bool.and_false];exact Ev.some _
  |true=>
   simp only[Bool.not_true,Bool.false_eq_true,if_false,if_true,Bool.and_self]
   obtain ⟨hl4,hl⟩:=ZzM g1
   exact Ev.bind (ZnI b hb l hl h1 t (by omega) hc s) (Ev.some _)
end
section
theorem Zxv: ∀(r s pre q:List Int),r.length=s.length→pre.length=q.length→(pre++r).length≤1000000→Ev (fun k=>Zc5 k (pre++r) (q++s) ((pre++r).length:Int) (pre.length:Int)) (if r=s then LR.go () else LR.ret false)
 | [], s, pre, q, h, hq, hl => by
  obtain rfl:s=[]:=List.eq_nil_of_length_eq_zero h.symm
  refine Ev.succ ?_
  simp only[Zc5,Zn,decide_false,Bool.false_eq_true,if_false,if_true]
  exact Ev.some _
 |x::r,[],pre,q,h,hq,hl=>by simp at h
 |x::r,y::s,pre,q,h,hq,hl=>by
  have ih:=Zxv r s (pre++[x]) (q++[y]) (by simpa using h) (by simpa using hq) (by simpa using hl)
  have l2:(pre.length:Int)<((q++y::s).length:Int):=by rw[hq];exact Zl _ _ _
  have g2:List.getD (q++y::s) pre.length 0=y:=by rw[hq];exact Zg _ _ _ _
  refine Ev.succ ?_
  simp only[Zc5,Zl,Zu,l2,decide_true,if_true,Int.toNat_natCast,Zg,g2]
  rw[Zk pre x r (by omega)]
  rw[←Ze,←Ze]at ih
  refine Ev.ite (fun hh=> ?_) (fun hh=> ?_)
  ·simp only [decide_eq_true_eq] at hh
   rw[if_neg (fun he=>hh (List.cons.inj he).1)]
   exact Ev.some _
  ·simp only [decide_eq_true_eq, Decidable.not_not] at hh
   refine ih.congr ?_
   simp[hh]
theorem ZEa(a c:List Int)(ha:a.length≤1000000):Ev (fun k=>Zie k a c) (decide (a=c)):=by
 refine Ev.succ ?_
 simp only[Zie]
 refine Ev.ite (fun h=> ?_) (fun h=> ?_)
 ·simp only [decide_eq_true_eq] at h
  rw[decide_eq_false (fun he=>h (by rw[he]))]
  exact Ev.some _
 ·simp only [decide_eq_true_eq, Decidable.not_not] at h
  refine Ev.bind (Zxv a c [] [] (by omega) rfl (by simpa using ha)) ?_
  by_cases he:a=c
  ·rw[if_pos he,decide_eq_true he];exact Ev.go (Ev.some _)
  ·rw[if_neg he,decide_eq_false he];exact Ev.ret (Ev.some _)
theorem Zvs: ∀(r s pre q:List FallD),r.length=s.length→pre.length=q.length→(pre++r).length≤1000000→Ev (fun k=>ZaE k (pre++r) (q++s) ((pre++r).length:Int) (pre.length:Int)) (if r=s then LR.go () else LR.ret false)
 | [], s, pre, q, h, hq, hl => by
  obtain rfl:s=[]:=List.eq_nil_of_length_eq_zero h.symm
  refine Ev.succ ?_
  simp only[ZaE,Zn,decide_false,Bool.false_eq_true,if_false,if_true]
  exact Ev.some _
 |x::r,[],pre,q,h,hq,hl=>by simp at h
 |x::r,y::s,pre,q,h,hq,hl=>by
  have ih:=Zvs r s (pre++[x]) (q++[y]) (by simpa using h) (by simpa using hq) (by simpa using hl)
  have l2:(pre.length:Int)<((q++y::s).length:Int):=by rw[hq];exact Zl _ _ _
  have g2:List.getD (q++y::s) pre.length (0,0,0)=y:=by rw[hq];exact Zg _ _ _ _
  refine Ev.succ ?_
  simp only[ZaE,Zl,Zu,l2,decide_true,if_true,Int.toNat_natCast,Zg,g2]
  rw[Zk pre x r (by omega)]
  rw[←Ze,←Ze]at ih
  have e:(decide (x.1=y.1)&&(decide (x.2.1=y.2.1)&&(decide (x.2.2=y.2.2)&&true)))=decide (x=y):=by
   rw[Bool.eq_iff_iff]
   simp[Prod.ext_iff]
  rw[e]
  by_cases hh:x=y
  ·simp only [hh, decide_true, Bool.not_true, Bool.false_eq_true, if_false]
   rw[hh]at ih
   refine ih.congr ?_
   simp
  ·simp only [hh, decide_false, Bool.not_false, if_true]
   rw[if_neg (fun he=>hh (List.cons.inj he).1)]
   exact Ev.some _
theorem ZQU(a c:List FallD)(ha:a.length≤1000000):Ev (fun k=>ZkE k a c) (decide (a=c)):=by
 refine Ev.succ ?_
 simp only[ZkE]
 refine Ev.ite (fun h=> ?_) (fun h=> ?_)
 ·simp only [decide_eq_true_eq] at h
  rw[decide_eq_false (fun he=>h (by rw[he]))]
  exact Ev.some _
 ·simp only [decide_eq_true_eq, Decidable.not_not] at h
  refine Ev.bind (Zvs a c [] [] (by omega) rfl (by simpa using ha)) ?_
  by_cases he:a=c
  ·rw[if_pos he,decide_eq_true he];exact Ev.go (Ev.some _)
  ·rw[if_neg he,decide_eq_false he];exact Ev.ret (Ev.some _)
end
section
theorem ZrV: ∀(r s pre q:List FaultD),r.length=s.length→pre.length=q.length→(pre++r).length≤1000000→Ev (fun k=>Z9d k (pre++r) (q++s) ((pre++r).length:Int) (pre.length:Int)) (if r=s then LR.go () else LR.ret false)
 | [], s, pre, q, h, hq, hl => by
  obtain rfl:s=[]:=List.eq_nil_of_length_eq_zero h.symm
  refine Ev.succ ?_
  simp only[Z9d,Zn,decide_false,Bool.false_eq_true,if_false,if_true]
  exact Ev.some _
 |x::r,[],pre,q,h,hq,hl=>by simp at h
 |x::r,y::s,pre,q,h,hq,hl=>by
  have ih:=ZrV r s (pre++[x]) (q++[y]) (by simpa using h) (by simpa using hq) (by simpa using hl)
  have l2:(pre.length:Int)<((q++y::s).length:Int):=by rw[hq];exact Zl _ _ _
  have g2:List.getD (q++y::s) pre.length (0,0,0)=y:=by rw[hq];exact Zg _ _ _ _
  refine Ev.succ ?_
  simp only[Z9d,Zl,Zu,l2,decide_true,if_true,Int.toNat_natCast,Zg,g2]
  rw[Zk pre x r (by omega)]
  rw[←Ze,←Ze]at ih
  have e:(decide (x.1=y.1)&&(decide (x.2.1=y.2.1)&&(decide (x.2.2=y.2.2)&&true)))=decide (x=y):=by
   rw[Bool.eq_iff_iff]
   simp[Prod.ext_iff]
  rw[e]
  by_cases hh:x=y
  ·simp only [hh, decide_true, Bool.not_true, Bool.false_eq_true, if_false]
   rw[hh]at ih
   refine ih.congr ?_
   simp
  ·simp only [hh, decide_false, Bool.not_false, if_true]
   rw[if_neg (fun he=>hh (List.cons.inj he).1)]
   exact Ev.some _
theorem ZOj(a c:List FaultD)(ha:a.length≤1000000):Ev (fun k=>ZiK k a c) (decide (a=c)):=by
 refine Ev.succ ?_
 simp only[ZiK]
 refine Ev.ite (fun h=> ?_) (fun h=> ?_)
 ·simp only [decide_eq_true_eq] at h
  rw[decide_eq_false (fun he=>h (by rw[he]))]
  exact Ev.some _
 ·simp only [decide_eq_true_eq, Decidable.not_not] at h
  refine Ev.bind (ZrV a c [] [] (by omega) rfl (by simpa using ha)) ?_
  by_cases he:a=c
  ·rw[if_pos he,decide_eq_true he];exact Ev.go (Ev.some _)
  ·rw[if_neg he,decide_eq_false he];exact Ev.ret (Ev.some _)
theorem ZUo{b:BoardD}{t:List Int}{s:List FallD}{f:FaultD}(hf:f∈(Z5j b t s).1):ZeU b [f] t s=(true,true)∧(ZaY b [f] t).1=s∧(ZaY b [f] t).2.2=true:=by
 unfold Z5j at hf
 split at hf
 ·rename_i hok
  obtain ⟨hb,h24,h20,hc,_⟩:=ZxB hok
  unfold singlesOf at hf
  obtain ⟨h1,h2⟩:=List.mem_filter.1 hf
  have h2:=of_decide_eq_true h2
  have h3:faultsB b [f]=true:=by
   unfold faultsB
   rw[Zsz hb h1]
   simp
  have h4:entriesOK b t=true:=by
   unfold entriesOK
   rw[hb,decide_eq_true (show t.length≤60 by omega)]
   simp only[Bool.and_self,Bool.true_and,List.all_eq_true,decide_eq_true_eq]
   exact hc
  unfold ZeU ZaY
  rw[hok,h3,h4,h2]
  simp
 ·simp at hf
end
section
abbrev ChD:=Int×Int×List (Int×Int)×List Int×List Int
theorem ZSq{α:Type}(pre r:List α):List.take (Int.toNat (pre.length:Int)-Int.toNat 0) (List.drop (Int.toNat 0) (pre++r))=pre:=by simp
theorem ZBA(x:CellD): ∀(r pre:List CellD),(pre++r).length≤1000000→ ∃v,Ev (fun k=>Zw k x.1 x.2 (pre++r) ((pre++r).length:Int) (pre.length:Int)) v∧((x∈r∧ ∃m:Nat,v=LR.ret (m:Int))∨(x∉r∧v=LR.go ()))
 | [], pre, hl => ⟨LR.go (), by
  refine Ev.succ ?_
  simp only[Zw,Zn,decide_false,Bool.false_eq_true,if_false]
  exact Ev.some _,.inr ⟨by simp,rfl⟩⟩
 |y::r,pre,hl=>by
  obtain ⟨v,hv,hc⟩:=ZBA x r (pre++[y]) (by simpa using hl)
  have e:(decide (x.1=y.1)&&(decide (x.2=y.2)&&true))=decide (x=y):=by
   rw[Bool.eq_iff_iff]
   simp[Prod.ext_iff]
  by_cases hxy : x = y
  ·refine ⟨LR.ret (pre.length : Int), ?_, .inl ⟨by simp [hxy], _, rfl⟩⟩
   refine Ev.succ ?_
   simp only[Zw,Zl,Zu,decide_true,if_true,Int.toNat_natCast,Zg]
   rw[e,decide_eq_true hxy]
   simp only[if_true]
   exact Ev.some _
  ·refine ⟨v, ?_, ?_⟩
   ·refine Ev.succ ?_
    simp only[Zw,Zl,Zu,decide_true,if_true,Int.toNat_natCast,Zg]
    rw[e,decide_eq_false hxy,Zk pre y r (by omega)]
    rw[←Ze]at hv
    simp only[Bool.false_eq_true,if_false]
    exact hv
   ·rcases hc with ⟨h1, h2⟩ | ⟨h1, h2⟩
    ·exact .inl ⟨List.mem_cons_of_mem _ h1,h2⟩
    ·exact .inr ⟨by simp[hxy,h1],h2⟩
theorem ZyC(l:List CellD)(x:CellD)(hl:l.length≤1000000):Ev (fun k=>Z1m k l x) (decide (x∈l)):=by
 obtain ⟨v,hv,hc⟩:=ZBA x l [] (by simpa using hl)
 simp only[List.nil_append,List.length_nil,Int.natCast_zero]at hv
 refine Ev.succ ?_
 simp only[Z1m]
 rcases hc with ⟨h1,m,rfl⟩|⟨h1,rfl⟩
 ·have e1 : Ev (fun k => Z12 k l x) (m : Int) := by
   refine Ev.succ ?_
   simp only[Z12]
   exact Ev.bind hv (Ev.ret (Ev.some _))
  refine Ev.bind e1 ((Ev.some _).congr ?_)
  rw[decide_eq_true h1]
  exact decide_eq_true (by omega)
 ·have e1 : Ev (fun k => Z12 k l x) (-1) := by
   refine Ev.succ ?_
   simp only[Z12]
   exact Ev.bind hv (Ev.go (Ev.some _))
  refine Ev.bind e1 ((Ev.some _).congr ?_)
  rw[decide_eq_false h1]
  exact decide_eq_false (by omega)
def partsOK:List CellD→List CellD→Bool
 |_,[]=>true
 |pre,x::r=>cellOK x&&(!decide (x.1=0)&&(!decide (x∈pre)&&partsOK (pre++[x]) r))
def triedOf(c:ChD):Int:=((c.2.2.1.length:Int)+1)^(c.1*c.2.1).toNat
def sizesOK(c:ChD):Bool:=decide (1≤c.1∧c.1≤4∧1≤c.2.1∧c.2.1≤4∧1≤c.2.2.1.length∧c.2.2.1.length≤6∧1≤c.2.2.2.1.length∧c.2.2.2.1.length≤8∧c.2.2.2.2.length=c.2.2.2.1.length)
def challOK(c:ChD):Bool:=sizesOK c&&(partsOK [] c.2.2.1&&((c.2.2.2.1.all fun e=>decide (0≤e∧e≤c.2.1-1))&&((c.2.2.2.2.all fun e=>decide (0≤e∧e≤c.2.1+1))&&decide (triedOf c≤7000))))
theorem ZmU(c:ChD): ∀(r pre:List CellD),c.2.2.1=pre++r→(pre++r).length≤1000000→
  Ev (fun k=>Z5b k c.1 c.2.1 c.2.2.1 c.2.2.2.1 c.2.2.2.2 (pre++r) ((pre++r).length:Int) (pre.length:Int)) (if partsOK pre r=true then LR.go c else LR.ret false)
 | [], pre, hc, hl => by
  refine Ev.succ ?_
  simp only[Z5b,Zn,decide_false,Bool.false_eq_true,if_false,partsOK,if_true]
  exact Ev.some _
 |x::r,pre,hc,hl=>by
  have ih:=ZmU c r (pre++[x]) (by rw[hc];simp) (by simpa using hl)
  have hle:(pre.length:Int)≤(c.2.2.1.length:Int):=by rw[hc];simp;omega
  have htk:List.take (Int.toNat (pre.length:Int)-Int.toNat 0) (List.drop (Int.toNat 0) c.2.2.1)=pre:=by rw[hc];exact ZSq _ _
  refine Ev.succ ?_
  simp only[Z5b,Zl,Zu,hle,decide_true,if_true,Int.toNat_natCast,Zg,partsOK]
  refine Ev.bind (ZkB x) ?_
  by_cases h1 : cellOK x = false
  ·simp only [h1, Bool.not_false, if_true, Bool.false_and, Bool.false_eq_true, if_false]; exact Ev.some _
  ·have h1 : cellOK x = true := by simpa using h1
   simp only[h1,Bool.not_true,Bool.false_eq_true,if_false,Bool.true_and]
   by_cases h2 : x.1 = 0
   ·simp only [h2, decide_true, if_true, Bool.not_true, Bool.false_and, Bool.false_eq_true, if_false]; exact Ev.some _
   ·simp only [h2, decide_false, Bool.false_eq_true, if_false, Bool.not_false, Bool.true_and]
    simp only[Int.toNat_natCast]at htk
    rw[htk]
    refine Ev.bind (ZyC pre x (by simp at hl;omega)) ?_
    by_cases h3:x∈pre
    ·simp only [h3, decide_true, if_true, Bool.not_true, Bool.false_and, Bool.false_eq_true, if_false]; exact Ev.some _
    ·simp only [h3, decide_false, Bool.false_eq_true, if_false, Bool.not_false, Bool.true_and]
     rw[Zk pre x r (by omega)]
     rw[←Ze]at ih
     exact ih
theorem ZvI(c:ChD)(x:CellD)(v8:List CellD)(v9 v10:Int): ∀(r pre:List CellD),(pre++r).length≤1000000→
  Ev (fun k=>Zar k c.1 c.2.1 c.2.2.1 c.2.2.2.1 c.2.2.2.2 x.1 x.2 v8 v9 v10 (pre++r) ((pre++r).length:Int) (pre.length:Int)) (if decide (x∈r)=true then LR.ret false else LR.go (c.1,c.2.1,c.2.2.1,c.2.2.2.1,c.2.2.2.2,v8,v9,v10))
 | [], pre, hl => by
  refine Ev.succ ?_
  simp only[Zar,Zn,decide_false,Bool.false_eq_true,if_false,List.not_mem_nil]
  exact Ev.some _
 |y::r,pre,hl=>by
  have ih:=ZvI c x v8 v9 v10 r (pre++[y]) (by simpa using hl)
  have e:(decide (x.1=y.1)&&(decide (x.2=y.2)&&true))=decide (x=y):=by
   rw[Bool.eq_iff_iff]
   simp[Prod.ext_iff]
  refine Ev.succ ?_
  simp only[Zar,Zl,Zu,decide_true,if_true,Int.toNat_natCast,Zg]
  rw[e]
  by_cases hxy:x=y
  ·simp only [hxy, decide_true, if_true, List.mem_cons, true_or]; exact Ev.some _
  ·rw [Zk pre y r (by omega)]
   rw[←Ze]at ih
   simp only[hxy,decide_false,Bool.false_eq_true,if_false,List.mem_cons,false_or]
   exact ih
theorem Zvb(c:ChD): ∀(r pre:List CellD),c.2.2.1=pre++r→(pre++r).length≤1000000→
  Ev (fun k=>ZaA k c.1 c.2.1 c.2.2.1 c.2.2.2.1 c.2.2.2.2 (pre++r) ((pre++r).length:Int) (pre.length:Int)) (if partsOK pre r=true then LR.go c else LR.ret false)
 | [], pre, hc, hl => by
  refine Ev.succ ?_
  simp only[ZaA,Zn,decide_false,Bool.false_eq_true,if_false,partsOK,if_true]
  exact Ev.some _
 |x::r,pre,hc,hl=>by
  have ih:=Zvb c r (pre++[x]) (by rw[hc];simp) (by simpa using hl)
  have hle:(pre.length:Int)≤(c.2.2.1.length:Int):=by rw[hc];simp;omega
  have htk:List.take (Int.toNat (pre.length:Int)-Int.toNat 0) (List.drop (Int.toNat 0) c.2.2.1)=pre:=by rw[hc];exact ZSq _ _
  have e2:=ZvI c x (pre++x::r) ((pre++x::r).length:Int) (pre.length:Int) pre [] (by simp at hl⊢;omega)
  simp only[List.nil_append,List.length_nil,Int.natCast_zero]at e2
  refine Ev.succ ?_
  simp only[ZaA,Zl,Zu,hle,decide_true,if_true,Int.toNat_natCast,Zg,partsOK]
  refine Ev.bind (ZCf x) ?_
  by_cases h1 : cellOK x = false
  ·simp only [h1, Bool.not_false, if_true, Bool.false_and, Bool.false_eq_true, if_false]; exact Ev.some _
  ·have h1 : cellOK x = true := by simpa using h1
   simp only[h1,Bool.not_true,Bool.false_eq_true,if_false,Bool.true_and]
   by_cases h2 : x.1 = 0
   ·simp only [h2, decide_true, if_true, Bool.not_true, Bool.false_and, Bool.false_eq_true, if_false]; exact Ev.some _
   ·simp only [h2, decide_false, Bool.false_eq_true, if_false, Bool.not_false, Bool.true_and]
    simp only[Int.toNat_natCast]at htk
    rw[htk]
    refine Ev.bind e2 ?_
    by_cases h3:x∈pre
    ·simp only [h3, decide_true, if_true, Bool.not_true, Bool.false_and, Bool.false_eq_true, if_false]
     exact Ev.ret (Ev.some _)
    ·simp only [h3, decide_false, Bool.false_eq_true, if_false, Bool.not_false, Bool.true_and]
     refine Ev.go ?_
     simp only[]
     rw[Zk pre x r (by omega)]
     rw[←Ze]at ih
     exact ih
end
section
def endsB(C:Int):List Int→List Int→Bool
 |x::r,y::s=>(decide (0≤x∧x≤C-1)&&decide (0≤y∧y≤C+1))&&endsB C r s
 |_,_=>true
theorem ZPe(C:Int): ∀(r s:List Int),s.length=r.length→endsB C r s=((r.all fun e=>decide (0≤e∧e≤C-1))&&(s.all fun e=>decide (0≤e∧e≤C+1)))
 |[],[],_=>rfl
 |[],_::_,h=>by simp at h
 |_::_,[],h=>by simp at h
 |x::r,y::s,h=>by
  have ih:=ZPe C r s (by simpa using h)
  simp only[endsB,List.all_cons,ih]
  cases decide (0≤x∧x≤C-1)<;>cases decide (0≤y∧y≤C+1)<;>simp
theorem Zma(c:ChD)(hC:1≤c.2.1∧c.2.1≤4): ∀(r pre s q:List Int),c.2.2.2.2=q++s→s.length=r.length→q.length=pre.length→(pre++r).length≤1000000→
  Ev (fun k=>Z55 k c.1 c.2.1 c.2.2.1 c.2.2.2.1 c.2.2.2.2 (pre++r) ((pre++r).length:Int) (pre.length:Int)) (if endsB c.2.1 r s=true then LR.go c else LR.ret false)
 | [], pre, s, q, hs, h1, h2, hl => by
  refine Ev.succ ?_
  simp only[Z55,Zn,decide_false,Bool.false_eq_true,if_false,endsB,if_true]
  exact Ev.some _
 |x::r,pre,[],q,hs,h1,h2,hl=>by simp at h1
 |x::r,pre,y::s,q,hs,h1,h2,hl=>by
  have ih:=Zma c hC r (pre++[x]) s (q++[y]) (by rw[hs];simp) (by simpa using h1) (by simpa using h2) (by simpa using hl)
  have hlt:(pre.length:Int)<(c.2.2.2.2.length:Int):=by rw[hs,←h2];exact Zl _ _ _
  have hgd:List.getD c.2.2.2.2 pre.length 0=y:=by rw[hs,←h2];exact Zg _ _ _ _
  refine Ev.succ ?_
  simp only[Z55,Zl,Zu,hlt,decide_true,if_true,Int.toNat_natCast,Zg,hgd,endsB]
  rw[w64 (n:=c.2.1+1) (by omega) (by omega)]
  by_cases a1:x<0
  ·have e1 : decide (0 ≤ x ∧ x ≤ c.2.1 - 1) = false := decide_eq_false (by omega)
   simp only[e1,a1,decide_true,if_true,Bool.false_and,Bool.false_eq_true,if_false];exact Ev.some _
  by_cases a2:x≥c.2.1
  ·have e1 : decide (0 ≤ x ∧ x ≤ c.2.1 - 1) = false := decide_eq_false (by omega)
   simp only[e1,a1,a2,decide_true,decide_false,if_true,Bool.false_and,Bool.false_eq_true,if_false];exact Ev.some _
  have e1:decide (0≤x∧x≤c.2.1-1)=true:=decide_eq_true (by omega)
  by_cases a3:y<0
  ·have e2 : decide (0 ≤ y ∧ y ≤ c.2.1 + 1) = false := decide_eq_false (by omega)
   simp only[e1,e2,a1,a2,a3,decide_true,decide_false,if_true,Bool.false_and,Bool.and_false,Bool.false_eq_true,if_false];exact Ev.some _
  by_cases a4:y>c.2.1+1
  ·have e2 : decide (0 ≤ y ∧ y ≤ c.2.1 + 1) = false := decide_eq_false (by omega)
   simp only[e1,e2,a1,a2,a3,a4,decide_true,decide_false,if_true,Bool.false_and,Bool.and_false,Bool.false_eq_true,if_false];exact Ev.some _
  have e2:decide (0≤y∧y≤c.2.1+1)=true:=decide_eq_true (by omega)
  simp only[e1,e2,a1,a2,a3,a4,decide_true,decide_false,Bool.true_and,Bool.and_self,Bool.false_eq_true,if_false]
  rw[Zk pre x r (by omega)]
  rw[←Ze]at ih
  exact ih
theorem ZEz{p:Int}(hp:1≤p): ∀(n:Nat),1≤p^n
 |0=>by simp
 |n+1=>by
  have:=ZEz hp n
  rw[Int.pow_succ]
  have:=Int.mul_le_mul this hp (by omega) (by omega)
  omega
theorem Zyc{m q:Int}(hm:0≤m)(hq:1≤q):m≤m*q:=by
 have:=Int.mul_le_mul_of_nonneg_left hq hm
 simpa using this
theorem ZmB(c:ChD)(hR:1≤c.1∧c.1≤4)(hC:1≤c.2.1∧c.2.1≤4)(hP:c.2.2.1.length≤6): ∀(n:Nat) (v7 v8:Int),v8+n=c.1*c.2.1→0≤v8→1≤v7→v7≤7000→
  Ev (fun k=>Z57 k c.1 c.2.1 c.2.2.1 c.2.2.2.1 c.2.2.2.2 v7 v8) (if decide (v7*((c.2.2.1.length:Int)+1)^n≤7000)=true then LR.go () else LR.ret false)
 |0,v7,v8,hn,h8,h7,h70=>by
  have hm:c.1*c.2.1≤4*4:=Int.mul_le_mul hR.2 hC.2 (by omega) (by omega)
  refine Ev.succ ?_
  simp only[Z57]
  rw[w64 (n:=c.1*c.2.1) (by omega) (by omega),decide_eq_false (p:=v8<c.1*c.2.1) (by omega)]
  rw[Int.pow_zero,Int.mul_one,decide_eq_true h70]
  simp only[Bool.false_eq_true,if_false,if_true]
  exact Ev.some _
 |n+1,v7,v8,hn,h8,h7,h70=>by
  have hm:c.1*c.2.1≤4*4:=Int.mul_le_mul hR.2 hC.2 (by omega) (by omega)
  have hp1:1≤(c.2.2.1.length:Int)+1:=by omega
  have hp7:(c.2.2.1.length:Int)+1≤7:=by omega
  have hv:v7*((c.2.2.1.length:Int)+1)≤7000*7:=Int.mul_le_mul h70 hp7 (by omega) (by omega)
  have hv1:v7≤v7*((c.2.2.1.length:Int)+1):=Zyc (by omega) hp1
  have hpw:v7*((c.2.2.1.length:Int)+1)^(n+1)=(v7*((c.2.2.1.length:Int)+1))*((c.2.2.1.length:Int)+1)^n:=by rw[Int.pow_succ,Int.mul_comm (((c.2.2.1.length:Int)+1)^n),Int.mul_assoc]
  refine Ev.succ ?_
  simp only[Z57]
  rw[hpw,w64 (n:=c.1*c.2.1) (by omega) (by omega),decide_eq_true (p:=v8<c.1*c.2.1) (by omega),w64 (n:=(c.2.2.1.length:Int)+1) (by omega) (by omega)]
  generalize hq:v7*((c.2.2.1.length:Int)+1)=q at hv hv1⊢
  rw[w64 (n:=q) (by omega) (by omega),w64 (n:=v8+1) (by omega) (by omega)]
  by_cases hb:q>7000
  ·have := Zyc (m := q) (by omega) (ZEz hp1 n)
   rw[decide_eq_false (p:=q*((c.2.2.1.length:Int)+1)^n≤7000) (by omega)]
   simp only[hb,decide_true,if_true,Bool.false_eq_true,if_false]
   exact Ev.some _
  ·simp only [hb, decide_false, if_true, Bool.false_eq_true, if_false]
   exact ZmB c hR hC hP n q (v8+1) (by omega) (by omega) (by omega) (by omega)
theorem ZdL(c:ChD)(h1:c.2.2.1.length≤1000000)(h2:c.2.2.2.1.length≤1000000):Ev (fun k=>Z4P k c) (challOK c):=by
 refine Ev.succ ?_
 simp only[Z4P]
 unfold challOK
 by_cases hs : sizesOK c = true
 ·rw [hs]
  unfold sizesOK at hs
  simp only[decide_eq_true_eq]at hs
  obtain ⟨a1,a2,a3,a4,a5,a6,a7,a8,a9⟩:=hs
  have n1: ¬c.1<1:=by omega
  have n2: ¬c.1>4:=by omega
  have n3: ¬c.2.1<1:=by omega
  have n4: ¬c.2.1>4:=by omega
  have n5: ¬(c.2.2.1.length:Int)<1:=by omega
  have n6: ¬(c.2.2.1.length:Int)>6:=by omega
  have n7: ¬(c.2.2.2.1.length:Int)<1:=by omega
  have n8: ¬(c.2.2.2.1.length:Int)>8:=by omega
  have n9:(c.2.2.2.2.length:Int)=(c.2.2.2.1.length:Int):=by omega
  simp only[n1,n2,n3,n4,n5,n6,n7,n8,n9,decide_false,ne_eq,not_true_eq_false,Bool.false_eq_true,if_false,Bool.true_and]
  have e0:=ZmU c c.2.2.1 [] rfl (by simpa using h1)
  have e2:=Zma c ⟨a3,a4⟩ c.2.2.2.1 [] c.2.2.2.2 [] rfl a9 rfl (by simpa using h2)
  have hm:1*1≤c.1*c.2.1:=Int.mul_le_mul a1 a3 (by omega) (by omega)
  have e4:=ZmB c ⟨a1,a2⟩ ⟨a3,a4⟩ a6 (c.1*c.2.1).toNat 1 0 (by omega) (by omega) (by omega) (by omega)
  simp only[List.nil_append,List.length_nil,Int.natCast_zero]at e0 e2
  rw[Int.one_mul]at e4
  rw[ZPe _ _ _ a9]at e2
  refine Ev.bind e0 ?_
  cases partsOK [] c.2.2.1 with
  |false=>simp only[Bool.false_eq_true,if_false,Bool.false_and];exact Ev.ret (Ev.some _)
  |true=>
   simp only[if_true,Bool.true_and]
   refine Ev.go (Ev.bind e2 ?_)
   rw[←Bool.and_assoc]
   generalize ((c.2.2.2.1.all fun e=>decide (0≤e∧e≤c.2.1-1))&&(c.2.2.2.2.all fun e=>decide (0≤e∧e≤c.2.1+1)))=u
   cases u with
   |false=>simp only[Bool.false_eq_true,if_false,Bool.false_and];exact Ev.ret (Ev.some _)
   |true=>
    simp only[if_true,Bool.true_and]
    refine Ev.go (Ev.bind e4 ?_)
    show Ev _ (decide (triedOf c≤7000))
    unfold triedOf
    cases decide (((c.2.2.1.length:Int)+1)^(c.1*c.2.1).toNat≤7000) with
    |false=>simp only[Bool.false_eq_true,if_false];exact Ev.ret (Ev.some _)
    |true=>simp only[if_true];exact Ev.go (Ev.some _)
 ·have hs' : sizesOK c = false := by simpa using hs
  rw[hs',Bool.false_and]
  unfold sizesOK at hs
  simp only[decide_eq_true_eq]at hs
  by_cases n1:c.1<1
  ·simp only[n1,decide_true,if_true];exact Ev.some _
  by_cases n2:c.1>4
  ·simp only[n1,n2,decide_true,decide_false,Bool.false_eq_true,if_false,if_true];exact Ev.some _
  by_cases n3:c.2.1<1
  ·simp only[n1,n2,n3,decide_true,decide_false,Bool.false_eq_true,if_false,if_true];exact Ev.some _
  by_cases n4:c.2.1>4
  ·simp only[n1,n2,n3,n4,decide_true,decide_false,Bool.false_eq_true,if_false,if_true];exact Ev.some _
  by_cases n5:(c.2.2.1.length:Int)<1
  ·simp only[n1,n2,n3,n4,n5,decide_true,decide_false,Bool.false_eq_true,if_false,if_true];exact Ev.some _
  by_cases n6:(c.2.2.1.length:Int)>6
  ·simp only[n1,n2,n3,n4,n5,n6,decide_true,decide_false,Bool.false_eq_true,if_false,if_true];exact Ev.some _
  by_cases n7:(c.2.2.2.1.length:Int)<1
  ·simp only[n1,n2,n3,n4,n5,n6,n7,decide_true,decide_false,Bool.false_eq_true,if_false,if_true];exact Ev.some _
  by_cases n8:(c.2.2.2.1.length:Int)>8
  ·simp only[n1,n2,n3,n4,n5,n6,n7,n8,decide_true,decide_false,Bool.false_eq_true,if_false,if_true];exact Ev.some _
  have n9:(c.2.2.2.2.length:Int)≠(c.2.2.2.1.length:Int):=fun h=>hs (by omega)
  simp only[n1,n2,n3,n4,n5,n6,n7,n8,n9,ne_eq,not_false_eq_true,decide_true,decide_false,Bool.false_eq_true,if_false,if_true]
  exact Ev.some _
end
section
theorem Zs9{p:Int}(hp:1≤p)(hp7:p≤1000000): ∀(n:Nat) (v:Int),1≤v→v≤7000*1000000→n≤1000000→ ∃o,Ev (fun k=>Z6m k p (n:Int) v) o∧(v*p^n≤7000→o=v*p^n)∧(v*p^n>7000→o>7000)
 | 0, v, h1, h2, hn => ⟨v, by
  refine Ev.succ ?_
  simp only[Z6m,Int.natCast_zero,gt_iff_lt,Int.lt_irrefl,decide_false,Bool.false_eq_true,if_false]
  exact Ev.some _,by simp,by simp⟩
 |n+1,v,h1,h2,hn=>by
  have hpw:v*p^(n+1)=(v*p)*p^n:=by rw[Int.pow_succ,Int.mul_comm (p^n),Int.mul_assoc]
  have hx:((n+1:Nat):Int)>0:=by omega
  by_cases hv : v ≤ 7000
  ·have hv1 : v * p ≤ 7000 * 1000000 := Int.mul_le_mul hv hp7 (by omega) (by omega)
   have hv2:v≤v*p:=Zyc (by omega) hp
   obtain ⟨o,ho,c1,c2⟩:=Zs9 hp hp7 n (v*p) (by omega) hv1 (by omega)
   refine ⟨o,?_,by rw[hpw];exact c1,by rw[hpw];exact c2⟩
   refine Ev.succ ?_
   simp only[Z6m,hx,hv,decide_true,if_true]
   generalize hq:v*p=q at hv1 hv2 ho⊢
   rw[w64 (n:=q) (by omega) (by omega),w64 (n:=((n+1:Nat):Int)-1) (by omega) (by omega),show ((n+1:Nat):Int)-1=(n:Int) by omega]
   exact ho
  ·refine ⟨v, ?_, fun h => ?_, fun _ => by omega⟩
   ·refine Ev.succ ?_
    simp only[Z6m,hx,hv,decide_true,decide_false,Bool.false_eq_true,if_false,if_true]
    exact Ev.some _
   ·have := Zyc (m := v) (by omega) (ZEz hp (n + 1))
    omega
theorem ZoK(c:ChD)(hP:c.2.2.1.length≤1000)(hm0:0≤c.1*c.2.1)(hm:c.1*c.2.1≤1000000): ∃o,Ev (fun k=>Z2v k c) o∧(triedOf c≤7000→o=triedOf c)∧(triedOf c>7000→o>7000):=by
 obtain ⟨o,ho,c1,c2⟩:=Zs9 (p:=(c.2.2.1.length:Int)+1) (by omega) (by omega) (c.1*c.2.1).toNat 1 (by omega) (by omega) (by omega)
 rw[Int.one_mul]at c1 c2
 rw[Int.toNat_of_nonneg hm0]at ho
 refine ⟨o,?_,c1,c2⟩
 refine Ev.succ ?_
 simp only[Z2v]
 rw[w64 (n:=c.1*c.2.1) (by omega) (by omega),w64 (n:=(c.2.2.1.length:Int)+1) (by omega) (by omega)]
 refine Ev.bind (a:=o) ?_ (Ev.some _)
 refine Ev.succ ?_
 simp only[Zo2]
 exact Ev.bind ho (Ev.some _)
theorem ZBV(c:ChD)(h1:c.2.2.1.length≤1000000)(h2:c.2.2.2.1.length≤1000000)(h3:c.2.2.2.2.length≤1000000):Ev (fun k=>Zgr k c) (challOK c):=by
 have e0 := Zvb c c.2.2.1 [] rfl (by simpa using h1)
 simp only[List.nil_append,List.length_nil,Int.natCast_zero]at e0
 refine Ev.succ ?_
 simp only[Zgr]
 unfold challOK
 refine Ev.bind e0 ?_
 by_cases hp : partsOK [] c.2.2.1 = true
 ·rw [if_pos hp, hp]
  refine Ev.go ?_
  refine Ev.bind (Z1U c.1 1 4) ?_
  by_cases q1 : 1 ≤ c.1 ∧ c.1 ≤ 4
  ·simp only [q1, and_self, decide_true, Bool.not_true, Bool.false_eq_true, if_false]
   refine Ev.bind (Z1U c.2.1 1 4) ?_
   by_cases q2 : 1 ≤ c.2.1 ∧ c.2.1 ≤ 4
   ·simp only [q2, and_self, decide_true, Bool.not_true, Bool.false_eq_true, if_false]
    refine Ev.bind (Z1U (c.2.2.1.length:Int) 1 6) ?_
    by_cases q3 : 1 ≤ (c.2.2.1.length : Int) ∧ (c.2.2.1.length : Int) ≤ 6
    ·simp only [q3, and_self, decide_true, Bool.not_true, Bool.false_eq_true, if_false]
     refine Ev.bind (Z1U (c.2.2.2.1.length:Int) 1 8) ?_
     by_cases q4 : 1 ≤ (c.2.2.2.1.length : Int) ∧ (c.2.2.2.1.length : Int) ≤ 8
     ·by_cases q5 : (c.2.2.2.2.length : Int) = (c.2.2.2.1.length : Int)
      ·have hs : sizesOK c = true := by
        unfold sizesOK
        exact decide_eq_true (by omega)
       rw[hs]
       simp only[q1,q2,q3,q4,q5,and_self,decide_true,Bool.not_true,Bool.false_eq_true,if_false,ne_eq,not_true_eq_false,decide_false,Bool.true_and]
       rw[w64 (n:=c.2.1-1) (by omega) (by omega),w64 (n:=c.2.1+1) (by omega) (by omega)]
       refine Ev.bind (ZlZ c.2.2.2.1 0 (c.2.1-1) (by omega)) ?_
       cases (c.2.2.2.1.all fun e=>decide (0≤e∧e≤c.2.1-1)) with
       |false=>simp only[Bool.false_eq_true,if_false,Bool.false_and];exact Ev.some _
       |true=>
        simp only[if_true,Bool.true_and]
        refine Ev.bind (ZlZ c.2.2.2.2 0 (c.2.1+1) (by omega)) ?_
        cases (c.2.2.2.2.all fun e=>decide (0≤e∧e≤c.2.1+1)) with
        |false=>simp only[Bool.false_eq_true,if_false,Bool.false_and];exact Ev.some _
        |true=>
         simp only[if_true,Bool.true_and]
         have hm:c.1*c.2.1≤4*4:=Int.mul_le_mul q1.2 q2.2 (by omega) (by omega)
         have hm0:1*1≤c.1*c.2.1:=Int.mul_le_mul q1.1 q2.1 (by omega) (by omega)
         obtain ⟨o,ho,c1,c2⟩:=ZoK c (by omega) (by omega) (by omega)
         refine Ev.bind ho ((Ev.some _).congr ?_)
         by_cases ht:triedOf c≤7000
         ·rw[decide_eq_true ht,c1 ht];exact decide_eq_true ht
         ·rw[decide_eq_false ht];exact decide_eq_false (by have:=c2 (by omega);omega)
      ·have hs : sizesOK c = false := by
        unfold sizesOK
        exact decide_eq_false (by omega)
       rw[hs]
       simp only[q1,q2,q3,q4,q5,and_self,decide_true,Bool.not_true,Bool.false_eq_true,if_false,ne_eq,not_false_eq_true,if_true,Bool.false_and]
       exact Ev.some _
     ·have hs : sizesOK c = false := by
       unfold sizesOK
       exact decide_eq_false (by omega)
      rw[hs]
      simp only[q1,q2,q3,q4,and_self,decide_true,decide_false,Bool.not_true,Bool.not_false,Bool.false_eq_true,if_false,if_true,Bool.false_and]
      exact Ev.some _
    ·have hs : sizesOK c = false := by
      unfold sizesOK
      exact decide_eq_false (by omega)
     rw[hs]
     simp only[q1,q2,q3,and_self,decide_true,decide_false,Bool.not_true,Bool.not_false,Bool.false_eq_true,if_false,if_true,Bool.false_and]
     exact Ev.some _
   ·have hs : sizesOK c = false := by
     unfold sizesOK
     exact decide_eq_false (by omega)
    rw[hs]
    simp only[q1,q2,and_self,decide_true,decide_false,Bool.not_true,Bool.not_false,Bool.false_eq_true,if_false,if_true,Bool.false_and]
    exact Ev.some _
  ·have hs : sizesOK c = false := by
    unfold sizesOK
    exact decide_eq_false (by omega)
   rw[hs]
   simp only[q1,decide_false,Bool.not_false,Bool.false_eq_true,if_true,Bool.false_and]
   exact Ev.some _
 ·have hp' : partsOK [] c.2.2.1 = false := by simpa using hp
  rw[if_neg hp,hp',Bool.false_and,Bool.and_false]
  exact Ev.ret (Ev.some _)
end
section
def digitCell(P:List CellD)(d:Int):CellD:=if d>0 then List.getD P (d-1).toNat (0,0) else (0,0)
def cellsOf(P:List CellD):Nat→Int→List CellD→List CellD
 |0,_,s=>s
 |i+1,n,s=>cellsOf P i (n.tdiv ((P.length:Int)+1)) (digitCell P (n.tmod ((P.length:Int)+1))::s)
def boardAt(c:ChD)(n:Int):BoardD:=(c.1,c.2.1,cellsOf c.2.2.1 (c.1*c.2.1).toNat n [])
theorem ZJ3(P:List CellD): ∀(i:Nat) (n:Int) (s:List CellD),(cellsOf P i n s).length=i+s.length
 |0,n,s=>by simp[cellsOf]
 |i+1,n,s=>by rw[cellsOf,ZJ3 P i];simp;omega
theorem ZQE{P:List CellD}{d:Int}(hd:d≤(P.length:Int)):digitCell P d=(0,0)∨digitCell P d∈P:=by
 unfold digitCell
 split
 ·right
  have h:(d-1).toNat<P.length:=by omega
  rw[List.getD_eq_getElem?_getD,List.getElem?_eq_getElem h]
  exact List.getElem_mem h
 ·exact .inl rfl
theorem Zra{n m:Int}(hn:0≤n)(hm:0<m):0≤n.tmod m∧n.tmod m<m:=⟨Int.tmod_nonneg m hn,Int.tmod_lt_of_pos n hm⟩
theorem ZAL{n m:Int}(hn:0≤n)(hm:0<m):0≤n.tdiv m∧n.tdiv m≤n:=by
 rw[Int.tdiv_eq_ediv_of_nonneg hn]
 exact ⟨Int.ediv_nonneg hn (by omega),Int.ediv_le_self m hn⟩
theorem Zw0{P:List CellD}: ∀(i:Nat) (n:Int) (s:List CellD),0≤n→(∀x∈s,x=(0,0)∨x∈P)→ ∀x∈cellsOf P i n s,x=(0,0)∨x∈P
 |0,n,s,hn,hs=>hs
 |i+1,n,s,hn,hs=>by
  have h1:=Zra (m:=(P.length:Int)+1) hn (by omega)
  have h2:=ZAL (m:=(P.length:Int)+1) hn (by omega)
  refine Zw0 i _ _ h2.1 ?_
  intro x hx
  rcases List.mem_cons.1 hx with rfl|hx
  ·exact ZQE (by omega)
  ·exact hs x hx
theorem ZS0{i:Nat}(s:List CellD)(x:CellD):List.set (List.replicate (i+1) ((0:Int),(0:Int))++s) i x=List.replicate i (0,0)++x::s:=by
 have h:(List.replicate (i+1) ((0:Int),(0:Int))++s)=List.replicate i (0,0)++(0,0)::s:=by
  rw[List.replicate_succ']
  simp
 rw[h]
 simp
theorem ZPm{i:Nat}(s:List CellD):(List.replicate (i+1) ((0:Int),(0:Int))++s)=List.replicate i (0,0)++(0,0)::s:=by
 rw[List.replicate_succ']
 simp
theorem Zsy(c:ChD)(b20 b21:Int)(o3:List CellD)(b40 b41:Int)(hP:c.2.2.1.length≤1000): ∀(i:Nat) (n:Int) (s:List CellD),0≤n→n≤1000000→i≤1000→
  Ev (fun k=>Z6i k c.1 c.2.1 c.2.2.1 c.2.2.2.1 c.2.2.2.2 b20 b21 o3 b40 b41 (List.replicate i (0,0)++s) n ((i:Int)-1)) (b20,b21,o3,b40,b41,cellsOf c.2.2.1 i n s)
 |0,n,s,h0,h1,hi=>by
  refine Ev.succ ?_
  simp only[Z6i]
  rw[decide_eq_false (p:=((0:Nat):Int)-1≥0) (by omega)]
  simp only[Bool.false_eq_true,if_false,List.replicate_zero,List.nil_append,cellsOf]
  exact Ev.some _
 |i+1,n,s,h0,h1,hi=>by
  have hm:=Zra (m:=(c.2.2.1.length:Int)+1) h0 (by omega)
  have hd:=ZAL (m:=(c.2.2.1.length:Int)+1) h0 (by omega)
  have ih:=Zsy c b20 b21 o3 b40 b41 hP i (n.tdiv ((c.2.2.1.length:Int)+1)) (digitCell c.2.2.1 (n.tmod ((c.2.2.1.length:Int)+1))::s) hd.1 (by omega) (by omega)
  have hs:((i+1:Nat):Int)-1=(i:Int):=by omega
  refine Ev.succ ?_
  simp only[Z6i,ZGE,hs]
  rw[w64 (n:=(c.2.2.1.length:Int)+1) (by omega) (by omega)]
  generalize hM:(c.2.2.1.length:Int)+1=M at hm hd ih⊢
  rw[w64 (n:=n.tmod M-1) (by omega) (by omega),w64 (n:=n.tdiv M) (by omega) (by omega),w64 (n:=(i:Int)-1) (by omega) (by omega)]
  have g1:(i:Int)≥0:=by omega
  have g2: ¬M=0:=by omega
  simp only[g1,g2,decide_true,if_true,if_false]
  show Ev _ (b20,b21,o3,b40,b41,cellsOf c.2.2.1 i (n.tdiv ((c.2.2.1.length:Int)+1)) (digitCell c.2.2.1 (n.tmod ((c.2.2.1.length:Int)+1))::s))
  rw[hM]
  by_cases hk:n.tmod M>0
  ·have q1 : (0 : Int) ≤ n.tmod M - 1 := by omega
   have q2:n.tmod M-1<(c.2.2.1.length:Int):=by omega
   have q3:(0:Int)≤(i:Int):=by omega
   have q4:(i:Int)<(((List.replicate (i+1) ((0:Int),(0:Int))++s).length:Nat):Int):=by simp;omega
   simp only[hk,q1,q2,q3,q4,decide_true,if_true,Int.toNat_natCast]
   rw[ZS0]
   unfold digitCell at ih⊢
   rw[if_pos hk]at ih⊢
   exact ih
  ·simp only [hk, decide_false, Bool.false_eq_true, if_false]
   rw[ZPm]
   unfold digitCell at ih⊢
   rw[if_neg hk]at ih⊢
   exact ih
theorem Zs1(c:ChD)(b20 b21:Int)(o3:List CellD)(b40 b41:Int)(hP:c.2.2.1.length≤1000): ∀(i:Nat) (n:Int) (s:List CellD),0≤n→n≤1000000→i≤1000→
  Ev (fun k=>Z6p k c.1 c.2.1 c.2.2.1 c.2.2.2.1 c.2.2.2.2 b20 b21 o3 b40 b41 (List.replicate i (0,0)++s) n ((i:Int)-1)) (b20,b21,o3,b40,b41,cellsOf c.2.2.1 i n s)
 |0,n,s,h0,h1,hi=>by
  refine Ev.succ ?_
  simp only[Z6p]
  rw[decide_eq_false (p:=((0:Nat):Int)-1≥0) (by omega)]
  simp only[Bool.false_eq_true,if_false,List.replicate_zero,List.nil_append,cellsOf]
  exact Ev.some _
 |i+1,n,s,h0,h1,hi=>by
  have hm:=Zra (m:=(c.2.2.1.length:Int)+1) h0 (by omega)
  have hd:=ZAL (m:=(c.2.2.1.length:Int)+1) h0 (by omega)
  have ih:=Zs1 c b20 b21 o3 b40 b41 hP i (n.tdiv ((c.2.2.1.length:Int)+1)) (digitCell c.2.2.1 (n.tmod ((c.2.2.1.length:Int)+1))::s) hd.1 (by omega) (by omega)
  have hs:((i+1:Nat):Int)-1=(i:Int):=by omega
  refine Ev.succ ?_
  simp only[Z6p,ZGE,hs]
  rw[w64 (n:=(c.2.2.1.length:Int)+1) (by omega) (by omega)]
  generalize hM:(c.2.2.1.length:Int)+1=M at hm hd ih⊢
  rw[w64 (n:=n.tmod M-1) (by omega) (by omega),w64 (n:=n.tdiv M) (by omega) (by omega),w64 (n:=(i:Int)-1) (by omega) (by omega)]
  have g1:(i:Int)≥0:=by omega
  have g2: ¬M=0:=by omega
  simp only[g1,g2,decide_true,if_true,if_false]
  show Ev _ (b20,b21,o3,b40,b41,cellsOf c.2.2.1 i (n.tdiv ((c.2.2.1.length:Int)+1)) (digitCell c.2.2.1 (n.tmod ((c.2.2.1.length:Int)+1))::s))
  rw[hM]
  by_cases hk:n.tmod M>0
  ·have q1 : (0 : Int) ≤ n.tmod M - 1 := by omega
   have q2:n.tmod M-1<(c.2.2.1.length:Int):=by omega
   have q3:(0:Int)≤(i:Int):=by omega
   have q4:(i:Int)<(((List.replicate (i+1) ((0:Int),(0:Int))++s).length:Nat):Int):=by simp;omega
   simp only[hk,q1,q2,q3,q4,decide_true,if_true,Int.toNat_natCast]
   rw[ZS0]
   unfold digitCell at ih⊢
   rw[if_pos hk]at ih⊢
   exact ih
  ·simp only [hk, decide_false, Bool.false_eq_true, if_false]
   rw[ZPm]
   unfold digitCell at ih⊢
   rw[if_neg hk]at ih⊢
   exact ih
theorem ZOR(c:ChD)(hP:c.2.2.1.length≤1000)(h0:0≤c.1*c.2.1)(h1:c.1*c.2.1≤1000)(n:Int)(hn:0≤n)(hn2:n≤1000000):Ev (fun k=>Zj3 k c n) (boardAt c n):=by
 have e0:=Zsy c 0 0 [] c.1 c.2.1 hP (c.1*c.2.1).toNat n [] hn hn2 (by omega)
 simp only[List.append_nil]at e0
 have g:(c.1*c.2.1).toNat*16≤281474976710656:=by omega
 refine Ev.succ ?_
 simp only[Zj3,Z7P]
 rw[w64 (n:=c.1*c.2.1) (by omega) (by omega)]
 simp only[h0,g,if_true]
 refine Ev.bind (Ev.some _) ?_
 simp only[]
 rw[w64 (by simp;omega) (by simp;omega),List.length_replicate]
 exact Ev.bind e0 (Ev.some _)
theorem ZiF(c:ChD)(hP:c.2.2.1.length≤1000)(h0:0≤c.1*c.2.1)(h1:c.1*c.2.1≤1000)(n:Int)(hn:0≤n)(hn2:n≤1000000):Ev (fun k=>Zi k c n) (boardAt c n):=by
 have e0:=Zs1 c 0 0 [] c.1 c.2.1 hP (c.1*c.2.1).toNat n [] hn hn2 (by omega)
 simp only[List.append_nil]at e0
 have g:(c.1*c.2.1).toNat*16≤281474976710656:=by omega
 refine Ev.succ ?_
 simp only[Zi,Z7R]
 rw[w64 (n:=c.1*c.2.1) (by omega) (by omega)]
 simp only[h0,g,if_true]
 refine Ev.bind (Ev.some _) ?_
 simp only[]
 rw[w64 (by simp;omega) (by simp;omega),List.length_replicate]
 exact Ev.bind e0 (Ev.some _)
end
section
theorem ZIV{x y:CellD}(h:x.1=y.1):geared x=geared y:=by unfold geared;rw[h]
theorem ZT4{b b':BoardD}(h1:b.1=b'.1)(h2:b.2.1=b'.2.1)(i:Int):nears b i=nears b' i:=by unfold nears;rw[h1,h2]
theorem ZTy{b b':BoardD}(h:b.2.2.map Prod.fst=b'.2.2.map Prod.fst)(v:Int):visit b v=visit b' v:=by
 funext G n
 unfold visit
 rw[ZIV (ZPg h n.toNat)]
theorem ZPv{b b':BoardD}(h1:b.1=b'.1)(h2:b.2.1=b'.2.1)(h:b.2.2.map Prod.fst=b'.2.2.map Prod.fst)(v:Int): ∀(n:Nat) (o q:List Int),bfs b v n o q=bfs b' v n o q
 |0,o,q=>rfl
 |_+1,o,[]=>rfl
 |n+1,o,x::q=>by simp only[bfs];rw[ZT4 h1 h2,ZTy h,ZPv h1 h2 h v n]
theorem ZkX{b b':BoardD}(h1:b.1=b'.1)(h2:b.2.1=b'.2.1)(h:b.2.2.map Prod.fst=b'.2.2.map Prod.fst): ∀(r r':List CellD) (i:Int) (o:List Int) (v:Int),r.map Prod.fst=r'.map Prod.fst→groupsFrom b i r o v=groupsFrom b' i r' o v
 |[],[],i,o,v,hr=>rfl
 |[],y::r',i,o,v,hr=>by simp at hr
 |x::r,[],i,o,v,hr=>by simp at hr
 |x::r,y::r',i,o,v,hr=>by
  simp only[List.map_cons,List.cons.injEq]at hr
  simp only[groupsFrom]
  rw[ZIV hr.1,ZPv h1 h2 h,ZkX h1 h2 h r r' _ _ _ hr.2,ZkX h1 h2 h r r' _ _ _ hr.2]
theorem ZRX{o o':List CellD}(h:o.map Prod.fst=o'.map Prod.fst):o.length=o'.length:=by
 have:=congrArg List.length h
 simpa using this
theorem ZOn{b b':BoardD}(h1:b.1=b'.1)(h2:b.2.1=b'.2.1)(h:b.2.2.map Prod.fst=b'.2.2.map Prod.fst):groupsOf b=groupsOf b':=by
 unfold groupsOf
 rw[ZRX h,ZkX h1 h2 h _ _ _ _ _ h]
def Told(o o':List Int):Prop:= ∀j:Nat,j<o.length→0≤List.getD o j 0→0≤List.getD o' j 0
theorem Told.set{o:List Int}{v:Int}(hv:0≤v)(i:Nat):Told o (List.set o i v):=by
 intro j hj h
 by_cases hi:i<o.length
 ·rw [ZJ2 o i j v 0 hi]
  split
  ·exact hv
  ·exact h
 ·rw [List.set_eq_of_length_le (by omega)]
  exact h
theorem Told.trans{o o' o2:List Int}(h:Told o o')(hl:o'.length=o.length)(h2:Told o' o2):Told o o2:=fun j hj h0=>h2 j (by omega) (h j hj h0)
def Below(N:List Int)(n:Nat):Prop:= ∀x∈N, -1≤x∧x<(n:Int)
theorem Below.more{N:List Int}{n m:Nat}(h:Below N n)(hm:n≤m):Below N m:=fun x hx=>⟨(h x hx).1,by have:=(h x hx).2;omega⟩
end
section
theorem Zn3(a b c d:Int): ∀(r pre:List CellD),(pre++r).length≤1000000→Ev (fun k=>Zao k a b (pre++r) c d (pre++r) ((pre++r).length:Int) (pre.length:Int)) (LR.go ())
 |[],pre,hl=>by
  refine Ev.succ ?_
  simp only[Zao,Zn,decide_false,Bool.false_eq_true,if_false]
  exact Ev.some _
 |x::r,pre,hl=>by
  have ih:=Zn3 a b c d r (pre++[x]) (by simpa using hl)
  refine Ev.succ ?_
  simp only[Zao,Zl,Zu,decide_true,if_true,Int.toNat_natCast,Zg,Bool.and_self,Bool.not_true,Bool.false_eq_true,if_false]
  rw[Zk pre x r (by omega)]
  rw[←Ze]at ih
  exact ih
theorem Zdp(b:BoardD)(hl:b.2.2.length≤1000000):Ev (fun k=>Zgv k b b) true:=by
 refine Ev.succ ?_
 simp only[Zgv,ne_eq,not_true_eq_false,decide_false,Bool.false_eq_true,if_false]
 exact Ev.bind (Zn3 _ _ _ _ b.2.2 [] (by simpa using hl)) (Ev.go (Ev.some _))
theorem ZBy(b:BoardD)(hb:boardOK b=true)(c:Int)(hc:0≤c)(hc2:c<b.2.1):Ev (fun k=>Zim k b c) ((fallOf b (groupsOf b) (kindsB b []) c b.2.2).1,b.1,b.2.1,(fallOf b (groupsOf b) (kindsB b []) c b.2.2).2):=by
 obtain ⟨p,hp⟩:=ZTe b hb (groupsOf b) (ZhS b) c hc hc2
 refine Ev.succ ?_
 simp only[Zim,ZaH,Zal]
 refine Ev.bind (Ev.bind (ZvA b hb) (Ev.bind hp (Ev.some _))) ?_
 exact Ev.bind (Ev.some _) (Ev.some _)
end
end Go.Proofs.YtmhfhiofcoggbaaGreat.Vs
