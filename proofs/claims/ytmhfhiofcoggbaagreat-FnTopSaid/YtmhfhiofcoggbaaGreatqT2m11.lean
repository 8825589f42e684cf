/- The proof, part 12. -/
import Derived.Test.YtmhfhiofcoggbaaGreatqT2m10
import Derived.RangeFuncRecord
import Derived.RangeFuncSeq
import Derived.OrdersIn
import Derived.TacticsIn
import Derived.RangeFuncLeaves
set_option linter.unusedVariables false
set_option linter.unusedSimpArgs false
namespace Go.Proofs.YtmhfhiofcoggbaaGreat.Vs
open Go.RowKit
section
def Fw(ro:Option Nat):Fence:={Fence.wide with round:=ro}
section
variable {P:Program} {ro:Option Nat} {n:Nat}
theorem ZU8{f:FuncId}{args:Array Value}{w:World}{R:Ending→World→Prop}(h:Calls P f args w R):CallsIn (Fw ro) n P f args w R:=(callsIn_wide (n:=n)).2 h
theorem ZUR{row:String}{args:Array Value}{w:World}{R:Value→World→Prop}(h:Rows P row args w R):RowsIn (Fw ro) n P row args w R:=fun c cs _=>
 let ⟨v,w',r,s⟩:=h c cs
 ⟨v,w',r,stepsIn_wide.2 s⟩
def entersB(P:Program)(f:FuncId):Prop:= ∀vs w,(callFunc f vs).run P w= .ok (.enter f vs) w
def calmOp(fs:List FuncId):Op→Bool
 | .move _| .assign _| .pick .. | .alloc _| .box .. | .build .. | .buildSlice .. | .load .. | .store .. | .binOp .. | .unOp .. | .makeFunc .. | .makeSlice .. | .slice .. | .fieldAddr .. | .field .. | .indexAddr .. | .index .. | .extract .. =>true
 | .call c=>match c.callee with
  | .value (.func f)=>fs.contains f
  |_=>false
 |_=>false
theorem ZW1{fs:List FuncId}{op:Op}(h:calmOp fs op=true): ∀c,op≠ .defer c:=by
 intro c he
 subst he
 cases h
theorem ZVi{s:Sem Value}{w w':World}{d:Deferred}:(do pure (Next.value (←s)):Sem Next).run P w≠ .ok (.defer d) w':=by
 rw[Sem.run_bind]
 cases s.run P w<;>simp[Result.andThen]
theorem ZV0{s:Sem Unit}{w w':World}{d:Deferred}:(do s;pure Next.skip:Sem Next).run P w≠ .ok (.defer d) w':=by
 rw[Sem.run_bind]
 cases s.run P w<;>simp[Result.andThen]
theorem ZV2{fs:List FuncId}(hfs: ∀f∈fs,entersB P f){a:Act}{o:Oper}(h:calmOp fs o.op=true): ∀(w:World) (d:Deferred) (w':World),(execOp a.eval o).run P w≠ .ok (.defer d) w':=by
  intro w d w'
  unfold execOp
  cases ho:o.op<;>rw[ho]at h<;>try (cases h;done)
  case call c=>
    simp only[calmOp]at h
    split at h
    · rename_i f hc
      have hf:=hfs f (by simpa using h)
      have he:a.eval (.func f)= .func (.func f) #[] #[]:=rfl
      simp only[resolve,hc,Deferred.ofValue,he,Sem.run_bind,Sem.run_pure,Result.andThen_ok,invoke]
      rw[hf]
      intro hh
      cases hh
    · cases h
  all_goals first
    |exact ZVi
    |exact ZV0
    | (simp [Sem.run_pure]; done)
    | (rw [Sem.run_bind]
       rename_i cc _ _
       cases (asBool (a.eval cc)).run P w<;>simp[Result.andThen])
theorem ZOT{o:Oper}{a:Act}{w:World}{K:Act→World→Prop}{Q Q':Exit→Act→World→Prop}{fs:List FuncId}(hfs: ∀f∈fs,entersB P f)(hc:calmOp fs o.op=true)(hQp: ∀c a w,¬Q (.panic c) a w)(hQo: ¬LetsOut Q)(h:o.wp P a w K Q):
  o.wpIn (Fw ro) n P a w (fun a' w'=>K a' w'∧ ∃v,a'=a.put o.dst v) Q':=by
 refine ⟨fun _ _=>trivial,?_⟩
 rw[Oper.semAt_eq _ _ _ (ZW1 hc)]
 have hnd:=ZV2 hfs (a:=a) hc w
 unfold Oper.wp at h
 revert h hnd
 generalize (execOp a.eval o).run P w=res
 intro h hnd
 cases res with
 |ok nx w'=>
  cases nx<;>simp only[Oper.upon,Oper.uponIn]at h⊢ <;>try (exact h.elim)
  ·exact ⟨h, _, rfl⟩
  ·exact ⟨h, _, rfl⟩
  ·refine ⟨fun hf => (by cases hf), ZU8 (Calls.mono h fun e w'' he => ?_)⟩
   cases e with
   |returned v=>exact ⟨he,_,rfl⟩
   |panicked c=>exact (hQp _ _ _ he).elim
   |outgrown=>exact (hQo he).elim
  ·exact (hnd _ _ rfl).elim
  ·refine ⟨fun hf=>(by cases hf),ZUR (Rows.mono h fun v w'' he=>⟨he,_,rfl⟩)⟩
 |halt x w'=>cases x<;>simp only[Oper.upon,Oper.uponIn]at h⊢ <;>first|exact (hQp _ _ _ h).elim|exact h.elim
def Agree(ds:List Tmp)(a a':Act):Prop:=(∀d,ds.contains d=false→a'.tmps.getD d undef=a.tmps.getD d undef)∧a'.tmps.size=a.tmps.size
theorem Agree.refl(ds:List Tmp)(a:Act):Agree ds a a:=⟨fun _ _=>rfl,rfl⟩
theorem Agree.trans{ds:List Tmp}{a a' a'':Act}(h:Agree ds a a')(h':Agree ds a' a''):Agree ds a a'':=⟨fun d hd=>(h'.1 d hd).trans (h.1 d hd),h'.2.trans h.2⟩
theorem Agree.put{ds:List Tmp}{a:Act}{dst:Option Tmp}(h: ∀d,dst=some d→ds.contains d=true)(v:Value):Agree ds a (a.put dst v):=by
 refine ⟨fun d hd=> ?_,by cases dst<;>simp[Act.put]⟩
 cases dst with
 |none=>rfl
 |some e=>
  have hne:e≠d:=by intro he;subst he;rw[h e rfl]at hd;cases hd
  simp only[Act.put,Array.getD_eq_getD_getElem?,Array.getElem?_setIfInBounds_ne hne]
def dstsOf(l:List Oper):List Tmp:=l.filterMap (·.dst)
theorem ZVp{l:List Oper}{o:Oper}(ho:o∈l): ∀d,o.dst=some d→(dstsOf l).contains d=true:=fun d hd=>by
 simp only[List.contains_iff_mem]
 exact List.mem_filterMap.2 ⟨o,ho,hd⟩
theorem ZFj{ops:Array Oper}{Q Q':Exit→Act→World→Prop}{fs:List FuncId}(hfs: ∀f∈fs,entersB P f)(hQp: ∀c a w,¬Q (.panic c) a w)(hQo: ¬LetsOut Q)(ds:List Tmp): ∀(l:List Oper) (a:Act) (w:World),(∀o∈l,calmOp fs o.op=true∧ ∀d,o.dst=some d→ds.contains d=true)→wpList P ops Q l a w→
  (∀ a' w', Q .normal a' w' → Agree ds a a' → Q' .normal a' w') → wpListIn (Fw ro) n P ops Q' l a w
 | [], a, w, _, h, hQ => hQ a w h (Agree.refl ds a)
 |o::l,a,w,hc,h,hQ=>by
  obtain ⟨hco,hd⟩:=hc o (List.mem_cons_self ..)
  unfold wpList at h
  unfold wpListIn
  split
  ·rename_i hw
   rw[if_pos hw]at h
   rcases h with h|⟨_,h⟩
   ·refine Oper.wpIn_mono (fun a' w' ⟨h1, v, hv⟩ => ?_) (ZOT hfs hco hQp hQo h)
    have ha:Agree ds a a':=by rw[hv];exact Agree.put hd v
    exact ZFj hfs hQp hQo ds l a' w' (fun o ho=>hc o (List.mem_cons_of_mem _ ho)) h1 (fun a'' w'' hq hag=>hQ a'' w'' hq (ha.trans hag))
   ·exact (hQo h).elim
  ·rename_i hw
   rw[if_neg hw]at h
   exact ⟨fun _ _=>trivial,ZFj hfs hQp hQo ds l _ w (fun o ho=>hc o (List.mem_cons_of_mem _ ho)) h (fun a'' w'' hq hag=>hQ a'' w'' hq ((Agree.put hd undef).trans hag))⟩
theorem ZAB{ops:Array Oper}{md:Region.Mode}{Q Q':Exit→Act→World→Prop}{fs:List FuncId}(hfs: ∀f∈fs,entersB P f)(hQp: ∀c a w,¬Q (.panic c) a w)(hQo: ¬LetsOut Q)(ds:List Tmp)(hc: ∀o∈ops.toList,calmOp fs o.op=true∧ ∀d,o.dst=some d→ds.contains d=true):
  ∀ (fuel : Nat) (listed : Array Bool) (a : Act) (w : World), wpAny P md ops Q fuel listed a w → (∀ a' w', Q .normal a' w' → Agree ds a a' → Q' .normal a' w') → wpAnyIn (Fw ro) n P md ops Q' fuel listed a w
 | 0, listed, a, w, h, hQ => ⟨h.1, hQ a w h.2 (Agree.refl ds a)⟩
 |fuel+1,listed,a,w,h,hQ=>by
  refine ⟨fun hr=>hQ a w (h.1 hr) (Agree.refl ds a),fun i hi=> ?_⟩
  have h1:=h.2 i hi
  unfold wpOp at h1
  unfold wpOpIn
  split
  ·rename_i ho
   rw[ho]at h1
   exact ZAB hfs hQp hQo ds hc fuel _ a w h1 hQ
  ·rename_i o ho
   rw[ho]at h1
   have hm:o∈ops.toList:=by
    have:=List.mem_of_getElem? (l:=ops.toList) (i:=i) (a:=o) (by rw[Array.getElem?_toList];exact ho)
    exact this
   obtain ⟨hco,hd⟩:=hc o hm
   simp only at h1
   split
   ·rename_i hw
    rw[if_pos hw]at h1
    rcases h1 with h1|⟨_,h1⟩
    ·refine Oper.wpIn_mono (fun a' w' ⟨h2, v, hv⟩ => ?_) (ZOT hfs hco hQp hQo h1)
     have ha:Agree ds a a':=by rw[hv];exact Agree.put hd v
     exact ZAB hfs hQp hQo ds hc fuel _ a' w' h2 (fun a'' w'' hq hag=>hQ a'' w'' hq (ha.trans hag))
    ·exact (hQo h1).elim
   ·rename_i hw
    rw[if_neg hw]at h1
    exact ⟨fun _ _=>trivial,ZAB hfs hQp hQo ds hc fuel _ _ w h1 (fun a'' w'' hq hag=>hQ a'' w'' hq ((Agree.put hd undef).trans hag))⟩
end
def calmC(fs:List FuncId):Code→Bool
 | .skip=>true
 | .seq a b=>calmC fs a&&calmC fs b
 | .cond _ a b=>calmC fs a&&calmC fs b
 | .block _ c=>calmC fs c
 | .exit _=>true
 | .region _ ops _=>ops.toList.all fun o=>calmOp fs o.op
 |_=>false
def dstsC:Code→List Tmp
 | .seq a b=>dstsC a++dstsC b
 | .cond _ a b=>dstsC a++dstsC b
 | .block _ c=>dstsC c
 | .region _ ops _=>dstsOf ops.toList
 |_=>[]
def EPostIn{B:Type}(w0:World)(S0:Own){γ:Type}(KN:St→Option γ)(KX:Nat→St→Option γ)(r:γ)(ds:List Tmp)(a:Act):Exit→Act→World→Prop
 | .normal,a',w'=> ∃st μ,Rel w0 S0 st μ a' w'∧KN st=some r∧Agree ds a a'
 | .exit id,a',w'=> ∃st μ,Rel w0 S0 st μ a' w'∧KX id st=some r∧Agree ds a a'
 |_,_,_=>False
section
variable {P:Program} {B:Type} {w0:World} {S0:Own} {ro:Option Nat} {n:Nat}
theorem Agree.more{ds ds':List Tmp}{a a':Act}(h:Agree ds a a')(hm: ∀d,ds.contains d=true→ds'.contains d=true):Agree ds' a a':=⟨fun d hd=>h.1 d (by
 cases hc:ds.contains d with
 |false=>rfl
 |true=>rw[hm d hc]at hd;cases hd),h.2⟩
theorem Zkt{a b:List Tmp}{d:Tmp}(h:a.contains d=true):(a++b).contains d=true:=by
 simp only[List.contains_iff_mem,List.mem_append]at h⊢
 exact .inl h
theorem ZnZ{a b:List Tmp}{d:Tmp}(h:b.contains d=true):(a++b).contains d=true:=by
 simp only[List.contains_iff_mem,List.mem_append]at h⊢
 exact .inr h
theorem EPostIn.more{γ:Type}{KN:St→Option γ}{KX:Nat→St→Option γ}{r:γ}{ds ds':List Tmp}{a:Act}{e:Exit}{a':Act}{w':World}(hm: ∀d,ds.contains d=true→ds'.contains d=true)(h:EPostIn (B:=B) w0 S0 KN KX r ds a e a' w'):EPostIn (B:=B) w0 S0 KN KX r ds' a e a' w':=by
 cases e with
 |normal=>obtain ⟨st,μ,h1,h2,h3⟩:=h;exact ⟨st,μ,h1,h2,h3.more hm⟩
 |exit id=>obtain ⟨st,μ,h1,h2,h3⟩:=h;exact ⟨st,μ,h1,h2,h3.more hm⟩
 |ret=>exact h
 |goto l=>exact h
 |panic c=>exact h
 |outgrown=>exact h
theorem Zi6{X:Ctx B}{k:Nat}(hT:TTok P X.T)(hG:EnvOK P k X.G)(hl:X.loops=[])(hcd:X.conds=[])(hrg:X.regs=[])(hct:X.cuts=[]){fs:List FuncId}(hfs: ∀f∈fs,entersB P f):
  ∀{c:Code} {γ:Type} {st:St} {μ:List ORec} {a:Act} {w:World} {KN:St→Option γ} {KX:Nat→St→Option γ} {r:γ},calmC fs c=true→Rel w0 S0 st μ a w→exec X k c st KN KX (fun _=>none)=some r→c.wpIn (Fw ro) n P (EPostIn (B:=B) w0 S0 KN KX r (dstsC c) a) a w:=by
 intro c
 induction c with
 |skip=>intro γ st μ a w KN KX r _ h hr;exact wpIn_skip ⟨st,μ,h,hr,Agree.refl _ a⟩
 |seq x y ihx ihy=>
  intro γ st μ a w KN KX r hcm h hr
  simp only[calmC,Bool.and_eq_true]at hcm
  simp only[exec,cutE,hct]at hr
  refine wpIn_seq (wpIn_mono (ihx hcm.1 h hr) (fun e a' w' hq=> ?_))
  cases e with
  |normal=>
   obtain ⟨st1,μ1,h1,hr1,hag⟩:=hq
   refine wpIn_mono (ihy hcm.2 h1 hr1) (fun e a'' w'' hq=> ?_)
   have h2:=EPostIn.more (ds':=dstsC (.seq x y)) (fun d=>ZnZ) hq
   have hag2:Agree (dstsC (.seq x y)) a a':=hag.more (fun d=>Zkt)
   cases e with
   |normal=>obtain ⟨st,μ,g1,g2,g3⟩:=h2;exact ⟨st,μ,g1,g2,hag2.trans g3⟩
   |exit id=>obtain ⟨st,μ,g1,g2,g3⟩:=h2;exact ⟨st,μ,g1,g2,hag2.trans g3⟩
   |ret=>exact h2
   |goto l=>exact h2
   |panic ch=>exact h2
   |outgrown=>exact h2
  |exit id=>exact EPostIn.more (fun d=>Zkt) hq
  |ret=>exact hq.elim
  |goto l=>exact hq.elim
  |panic ch=>exact hq.elim
  |outgrown=>exact hq.elim
 |cond c x y ihx ihy=>
  intro γ st μ a w KN KX r hcm h hr
  simp only[calmC,Bool.and_eq_true]at hcm
  have hE:condE X c=none:=by
   cases c<;>simp[condE,hcd,findE]
  simp only[exec,hE]at hr
  unfold branch at hr
  split at hr
  ·rename_i t ht
   have hc:a.eval c= .bool t:=h.at ht
   refine wpIn_cond_split hc (fun htt=> ?_) (fun htf=> ?_)
   ·subst htt
    rw[if_pos rfl]at hr
    exact wpIn_mono (ihx hcm.1 (ZfO h ht) hr) (fun e a' w' hq=>EPostIn.more (fun d=>Zkt) hq)
   ·subst htf
    rw[if_neg (by simp)]at hr
    exact wpIn_mono (ihy hcm.2 (ZfO h ht) hr) (fun e a' w' hq=>EPostIn.more (fun d=>ZnZ) hq)
  ·cases hr
 |block id c ih=>
  intro γ st μ a w KN KX r hcm h hr
  simp only[exec,hl,findE]at hr
  refine wpIn_block (wpIn_mono (ih hcm h hr) (fun e a' w' hq=> ?_))
  cases e with
  |normal=>exact hq
  |exit id'=>
   obtain ⟨st1,μ1,h1,hr1,hag⟩:=hq
   unfold Exit.inBlock
   simp only at hr1⊢
   split
   ·rename_i hid
    rw[if_pos hid]at hr1
    exact ⟨st1,μ1,h1,hr1,hag⟩
   ·rename_i hid
    rw[if_neg hid]at hr1
    exact ⟨st1,μ1,h1,hr1,hag⟩
  |ret=>exact hq
  |goto l=>exact hq
  |panic ch=>exact hq
  |outgrown=>exact hq
 |exit id=>intro γ st μ a w KN KX r _ h hr;exact wpIn_exit ⟨st,μ,h,hr,Agree.refl _ a⟩
 |region id ops draw=>
  intro γ st μ a w KN KX r hcm h hr
  have hcc: ∀o∈ops.toList,calmOp fs o.op=true∧ ∀d,o.dst=some d→(dstsOf ops.toList).contains d=true:=fun o ho=>⟨List.all_eq_true.1 hcm o ho,ZVp ho⟩
  have hQo: ¬LetsOut (EPost X w0 S0 KN KX (fun _=>none) r):=fun ⟨_,_,hf⟩=>hf
  have hQ': ∀(a':Act) (w':World),EPost X w0 S0 KN KX (fun _=>none) r .normal a' w'→Agree (dstsOf ops.toList) a a'→EPostIn (B:=B) w0 S0 KN KX r (dstsC (.region id ops draw)) a .normal a' w':=fun a' w' ⟨st1,μ1,g1,g2⟩ hag=>⟨st1,μ1,g1,g2,hag⟩
  cases draw with
  |true=>
   simp only[exec,hrg,findE]at hr
   split at hr
   ·rename_i hok
    refine wpIn_region_any hG.mixed (ZAB (Q:=EPost X w0 S0 KN KX (fun _=>none) r) hfs (fun c a' w' hf=>hf) hQo _ hcc _ _ _ _ (Zhi (qt:=quietAt X.G ops) _ _ _ _ ?_) hQ')
    have h1:Rel w0 S0 st μ a {w with drawn:=w.drawn+1}:=h.world (Chg.drew w (fun _=>False)) (fun _ _ _ _ _ hf=>hf) (fun _ hf=>hf.elim)
    simp only[drawOK,Bool.and_eq_true]at hok
    obtain ⟨⟨hno,hall⟩,hord⟩:=hok
    have hL:LstOf ops (none0 ops.size) (drawOrd ops):=by
     refine ⟨by simp[none0],fun j hj=> ?_⟩
     rw[List.all_eq_true.1 hall j (List.mem_range.2 hj)]
     simp[none0,Array.getElem?_replicate,hj]
    obtain ⟨m,hm,hw⟩:=ZJi (Q:=EPost X w0 S0 KN KX (fun _=>none) r) (w0:=w0) (S0:=S0) hT hG hno (fun c a' w' hf=>hf) (fun a' w' hn=>hn) (drawOrd ops) _ st μ a _ hord hL (ZGr _ _) h1 hr
    obtain ⟨hnd,hlt⟩:=ZvQ hord
    exact ZvX m ops.size _ _ _ (by rw[hm];exact ZPr _ hlt hnd) hw
   ·cases hr
  |false=>
   simp only[exec]at hr
   exact wpIn_region_list (ZFj (Q:=EPost X w0 S0 KN KX (fun _=>none) r) hfs (fun c a' w' hf=>hf) hQo _ ops.toList a w hcc (Zdn (Q:=EPost X w0 S0 KN KX (fun _=>none) r) (w0:=w0) (S0:=S0) (fun a' w' hn=>hn) (fun o st1 μ1 a1 w1 K' h1 hk=>Zfk hT hG h1 hk) ops.toList st μ a w h hr) hQ')
 |ret=>intro γ st μ a w KN KX r hcm h hr;cases hcm
 |loop _ _=>intro γ st μ a w KN KX r hcm h hr;cases hcm
 |rangeFunc _ _ _ _ _ _=>intro γ st μ a w KN KX r hcm h hr;cases hcm
 |scope _ _=>intro γ st μ a w KN KX r hcm h hr;cases hcm
 |label _=>intro γ st μ a w KN KX r hcm h hr;cases hcm
 |goto _=>intro γ st μ a w KN KX r hcm h hr;cases hcm
 |refuse _=>intro γ st μ a w KN KX r hcm h hr;cases hcm
end
end
section
structure MkDef where
 e:TypeId
 g:FuncId
def MkDef.E(D:MkDef):CloE where
 act:=fun k st dst xs K=>match xs with
  |[.sv (.agg l)]=>if l.all (fun y=> !y.isUn)=true then K (({st with objs:=(st.objs++[Ob.box D.e l])++[Ob.clo D.g [.ptr st.objs.length 0]]}).put dst (.sv (.at (.cv (st.objs.length+1))))) else none
  |_=>none
structure MkOK (P:Program) (f:FuncId) (D:MkDef):Prop where
 enter:entersB P f
 calls: ∀(cs:List Value) (w:World),Calls P f #[.agg cs.toArray] w fun
  | .returned v,w'=>v= .func (.func D.g) #[] #[.pointer (some ⟨w.heap.size,0,none⟩)]∧w'=w.alloc (.cells cs.toArray D.e)
  |_,_=>False
section
variable {P:Program} {w w1 w0 W W0:World} {S0:Own} {st st1:St} {μ μ1 μ':List ORec} {a a1 a':Act}
theorem ZV5{f:FuncId}{D:MkDef}(hM:MkOK P f D)(k:Nat):ClSound P k f D.E:=by
 refine ⟨hM.enter,fun {γ K r w w0 S0 st μ a} dst xs vs h hl hTr hk=> ?_⟩
 simp only[MkDef.E]at hk
 split at hk
 ·rename_i l
  split at hk
  ·rename_i hu
   match vs,hl with
   | [v], _ =>
   obtain ⟨us,hv,hA⟩:=hTr 0 _ v rfl rfl
   rw [hv]
   refine (hM.calls us w).mono fun e w' he=> ?_
   cases e with
   |returned v'=>
    obtain ⟨hv',hw'⟩:=he
    subst hv' hw'
    have h1: ∀u∈us,u.oneCell'=true:=by
     intro u hu2
     obtain ⟨j,hj⟩:=List.getElem?_of_mem hu2
     have hjl:j<l.length:=by rw[←hA.1];exact (List.getElem?_eq_some_iff.1 hj).1
     have hx:=hA.2 j l[j] u (List.getElem?_eq_getElem hjl) hj
     refine (hx.oneCell ?_).1
     have:=List.all_eq_true.1 hu l[j] (List.getElem_mem hjl)
     simpa using this
    have h2:=ZOK (e:=D.e) h hA h1
    have h3:=h2.push (o:= .clo D.g [.ptr st.objs.length 0]) (r:=⟨.func (.func D.g) #[] #[.pointer (some ⟨w.heap.size,0,none⟩)],0,fun _=>False⟩) ⟨[.pointer (some ⟨w.heap.size,0,none⟩)],rfl,rfl,fun j x u hx hu=>by
     match j,hx,hu with
     |0,hx,hu=>
      injection hx with hx;subst hx
      injection hu with hu;subst hu
      exact ⟨⟨undef,w.heap.size,fun k=>k=w.heap.size⟩,by rw[List.getElem?_append_left (by simp[h.len]),←h.len];exact ZfY _ _,rfl⟩
     |j+1,hx,_=>simp at hx⟩ (fun hw=>by cases hw) (fun _ _ _ _ _ _ _ _ hf=>hf.elim) (fun hw=>by cases hw) (fun _ _ _ he=>by cases he) (fun _ hf=>hf.elim) (.inr (fun _ hf=>hf.elim))
    refine ⟨_,_,h3.put dst (x:= .sv (.at (.cv (st.objs.length+1)))) ⟨⟨⟨.func (.func D.g) #[] #[.pointer (some ⟨w.heap.size,0,none⟩)],0,fun _=>False⟩,?_,rfl,_,_,rfl⟩,.inr rfl⟩,hk⟩
    have:(μ++[⟨undef,w.heap.size,fun k=>k=w.heap.size⟩]:List ORec).length=st.objs.length+1:=by simp[h.len]
    rw[←this]
    exact ZfY _ _
   |panicked c=>exact he.elim
   |outgrown=>exact he.elim
  ·cases hk
 ·cases hk
def IterOK(P:Program)(f:FuncId)(C rd:Ty)(eB:TypeId)(it:{Y:Type}→(Y→C.D)→(Y→rd.D→Option Y)→Y→Option Y):Prop:=
 ∀{Y:Type} (cy:Y→C.D) (step:Y→rd.D→Option Y) (y y':Y) (l B n:Nat) (Inv:Y→World→Prop) (W:World),it cy step y=some y'→
  (∀y W W1,Inv y W→Chg W W1 (fun _=>False)→Inv y W1)→
  (∀y W,Inv y W→GlOK W (fun _=>False)∧ ∃(cs:List Value) (S:Nat→Prop),W.heap[B]? =some (.cells cs.toArray eB (0,0))∧cs.length=C.sz∧Rd C W S (cy y) cs∧ ∀k,S k→k<W.heap.size)→
  (∀y y1 b W0 W v S1,Inv y W0→Chg W0 W (fun _=>False)→Shaped true v→Rep rd W S1 b v.cells.toList→(∀k,S1 k→W0.heap.size≤k∧k<W.heap.size)→step y b=some y1→ ∀m,YieldAt Fence.wide m P l #[v] W (fun e W'=>e= .returned (.bool true)∧Inv y1 W'))→
  Inv y W→CallsIn Fence.wide n P f #[.func (.yield l) #[] #[],.pointer (some ⟨B,0,none⟩)] W (fun e W'=>e= .returned (.tuple #[])∧Inv y' W')
def NoB(μ:List ORec)(b:Nat):Prop:= ∀(i:Nat) r,μ[i]? =some r→ ¬r.ok b
structure Good (w0:World) (S0:Own) (st:St) (μ:List ORec):Prop where
 ow: ∀k,owns st μ k→S0 k∨w0.heap.size≤k
 fr: ∀k,freshOf st μ k→S0.gv k∨w0.heap.size≤k
 al: ∀(i:Nat) r,μ[i]? =some r→ ∀k,r.ok k→S0.al k∨S0 k∨w0.heap.size≤k
theorem Rel.good(h:Rel w0 S0 st μ a w):Good w0 S0 st μ:=⟨fun k ⟨j,o,r,ho,hw,hr,hk⟩=>h.wr j o r ho hr hw k hk,fun k ⟨j,e,t,xs,r,ho,hr,hk⟩=>h.fr j e t xs r ho hr k hk,h.al⟩
theorem Good.next(hg:Good w0 S0 st μ){no:Nat}{ds:List Deferred}(hs:w0.heap.size≤w.heap.size)(h1:Rel w (frOwn st μ no ds) st1 μ1 a1 w1):Good w0 S0 st1 μ1:=by
 refine ⟨fun k ⟨j,o,r,ho,hw,hr,hk⟩=> ?_,fun k ⟨j,e,t,xs,r,ho,hr,hk⟩=> ?_,fun i r hr k hk=> ?_⟩
 ·rcases h1.wr j o r ho hr hw k hk with h2 | h2
  ·exact hg.ow k h2
  ·right;omega
 ·rcases h1.fr j e t xs r ho hr k hk with h2 | h2
  ·exact hg.fr k h2
  ·right;omega
 ·rcases h1.al i r hr k hk with ⟨i', r', hr', hk'⟩ | h2 | h2
  ·exact hg.al i' r' hr' k hk'
  ·exact .inr (hg.ow k h2)
  ·exact .inr (.inr (by omega))
theorem NoB.next{b:Nat}(hb:NoB μ b)(hbw:b<w.heap.size){no:Nat}{ds:List Deferred}(h1:Rel w (frOwn st μ no ds) st1 μ1 a1 w1):NoB μ1 b:=by
 intro i r hr hk
 rcases h1.al i r hr b hk with ⟨i',r',hr',hk'⟩|⟨j,o,r',ho,hw,hr',hk'⟩|h2
 ·exact hb i' r' hr' hk'
 ·exact hb j r' hr' hk'
 ·omega
theorem Rel.assemble(h0:Rel w0 S0 st μ a W0){wb:World}{Sb:Own}(h1:Rel wb Sb st1 μ1 a1 w1)(hg:Good w0 S0 st1 μ1)(hc:Chg w0 w1 S0.ok)(hov:S0.ov=[]){ts:List TV}(htm:a.tmps.size=ts.length)(htv: ∀(i:Nat) x,ts[i]? =some x→TR μ1 w1 x (a.tmps.getD i undef)):
  Rel w0 S0 {tmps:=ts,objs:=st1.objs} μ1 a w1:=
 ⟨h1.len,htm,htv,h1.ob,h1.dj,fun i o r ho hr hw k hk=>hg.ow k ⟨i,o,r,ho,hw,hr,hk⟩,fun i e t xs r ho hr k hk=>hg.fr k ⟨i,e,t,xs,r,ho,hr,hk⟩,h1.lt,hc,h0.df,fun j v hv=>by rw[hov]at hv;simp at hv,h0.gb,hg.al⟩
def rgRead(C:Ty)(eB:TypeId)(f:FuncId)(g:Tmp)(st:St):Option C.D:=match st.tmps[g]? with
 |some (.sv (.at (.cv jc)))=>match st.objs[jc]? with
  |some (.clo f' [.ptr jb 0])=>if f'=f then match st.objs[jb]? with
    |some (.box e cells)=>if e=eB∧cells.length=C.sz then readTree st [] C cells else none
    |_=>none
   else none
  |_=>none
 |_=>none
theorem ZEu(h:Rel w0 S0 st μ a w){C:Ty}{eB:TypeId}{f:FuncId}{g:Tmp}{x:C.D}(hr:rgRead C eB f g st=some x):
  ∃ (B : Nat) (cs : List Value) (S : Nat → Prop), a.tmps.getD g undef = .func (.func f) #[] #[.pointer (some ⟨B, 0, none⟩)] ∧ w.heap[B]? = some (.cells cs.toArray eB (0, 0)) ∧ cs.length = C.sz ∧ Rd C w S x cs ∧ ∀ k, S k → k < w.heap.size := by
 unfold rgRead at hr
 split at hr
 ·rename_i jc hg
  split at hr
  ·rename_i f' jb hc
   split at hr
   ·rename_i hf
    subst hf
    split at hr
    ·rename_i e cells hb
     split at hr
     ·rename_i he
      obtain ⟨rfl,hl⟩:=he
      obtain ⟨⟨rc,hrc,hv,_⟩,_⟩:=h.tv g _ hg
      obtain ⟨vs,hrv,hA⟩:=h.ob jc _ rc hc hrc
      obtain ⟨rb,hrb⟩:=h.some_rec hb
      obtain ⟨_,us,hh,hAb,_⟩:=h.ob jb _ rb hb hrb
      match vs,hA with
      |[],hA=>have:=hA.1;simp at this
      |[u],hA=>
       obtain ⟨r2,hr2,hu⟩:=hA.2 0 _ u rfl rfl
       rw[hrb]at hr2
       injection hr2 with hr2
       subst hr2
       exact ⟨rb.blk,us,okBut μ [],by rw[hv,hrv,hu],hh,by rw[hAb.1];exact hl,Z1w h hAb hr,fun k ⟨i,q,_,hq,hk⟩=>h.lt i q hq k hk⟩
      |_::_::_,hA=>have:=hA.1;simp at this
     ·cases hr
    ·cases hr
   ·cases hr
  ·cases hr
 ·cases hr
theorem Rel.act(h:Rel w0 S0 st μ a w)(hd:a'.defers=S0.dfs)(htm:a'.tmps.size=st.tmps.length)(htv: ∀(i:Nat) x,st.tmps[i]? =some x→TR μ w x (a'.tmps.getD i undef)):Rel w0 S0 st μ a' w:=
 ⟨h.len,htm,htv,h.ob,h.dj,h.wr,h.fr,h.lt,h.kp,hd,h.ov,h.gb,h.al⟩
theorem Rel.rebase(h:Rel w0 S0 st μ a w)(no:Nat){T:Nat→Prop}(hc:Chg w w1 T)(hT: ∀(i:Nat) r,μ[i]? =some r→ ∀k,r.ok k→ ¬T k)(hgl: ∀w S,GlOK w S):Rel w1 (frOwn st μ no a.defers) st μ a w1:=by
 have hm: ∀(i:Nat) r,μ[i]? =some r→ ∀k,r.ok k→w1.heap[k]? =w.heap[k]? :=fun i r hr k hk=>hc.block k (h.lt i r hr k hk) (hT i r hr k hk)
 have hA: ∀x v,AR μ w x v→AR μ w1 x v:=fun x v hx=>hx.move (fun i r _ hr=>hm i r hr)
 exact ⟨h.len,h.tm,fun i x hx=>TR.imp none (h.tv i x hx) hA,fun i o r ho hr=>(h.ob i o r ho hr).move (hm i r hr) hA,h.dj,fun i o r ho hr hw k hk=> .inl ⟨i,o,r,ho,hw,hr,hk⟩,fun i e t xs r ho hr k hk=> .inl ⟨i,e,t,xs,r,ho,hr,hk⟩,fun i r hr k hk=>Nat.lt_of_lt_of_le (h.lt i r hr k hk) hc.size,.refl w1 _,rfl,fun j v hv=>(ZSx hv).2,hgl _ _,fun i r hr k hk=> .inl ⟨i,r,hr,hk⟩⟩
theorem Chg.putObj(w:World){l:Nat}(o:Obj):Chg w (w.putObj l o) (fun k=>k=l):=⟨rfl,rfl,rfl,by simp,fun k _ hn=>World.putObj_heap_other hn⟩
structure RgDef where
 s:Spec
 n:Nat
 C:Ty
 rd:Ty
 eB:TypeId
 f:FuncId
 g:Tmp
 p:Tmp
 cy:s.D→C.D
 it:{Y:Type}→(Y→C.D)→(Y→rd.D→Option Y)→Y→Option Y
def RgDef.enc(D:RgDef)(st:St)(b:D.rd.D):St:=giveRes (some D.p) [⟨D.rd,true,none,false,none⟩] (b,()) st
theorem ZVf{B:Type}{X:Ctx B}{D:RgDef}{k:Nat}{assign body:Code}{fs:List FuncId}{step:D.s.D→D.rd.D→Option D.s.D}(hT:TTok P X.T)(hG:EnvOK P k X.G)(hl:X.loops=[])(hcd:X.conds=[])(hrg:X.regs=[])(hct:X.cuts=[])(hXno:X.no=0)(hXn:X.n=D.n)
  (hfs : ∀ f ∈ fs, entersB P f) (hcalm : calmC fs (.seq assign body) = true) (hds : ∀ (y : D.s.D) (i : Nat) x, (D.s.st D.n y).tmps[i]? = some x → ((dstsC assign ++ dstsC body).contains i || i == D.p) = true → x = .sv (.at .un))
  (hgl : ∀ w S, GlOK w S) (hrd : ∀ y, rgRead D.C D.eB D.f D.g (D.s.st D.n y) = some (D.cy y)) (hit : IterOK P D.f D.C D.rd D.eB D.it) (hfe : entersB P D.f)
  (hstep : ∀ y b, step y b = exec X k (.seq assign body) (D.enc (D.s.st D.n y) b) (fun st => enterN X D.s st) (fun _ _ => none) (fun _ => none))
  (hov : S0.ov = []) {x y' : D.s.D} (h : Rel w0 S0 (D.s.st D.n x) μ a w) (hy : D.it D.cy step x = some y') {n : Nat} {Q : Exit → Act → World → Prop}
  (hQ : ∀ μ' b w', Rel w0 S0 (D.s.st D.n y') μ' a w' → NoB μ' b → w'.heap[b]? = some (.deferred (some [])) → w0.heap.size ≤ b → Q .normal { a with defers := { target := .collected b, args := #[] } :: a.defers } w') :
  (Code.rangeFunc (.tmp D.g) #[D.p] assign body).wpIn Fence.wide n P Q a w := by
 refine wpIn_rangeFunc ?_
 intro fn hfn
 obtain ⟨Bk,cs0,Sx,hgv,_⟩:=ZEu h (hrd x)
 have hs0 := h.kp.size
 obtain ⟨rec,hrec⟩: ∃rec:LoopState→Option Code→Loop,rec=fun st pe=>{state:=st,pending:=pe,fn,tmps:=a.tmps,params:= #[D.p],assign,body,defers:=w.heap.size}:=⟨_,rfl⟩
 obtain ⟨W1,hW1⟩: ∃W1,(w.alloc (.deferred (some []))).alloc (.loop (rec .ready none))=W1:=⟨_,rfl⟩
 have hL1 : W1.heap[w.heap.size + 1]? = some (.loop (rec .ready none)) := by
  rw [← hW1]; have := World.alloc_heap_new (w.alloc (.deferred (some []))) (.loop (rec .ready none)); rwa [World.size_alloc] at this
 have hc1 : Chg w W1 (fun _ => False) := by
  rw [← hW1]
  exact (Chg.alloc w _ _).trans (Chg.alloc _ _ (fun _=>False)) (fun _ hf=>hf.elim)
 have hK1 : W1.heap[w.heap.size]? = some (.deferred (some [])) := by
  rw [← hW1]
  exact ((Chg.alloc (w.alloc (.deferred (some []))) (.loop (rec .ready none)) (fun _=>False)).block _ (by rw[World.size_alloc];omega) (fun hf=>hf)).trans (World.alloc_heap_new w _)
 obtain ⟨Inv,hInv⟩: ∃Inv:D.s.D→World→Prop,Inv=fun y W=>(∃μ1,Rel w0 S0 (D.s.st D.n y) μ1 a W∧NoB μ1 w.heap.size∧NoB μ1 (w.heap.size+1))∧W.heap[w.heap.size+1]? =some (.loop (rec .ready none))∧W.heap[w.heap.size]? =some (.deferred (some [])):=⟨_,rfl⟩
 have hI1 : Inv x W1 := by
  rw [hInv]
  exact ⟨⟨μ,h.world hc1 (fun _ _ _ _ _ hf=>hf) (fun _ hf=>hf.elim),fun i r hr hk=>absurd (h.lt i r hr _ hk) (by omega),fun i r hr hk=>absurd (h.lt i r hr _ hk) (by omega)⟩,hL1,hK1⟩
 have hsize : ∀ {y W}, Inv y W → w.heap.size + 1 < W.heap.size := fun hi => by
  rw [hInv] at hi
  exact (Array.getElem?_eq_some_iff.1 hi.2.1).1
 refine ⟨w.heap.size+1,[{target:= .collected w.heap.size,args:= #[]}],W1,{target:= .fn (.func D.f) #[.pointer (some ⟨Bk,0,none⟩)],args:= #[.func (.yield (w.heap.size+1)) #[] #[]]},W1,D.f,
  #[.func (.yield (w.heap.size + 1)) #[] #[], .pointer (some ⟨Bk, 0, none⟩)], W1, ?_, ?_, fun _ _ => trivial, ?_, fun hf => (by cases hf), ?_⟩
 ·rw [← hW1, hrec]; exact run_enterLoop_outer _ _ _ _ _
 ·have hgv2 : a.eval (.tmp D.g) = .func (.func D.f) #[] #[.pointer (some ⟨Bk, 0, none⟩)] := hgv
  simp only[resolve,hgv2,Deferred.ofValue]
  simp[go_sem]
 ·have := hfe #[.func (.yield (w.heap.size + 1)) #[] #[], .pointer (some ⟨Bk, 0, none⟩)] W1
  simpa[invoke]using this
 ·refine (hit D.cy step x y' (w.heap.size + 1) Bk (n - 1) Inv W1 hy ?_ ?_ ?_ hI1).mono ?_
  ·intro y W W' hi hc
   have hsz:=hsize hi
   rw [hInv] at hi ⊢
   obtain ⟨⟨μ1,h1,h2,h3⟩,h4,h5⟩:=hi
   exact ⟨⟨μ1,h1.world hc (fun _ _ _ _ _ hf=>hf) (fun _ hf=>hf.elim),h2,h3⟩,(hc.block _ (by omega) (fun hf=>hf)).trans h4,(hc.block _ (by omega) (fun hf=>hf)).trans h5⟩
  ·intro y W hi
   rw [hInv] at hi
   obtain ⟨⟨μ1,h1,_,_⟩,_,_⟩:=hi
   obtain ⟨B',cs,S,g1,g2,g3,g4,g5⟩:=ZEu h1 (hrd y)
   rw [hgv] at g1
   injection g1 with _ _ g1
   have hB:B'=Bk:=by simpa using g1.symm
   subst hB
   exact ⟨hgl _ _,cs,S,g2,g3,g4,g5⟩
  ·-- one round
   intro y y1 b W0 W v S1 hi hcW hsh hrep hS1 hst m
   have hsz:=hsize hi
   rw [hInv] at hi
   obtain ⟨⟨μ1,r0,nD,nL⟩,hL,hK⟩:=hi
   have hsW:=hcW.size
   have hL':W.heap[w.heap.size+1]? =some (.loop (rec .ready none)):=(hcW.block _ (by omega) (fun hf=>hf)).trans hL
   have hK':W.heap[w.heap.size]? =some (.deferred (some [])):=(hcW.block _ (by omega) (fun hf=>hf)).trans hK
   have hyl:=run_yield (P:=P) (args:= #[v]) hL' (by rw[hrec];rfl)
   rw [hrec] at hyl
   have f0:Rel W0 (frOwn (D.s.st D.n y) μ1 0 a.defers) (D.s.st D.n y) μ1 a W0:=r0.framed 0 r0.tm r0.tv
   have f1:=f0.world hcW (fun _ _ _ _ _ hf=>hf) (fun _ hf=>hf.elim)
   have hres:ResL W [⟨D.rd,true,none,false,none⟩] S1 (b,()) [v]:=⟨v,[],S1,fun _=>False,rfl,hsh,hrep,fun k hk=>⟨hk,fun hf=>hf⟩,fun k hf=>hf.elim,rfl⟩
   obtain ⟨μ2,f2⟩:=ZaQ f1 hres (fun k hk=>⟨.inr (hS1 k hk).1,(hS1 k hk).2⟩) (fun j q hq k hk hqk=>by
    have:=(hS1 k hk).1
    have:=r0.lt j q hq k hqk
    omega) (some D.p)
   have nD2:NoB μ2 w.heap.size:=nD.next (by omega) f2
   have nL2:NoB μ2 (w.heap.size+1):=nL.next (by omega) f2
   have g2:Good w0 S0 (D.enc (D.s.st D.n y) b) μ2:=r0.good.next r0.kp.size f2
   obtain ⟨ar,har⟩: ∃ar:Act,ar={tmps:=(a.put (some D.p) v).tmps,defers:=[]}:=⟨_,rfl⟩
   have f3:Rel W (frOwn (D.enc (D.s.st D.n y) b) μ2 0 ar.defers) (D.enc (D.s.st D.n y) b) μ2 ar W:=f2.framed 0 (by rw[har];exact f2.tm) (by rw[har];exact f2.tv)
   have hst2:=(hstep y b).symm.trans hst
   simp only[exec,cutE,hct]at hst2
   simp only[calmC,Bool.and_eq_true]at hcalm
   refine ⟨fn,_,assign,body,hyl,roundIn_of_wpIn hfn ?_⟩
   have htmps:(#[D.p].zip #[v]).foldl (fun t (q:Tmp×Value)=>t.setIfInBounds q.1 q.2) a.tmps=ar.tmps:=by rw[har];simp[Act.put]
   show assign.wpIn (Fence.wide.inRound (w.heap.size+1)) m P _ {tmps:=(#[D.p].zip #[v]).foldl (fun t (q:Tmp×Value)=>t.setIfInBounds q.1 q.2) a.tmps,defers:=[]} W
   rw [htmps]
   have har2:({tmps:=ar.tmps,defers:=[]}:Act)=ar:=by rw[har]
   rw [har2]
   refine wpIn_mono (Zi6 (ro:=some (w.heap.size+1)) hT hG hl hcd hrg hct hfs hcalm.1 f3 hst2) (fun e a3 w3 hq=> ?_)
   cases e with
   |exit id=>obtain ⟨_,_,_,hf,_⟩:=hq;cases hf
   |ret=>exact hq.elim
   |goto t=>exact hq.elim
   |panic c=>exact hq.elim
   |outgrown=>exact hq.elim
   |normal=>
   obtain ⟨st3,μ3,r3,hst3,ag3⟩:=hq
   have s3:=r3.kp.size
   have nD3:NoB μ3 w.heap.size:=nD2.next (by omega) r3
   have nL3:NoB μ3 (w.heap.size+1):=nL2.next (by omega) r3
   have g3:Good w0 S0 st3 μ3:=g2.next (by have:=r0.kp.size;omega) r3
   have noD: ¬owns (D.enc (D.s.st D.n y) b) μ2 w.heap.size:=fun ⟨j,o,r,_,_,hr,hk⟩=>nD2 j r hr hk
   have noL: ¬owns (D.enc (D.s.st D.n y) b) μ2 (w.heap.size+1):=fun ⟨j,o,r,_,_,hr,hk⟩=>nL2 j r hr hk
   have hL3:w3.heap[w.heap.size+1]? =some (.loop (rec .ready none)):=(r3.kp.block _ (by omega) noL).trans hL'
   have hK3:w3.heap[w.heap.size]? =some (.deferred (some [])):=(r3.kp.block _ (by omega) noD).trans hK'
   refine ⟨_,run_beginRound hL3 (by rw[hrec]),?_⟩
   obtain ⟨w3',hw3'⟩: ∃w3',w3.putObj (w.heap.size+1) (.loop {rec .ready none with state:= .busy})=w3':=⟨_,rfl⟩
   rw [hw3']
   have hc3:Chg w3 w3' (fun k=>k=w.heap.size+1):=by rw[←hw3'];exact Chg.putObj w3 _
   have r4:=r3.rebase 0 hc3 (fun i r hr k hk hkl=>nL3 i r hr (hkl▸hk)) hgl
   have hda3:a3.defers=[]:=r3.df.trans (by rw[har];rfl)
   have s3':=hc3.size
   refine wpIn_mono (Zi6 (ro:=some (w.heap.size+1)) hT hG hl hcd hrg hct hfs hcalm.2 r4 hst3) (fun e a4 w4 hq=> ?_)
   cases e with
   |exit id=>obtain ⟨_,_,_,hf,_⟩:=hq;cases hf
   |ret=>exact hq.elim
   |goto t=>exact hq.elim
   |panic c=>exact hq.elim
   |outgrown=>exact hq.elim
   |normal=>
   obtain ⟨st4,μ4,r5,hst4,ag4⟩:=hq
   have hno4:(frOwn st3 μ3 0 a3.defers).ov.length=X.no:=by
    rw[hXno]
    simp[frOwn]
   obtain ⟨μ5,r6⟩:=Zc9 hno4 r5 hst4
   rw [hXn] at r6
   have s4:=r5.kp.size
   have nD5:NoB μ5 w.heap.size:=nD3.next (by omega) r6
   have nL5:NoB μ5 (w.heap.size+1):=nL3.next (by omega) r6
   have g5:Good w0 S0 (D.s.st D.n y1) μ5:=g3.next (by have:=r0.kp.size;omega) r6
   have noD3: ¬owns st3 μ3 w.heap.size:=fun ⟨j,o,r,_,_,hr,hk⟩=>nD3 j r hr hk
   have noL3: ¬owns st3 μ3 (w.heap.size+1):=fun ⟨j,o,r,_,_,hr,hk⟩=>nL3 j r hr hk
   have hL4:w4.heap[w.heap.size+1]? =some (.loop {rec .ready none with state:= .busy}):=(r5.kp.block _ (by omega) noL3).trans (by rw[←hw3'];exact World.putObj_heap_same (by omega))
   have hK4:w4.heap[w.heap.size]? =some (.deferred (some [])):=(r5.kp.block _ (by omega) noD3).trans (by rw[←hw3'];exact (World.putObj_heap_other (by omega)).trans hK3)
   have hend:=run_endRound (P:=P) none hL4
   have hrec2:({{rec .ready none with state:= .busy} with state:=if (none:Option Code).isNone then .ready else .done,pending:=none}:Loop)=rec .ready none:=by rw[hrec];rfl
   rw [hrec2] at hend
   refine ⟨_,_,hend,rfl,?_⟩
   rw [hInv]
   have hcc:Chg w0 w4 S0.ok:=(((r0.kp.trans hcW (fun _ hf=>hf.elim)).trans r3.kp (fun k hk=>g2.ow k hk)).trans hc3 (fun k hk=> .inr (by omega))).trans r5.kp (fun k hk=>g3.ow k hk)
   have hlen: ∀q:D.s.D,(D.s.st D.n q).tmps.length=D.n:=fun q=>by simp[Spec.st,TL.put_len]
   have r7:Rel w0 S0 (D.s.st D.n y1) μ5 a w4:=r0.assemble r6 g5 hcc hov (ts:=(D.s.st D.n y1).tmps) (by rw[r0.tm,hlen,hlen]) (fun i x hx=>by
    cases hb:((dstsC assign++dstsC body).contains i||i==D.p) with
    |true=>
     rw[hds y1 i x hx hb]
     exact ⟨trivial,.inl rfl⟩
    |false=>
     simp only[Bool.or_eq_false_iff]at hb
     have hx1:(dstsC assign).contains i=false:=by
      cases hc:(dstsC assign).contains i with
      |false=>rfl
      |true=>rw[Zkt hc]at hb;exact hb.1
     have hx2:(dstsC body).contains i=false:=by
      cases hc:(dstsC body).contains i with
      |false=>rfl
      |true=>rw[ZnZ hc]at hb;exact hb.1
     have hip:D.p≠i:=by intro he;subst he;simp at hb
     have e1:a4.tmps.getD i undef=a.tmps.getD i undef:=by
      rw[ag4.1 i hx2,ag3.1 i hx1,har]
      simp only[Act.put,Array.getD_eq_getD_getElem?,Array.getElem?_setIfInBounds_ne hip]
     rw[←e1]
     exact r6.tv i x hx)
   have hc5:Chg w4 (w4.putObj (w.heap.size+1) (.loop (rec .ready none))) (fun k=>k=w.heap.size+1):=Chg.putObj w4 _
   exact ⟨⟨μ5,r7.world hc5 (fun i r hr k hk hkl=>nL5 i r hr (hkl▸hk)) (fun k hk=> .inr (by omega)),nD5,nL5⟩,World.putObj_heap_same (by omega),(World.putObj_heap_other (by omega)).trans hK4⟩
  ·-- behind the iterator
   rintro e W2 ⟨rfl,hi⟩
   have hsz:=hsize hi
   rw[hInv]at hi
   obtain ⟨⟨μ1,r0,nD,nL⟩,hL,hK⟩:=hi
   refine ⟨none,_,by have:=run_endLoop (P:=P) hL (by rw[hrec];simp);rw[hrec]at this;exact this,?_⟩
   refine hQ μ1 w.heap.size _ (r0.world (Chg.putObj W2 _) (fun i r hr k hk hkl=>nL i r hr (hkl▸hk)) (fun k hk=> .inr (by omega))) nD ((World.putObj_heap_other (by omega)).trans hK) (by omega)
end
end
section
def preL:List Code→Code→Code
 |[],c=>c
 |p::ps,c=> .seq p (preL ps c)
noncomputable def execPre{B γ:Type}(X:Ctx B)(k:Nat):List Code→St→(St→Option γ)→(B→Option γ)→Option γ
 |[],st,KN,_=>KN st
 |c::cs,st,KN,KB=>exec X k c st (fun st1=>execPre X k cs st1 KN KB) (fun _ _=>none) KB
section
variable {P:Program} {w w1 w0 W W0:World} {S0:Own} {st st1:St} {μ μ1 μ':List ORec} {a a1 a':Act}
theorem LOK.bare{B:Type}{X:Ctx B}{k:Nat}(hl:X.loops=[])(hcd:X.conds=[])(hrg:X.regs=[])(hct:X.cuts=[]): ∀(c:Code),LOK P X k c:=by
 intro c
 induction c with
 |seq x y ihx ihy=>simp only[LOK,cutE,hct];exact ⟨ihx,ihy⟩
 |cond c x y ihx ihy=>
  cases c with
  |tmp d=>simp only[LOK,condE,hcd,findE];exact ⟨ihx,ihy⟩
  |_=>simp only[LOK,condE];exact ⟨ihx,ihy⟩
 |block id c ih=>simp only[LOK,hl,findE];exact ih
 |region id ops draw=>
  cases draw with
  |true=>simp only[LOK,hrg,findE]
  |false=>trivial
 |_=>trivial
theorem ZPo{B:Type}{X:Ctx B}{k n:Nat}(hT:TTok P X.T)(hG:EnvOK P k X.G)(hno:S0.ov.length=X.no){γ:Type}{KN:St→Option γ}{KB:B→Option γ}{r:γ}{c:Code}{Q:Exit→Act→World→Prop}:
  ∀{cs:List Code} {st:St} {μ:List ORec} {a:Act} {w:World},(∀p∈cs,LOK P X k p)→Rel w0 S0 st μ a w→execPre X k cs st KN KB=some r→
  (∀ st1 μ1 a1 w1, Rel w0 S0 st1 μ1 a1 w1 → KN st1 = some r → c.wpIn Fence.wide n P Q a1 w1) →
  (∀ st1 μ1 a1 w1 b, Rel w0 S0 st1 μ1 a1 w1 → X.res st1 = some b → KB b = some r → Q .ret a1 w1) → (preL cs c).wpIn Fence.wide n P Q a w
 | [], st, μ, a, w, _, h, hr, hN, _ => hN st μ a w h hr
 |p::cs,st,μ,a,w,hL,h,hr,hN,hB=>by
  refine wpIn_seq (wpIn_mono (wpIn_wide.2 (Z9C hT hG hno (hL p (List.mem_cons_self ..)) h hr)) (fun e a' w' hq=> ?_))
  cases e with
  |normal=>
   obtain ⟨st1,μ1,h1,hr1⟩:=hq
   exact ZPo hT hG hno (fun q hq=>hL q (List.mem_cons_of_mem _ hq)) h1 hr1 hN hB
  |ret=>
   obtain ⟨st1,μ1,b,h1,hb,hr1⟩:=hq
   exact hB st1 μ1 a' w' b h1 hb hr1
  |exit id=>obtain ⟨_,_,_,hf⟩:=hq;cases hf
  |goto l=>exact False.elim hq
  |panic ch=>exact False.elim hq
  |outgrown=>exact False.elim hq
theorem ZP9{D:FnDef}{X X2:Ctx (Tup D.rs×OutD)}{R:RgDef}{f:FuncId}{fn:Func}{pres:List Code}{p3 assign body post:Code}{bid k:Nat}{fs:List FuncId}{step:R.s.D→R.rd.D→Option R.s.D}
    (hX : X.res = resOf X.T D.ps D.rs fn.results.toList) (hXno : X.no = 0) (hXn : X.n = fn.ntmps) (hRn : X.n = R.n) (hl : X.loops = []) (hcd : X.conds = []) (hrg : X.regs = []) (hct : X.cuts = []) (hX2 : X2.res = X.res) (hX2no : X2.no = 0) (hT2 : TTok P X2.T) (hG2 : EnvOK P k X2.G) (hLp : LOK P X2 k post)
    (hf : P.funcs[f]? = some fn) (hb : fn.body = some (preL pres (.seq (.seq p3 (.block bid (.rangeFunc (.tmp R.g) #[R.p] assign body))) post)))
    (hn : (fn.name == "runtime.NumGoroutine") = false) (h1 : oneOwn D.ps = true) (hown : ownI D.ps = none) (hbox : boxI D.ps = none) (hT : TTok P X.T) (hG : EnvOK P k X.G) (hgl0 : GL = [])
    (hfs : ∀ f ∈ fs, entersB P f) (hcalm : calmC fs (.seq assign body) = true) (hds : ∀ (y : R.s.D) (i : Nat) x, (R.s.st R.n y).tmps[i]? = some x → ((dstsC assign ++ dstsC body).contains i || i == R.p) = true → x = .sv (.at .un))
    (hrd : ∀ y, rgRead R.C R.eB R.f R.g (R.s.st R.n y) = some (R.cy y)) (hit : IterOK P R.f R.C R.rd R.eB R.it) (hfe : entersB P R.f)
    (hstep : ∀ y b, step y b = exec X k (.seq assign body) (R.enc (R.s.st R.n y) b) (fun st => enterN X R.s st) (fun _ _ => none) (fun _ => none))
    (hs : ∀ x, D.f (k + 1) x = execPre X k pres (initSt D.ps X.n x) (fun st => exec X k p3 st (fun st => match enterN X R.s st with
      | some y => (match R.it R.cy step y with
        |some y'=>exec X2 k post (R.s.st R.n y') (endK X2 D.ret) (fun _ _=>none) D.ret
        | none => none)
      | none => none) (fun _ _ => none) D.ret) D.ret) : SoundAt P (k + 1) f D.E := by
  have hgl : ∀ w S, GlOK w S := fun w S => GlOK.nil hgl0
  refine ⟨Z4a hf hn (by rw [hb]; rfl), fun {γ} {K} {r} w Sro So x vs hA hd hlt hl2 hso hgl1 hk => ?_⟩
  simp only [FnDef.E] at hk
  split at hk
  · rename_i z hz
    obtain ⟨S0, hS0, hgv, _, _, hno, μ, h⟩ := ZMw (n := X.n) h1 hA hd hlt hl2 hgl1
    have hno0 : S0.ov.length = 0 := by rw [hno]; simp [noOf, hown, hbox]
    have hov : S0.ov = [] := List.length_eq_zero_iff.1 hno0
    have hno2 : S0.ov.length = X.no := hno0.trans hXno.symm
    have hz := (hs x).symm.trans hz
    rw [hXn] at h
    rw [hXn] at hz
    have fin : ∀ (S1 : Own) (st1 : St) (μ1 : List ORec) (a' : Act) (w' : World) (b : Tup D.rs × OutD), S1.ok = So → (∀ k, S1.gv k → giveI D.ps = true ∧ So k) → Rel w S1 st1 μ1 a' w' → X.res st1 = some b → D.ret b = some z → ∃ v, (results fn a'.tmps).run P w' = .ok v w' ∧ ∃ res out, K res out = some r ∧ Fin w w' So D.E vs res out v := by
      intro S1 st1 μ1 a' w' b hS1 hgv1 r1 hb2 hmk
      rw [hX] at hb2
      unfold resOf at hb2
      split at hb2
      · rename_i res st2 hres
        obtain ⟨us, μ2, S, hus, hR, r2, l2, t2, _⟩ := ZpW hT r1 hres
        refine ⟨packR us, Ze0 hus, b.1, b.2, by rw [← D.hret b z K hmk]; exact hk, ?_⟩
        have hchg : Chg w w' So := by rw [← hS1]; exact r1.kp
        have hnew : ∀ k, S k → ((giveI D.E.ps = true ∧ So k) ∨ w.heap.size ≤ k) ∧ k < w'.heap.size := fun k hk => ⟨(t2.new k hk).imp (hgv1 k) id, t2.lt k hk⟩
        rw [hown, hbox] at hb2
        injection hb2 with hb2
        subst hb2
        exact ⟨hchg, (fun e t he => by rw [show boxI D.E.ps = boxI D.ps from rfl, hbox] at he; cases he), S, us, hnew, rfl, hR, fun q _ hq => by rw [show ownI D.E.ps = ownI D.ps from rfl, hown] at hq; cases hq⟩
      · cases hb2
    refine (callsIn_wide (n := 0)).1 (callsIn_of_wp_marks hf hb trivial ?_ rfl)
    refine ZPo hT hG hno2 (fun p _=>LOK.bare hl hcd hrg hct p) h hz ?_ ?_
    · intro st1 μ1 a1 w1 r1 hr1
      refine wpIn_seq (wpIn_seq (wpIn_mono (wpIn_wide.2 (Z9C hT hG hno2 (LOK.bare hl hcd hrg hct p3) r1 hr1)) (fun e a2 w2 hq=> ?_)))
      cases e with
      | exit id => obtain ⟨_, _, _, hf⟩ := hq; cases hf
      | goto l => exact False.elim hq
      |panic ch=>exact False.elim hq
      |outgrown=>exact False.elim hq
      |ret=>
        obtain ⟨st2, μ2, b, r2, hb2, hr2⟩ := hq
        obtain ⟨v, g1, g2⟩ := fin S0 st2 μ2 a2 w2 b hS0 hgv r2 hb2 hr2
        show LeavesInM _ _ _ _ _ _ a2.defers _ _
        rw [r2.df.trans h.df.symm]
        exact ⟨v, g1, g2⟩
      |normal=>
        obtain ⟨st2, μ2, r2, hr2⟩ := hq
        have hr2 : (match enterN X R.s st2 with
          |some y=>(match R.it R.cy step y with
            |some y'=>exec X2 k post (R.s.st R.n y') (endK X2 D.ret) (fun _ _=>none) D.ret
            |none=>none)
          |none=>none)=some z:=hr2
        split at hr2
        · rename_i y hy
          split at hr2
          · rename_i y' hy'
            obtain ⟨μ3,r3⟩:=Zc9 hno2 r2 hy
            rw [hRn] at r3
            refine wpIn_block (ZVf hT hG hl hcd hrg hct hXno hRn hfs hcalm hds hgl hrd hit hfe hstep hov r3 hy' ?_)
            intro μ4 b w4 r4 nb hbk hb0
            obtain ⟨ds,hds1⟩: ∃ds:List Deferred,ds={target:= .collected b,args:= #[]}::a2.defers:=⟨_,rfl⟩
            have hda2:a2.defers=[]:=r2.df.trans h.df.symm
            have hdsb:ds=[{target:= .collected b,args:= #[]}]:=by rw[hds1,hda2]
            show post.wpIn Fence.wide _ P _ {a2 with defers:={target:= .collected b,args:= #[]}::a2.defers} w4
            rw [← hds1]
            have r5:Rel w4 (frOwn (R.s.st R.n y') μ4 0 ds) (R.s.st R.n y') μ4 {a2 with defers:=ds} w4:=r4.framed (a':={a2 with defers:=ds}) 0 r4.tm r4.tv
            have hno5:(frOwn (R.s.st R.n y') μ4 0 ds).ov.length=X2.no:=by rw[hX2no];simp[frOwn]
            have s4:=r4.kp.size
            have hb4:b<w4.heap.size:=(Array.getElem?_eq_some_iff.1 hbk).1
            refine wpIn_mono (wpIn_wide.2 (Z9C hT2 hG2 hno5 hLp r5 hr2)) (fun e a6 w6 hq=> ?_)
            have tail: ∀(st6:St) (μ6:List ORec) (b6:Tup D.rs×OutD),Rel w4 (frOwn (R.s.st R.n y') μ4 0 ds) st6 μ6 a6 w6→X.res st6=some b6→D.ret b6=some z→LeavesInM Fence.wide 0 P fn a6.tmps (fun
                | .returned v,w'=> ∃res out,K res out=some r∧Fin w w' So D.E vs res out v
                |_,_=>False) a6.defers .returning w6:=by
              intro st6 μ6 b6 r6 hb6 hr6
              have nD6:NoB μ6 b:=nb.next hb4 r6
              have g6:Good w S0 st6 μ6:=r4.good.next s4 r6
              have noD: ¬owns (R.s.st R.n y') μ4 b:=fun ⟨j,o,r,_,_,hr,hk⟩=>nb j r hr hk
              have hK6:w6.heap[b]? =some (.deferred (some [])):=(r6.kp.block _ hb4 noD).trans hbk
              have hcc:Chg w w6 S0.ok:=r4.kp.trans r6.kp (fun k hk=>r4.good.ow k hk)
              obtain ⟨S1,hS1⟩: ∃S1:Own,S1={S0 with dfs:=ds}:=⟨_,rfl⟩
              have r7:Rel w S1 st6 μ6 a6 w6:=by
                rw[hS1]
                exact ⟨r6.len,r6.tm,r6.tv,r6.ob,r6.dj,fun i o r ho hr hw k hk=>g6.ow k ⟨i,o,r,ho,hw,hr,hk⟩,fun i e t xs r ho hr k hk=>g6.fr k ⟨i,e,t,xs,r,ho,hr,hk⟩,r6.lt,hcc,r6.df,fun j v hv=>by rw[show ({S0 with dfs:=ds}:Own).ov=S0.ov from rfl,hov]at hv;simp at hv,hgl _ _,g6.al⟩
              have r8:=r7.world (Chg.putObj w6 (l:=b) (.deferred none)) (fun i r hr k hk hkb=>nD6 i r hr (hkb▸hk)) (fun k hk=> .inr (by omega))
              obtain ⟨v,g1,g2⟩:=fin S1 st6 μ6 a6 _ b6 (by rw[hS1];exact hS0) (by rw[hS1];exact hgv) r8 hb6 hr6
              have hd6:a6.defers=ds:=r6.df
              rw[hd6,hdsb]
              exact ⟨by simp,.inl ⟨b,_,rfl,run_takeDeferred hK6,v,g1,g2⟩⟩
            cases e with
            |exit id=>obtain ⟨_,_,_,hf⟩:=hq;cases hf
            |goto l=>exact False.elim hq
            |panic ch=>exact False.elim hq
            |outgrown=>exact False.elim hq
            |normal=>
              obtain ⟨st6,μ6,r6,hr6⟩:=hq
              unfold endK at hr6
              split at hr6
              · rename_i b6 hb6
                exact tail st6 μ6 b6 r6 (by rw[←hX2];exact hb6) hr6
              ·cases hr6
            |ret=>
              obtain ⟨st6,μ6,b6,r6,hb6,hr6⟩:=hq
              exact tail st6 μ6 b6 r6 (by rw[←hX2];exact hb6) hr6
          ·cases hr2
        ·cases hr2
    · intro st1 μ1 a1 w1 b r1 hb1 hr1
      obtain ⟨v,g1,g2⟩:=fin S0 st1 μ1 a1 w1 b hS0 hgv r1 hb1 hr1
      show LeavesInM _ _ _ _ _ _ a1.defers _ _
      rw[r1.df.trans h.df.symm]
      exact ⟨v,g1,g2⟩
  ·cases hk
end
end
section
structure ItD where
 tC:TypeId
 tB:TypeId
 tI:TypeId
 tO:TypeId
 tY:TypeId
 f84:FuncId
 f85:FuncId
 f49:FuncId
 p4:String
 p5:String
 p6:String
namespace ItD
variable (D:ItD)
def R0:Code:= .region 0 #[{dst:=some 3,op:= .assign (.const (.int .i64 0)),type:=D.tI,pos:=D.p4,after:= #[],guard:=none}] false
def A:Code:= .seq (.region 1 #[
  {dst:=some 5,op:= .move (.tmp 3),type:=D.tI,pos:=D.p4,after:= #[],guard:=none},
  {dst:=some 6,op:= .load D.tC (.tmp 1),type:=D.tC,pos:=D.p4,after:= #[],guard:=none},
  {dst:=some 7,op:= .call {callee:= .value (.func D.f84),args:= #[.tmp 6],argTypes:= #[D.tC]},type:=D.tI,pos:=D.p4,after:= #[{on:=1,ground:= .data}],guard:=none},
  {dst:=some 8,op:= .binOp .lss D.tI (.tmp 5) (.tmp 7) D.tI,type:=D.tO,pos:=D.p4,after:= #[{on:=0,ground:= .data},{on:=2,ground:= .data}],guard:=none}] false)
 (.cond (.tmp 8) .skip (.exit 0))
def R3:Code:= .region 3 #[
  {dst:=some 11,op:= .load D.tC (.tmp 1),type:=D.tC,pos:=D.p5,after:= #[],guard:=none},
  {dst:=some 12,op:= .move (.tmp 3),type:=D.tI,pos:=D.p5,after:= #[],guard:=none},
  {dst:=some 13,op:= .call {callee:= .value (.func D.f85),args:= #[.tmp 11,.tmp 12],argTypes:= #[D.tC,D.tI]},type:=D.tB,pos:=D.p5,after:= #[{on:=0,ground:= .data},{on:=1,ground:= .data}],guard:=none},
  {dst:=some 4,op:= .alloc D.tB,type:=0,pos:=D.p5,after:= #[],guard:=none},
  {dst:=none,op:= .store D.tB (.tmp 4) (.tmp 13),type:=0,pos:=D.p5,after:= #[{on:=3,ground:= .data},{on:=2,ground:= .data},{on:=2,ground:= .chain},{on:=0,ground:= .phase},{on:=1,ground:= .phase},{on:=2,ground:= .phase},{on:=3,ground:= .phase}],guard:=none}] false
def l1:List Oper:=[
  {dst:=some 14,op:= .load D.tC (.tmp 1),type:=D.tC,pos:=D.p6,after:= #[],guard:=none},
  {dst:=some 15,op:= .load D.tB (.tmp 4),type:=D.tB,pos:=D.p6,after:= #[],guard:=none},
  {dst:=some 16,op:= .call {callee:= .value (.func D.f49),args:= #[.tmp 14,.tmp 15],argTypes:= #[D.tC,D.tB]},type:=D.tO,pos:=D.p6,after:= #[{on:=0,ground:= .data},{on:=1,ground:= .data}],guard:=none},
  {dst:=some 17,op:= .move (.tmp 16),type:=D.tO,pos:=D.p6,after:= #[{on:=2,ground:= .data},{on:=2,ground:= .chain}],guard:=none}]
def o4:Oper:={dst:=some 18,op:= .move (.tmp 0),type:=D.tY,pos:=D.p6,after:= #[{on:=3,ground:= .guard}],guard:=some (3,true)}
def l2:List Oper:=[
  {dst:=some 19,op:= .load D.tB (.tmp 4),type:=D.tB,pos:=D.p6,after:= #[{on:=3,ground:= .guard}],guard:=some (3,true)}]
def o6:Oper:={dst:=some 20,op:= .call {callee:= .value (.tmp 18),args:= #[.tmp 19],argTypes:= #[D.tB]},type:=D.tO,pos:=D.p6,after:= #[{on:=4,ground:= .data},{on:=5,ground:= .data},{on:=3,ground:= .chain},{on:=3,ground:= .guard}],guard:=some (3,true)}
def o7:Oper:={dst:=some 21,op:= .unOp .not D.tO (.tmp 20),type:=D.tO,pos:=D.p6,after:= #[{on:=6,ground:= .data},{on:=3,ground:= .guard}],guard:=some (3,true)}
def o8:Oper:={dst:=some 22,op:= .pick (.tmp 17) (.tmp 21) (.const (.bool false)),type:=D.tO,pos:=D.p6,after:= #[{on:=3,ground:= .data},{on:=7,ground:= .data}],guard:=none}
def ops4:Array Oper:=(D.l1++(D.o4::(D.l2++[D.o6,D.o7,D.o8]))).toArray
def R2:Code:= .region 2 #[
  {dst:=some 9,op:= .move (.tmp 3),type:=D.tI,pos:=D.p4,after:= #[],guard:=none},
  {dst:=some 10,op:= .binOp .add D.tI (.tmp 9) (.const (.int .i64 1)) D.tI,type:=D.tI,pos:=D.p4,after:= #[{on:=0,ground:= .data}],guard:=none},
  {dst:=some 3,op:= .assign (.tmp 10),type:=D.tI,pos:=D.p4,after:= #[{on:=1,ground:= .data},{on:=0,ground:= .phase},{on:=1,ground:= .phase}],guard:=none}] false
def body:Code:= .seq D.R0 (.block 0 (.loop (.seq D.A (.seq (.block 1 (.seq D.R3 (.seq (.region 4 D.ops4 false) (.cond (.tmp 22) .ret .skip)))) D.R2))))
end ItD
inductive ItR (α:Type) where
 |stop
 |skip
 |give (b:α)
def itSt(C:Ty)(c:C.D)(n:Int):St:={tmps:=[.sv (.at .un),.sv (.at (.es 0 C c 0)),.sv (.at .un),.sv (.at (.int .i64 n))]++List.replicate 19 (.sv (.at .un)),objs:=[.ro]}
def itGet(R:Ty)(st:St):Option (ItR R.D):=match st.tmps[(19:Nat)]? with
 |some x=>match x.cells with
  |some l=>if aggOK true x=true then match takeTree R st l with
    |some (b,_)=>some (.give b)
    |none=>none
   else none
  |none=>none
 |none=>none
noncomputable def itRnd(D:ItD){B:Type}(X:Ctx B)(k:Nat)(C R:Ty)(c:C.D)(n:Int):Option (ItR R.D):=
 exec X k D.A (itSt C c n) (fun st=>exec X k D.R3 st (fun st=>execOps (stepOp X.T X.G X.mvs k) D.ops4 D.l1 st (fun st=>match st.ev (.tmp 17) with
  | .sv (.at (.bool t))=>if t=true then execOps (stepOp X.T X.G X.mvs k) D.ops4 D.l2 ((st.told (.tmp 17) true).put (some 18) (.sv (.at .un))) (itGet R) else some .skip
  |_=>none)) (fun _ _=>none) (fun _=>none)) (fun id _=>if id=0 then some .stop else none) (fun _=>none)
noncomputable def itNext(D:ItD){B:Type}(X:Ctx B)(k:Nat)(C:Ty)(c:C.D)(n:Int):Option Int:=
 exec X k D.R2 (itSt C c n) (fun (st:St)=>match st.tmps[(3:Nat)]? with
  |some (.sv (.at (.int .i64 m)))=>some m
  |_=>none) (fun _ _=>none) (fun _=>none)
def itLoop{α β Y:Type}(rnd:α→Int→Option (ItR β))(nxt:Int→Int)(cy:Y→α)(step:Y→β→Option Y):Nat→Y→Int→Option Y
 |0,_,_=>none
 |f+1,y,n=>match rnd (cy y) n with
  |some .stop=>some y
  |some .skip=>itLoop rnd nxt cy step f y (nxt n)
  |some (.give b)=>match step y b with
   |some y1=>itLoop rnd nxt cy step f y1 (nxt n)
   |none=>none
  |none=>none
section
variable {P:Program} {w w1 w0 W W0:World} {S0:Own} {st st1:St} {μ μ1 μ':List ORec} {a a1 a':Act} {ro:Option Nat} {n:Nat}
theorem ZAf{ops:Array Oper}{l2:List Oper}{Q Q':Exit→Act→World→Prop}{fs:List FuncId}(hfs: ∀f∈fs,entersB P f)(hQp: ∀c a w,¬Q (.panic c) a w)(hQo: ¬LetsOut Q)(ds:List Tmp): ∀(l:List Oper) (a:Act) (w:World),(∀o∈l,calmOp fs o.op=true∧ ∀d,o.dst=some d→ds.contains d=true)→wpList P ops Q l a w→
  (∀ a' w', Q .normal a' w' → Agree ds a a' → wpListIn (Fw ro) n P ops Q' l2 a' w') → wpListIn (Fw ro) n P ops Q' (l ++ l2) a w
 | [], a, w, _, h, hQ => hQ a w h (Agree.refl ds a)
 |o::l,a,w,hc,h,hQ=>by
  obtain ⟨hco,hd⟩:=hc o (List.mem_cons_self ..)
  unfold wpList at h
  rw[List.cons_append]
  unfold wpListIn
  split
  ·rename_i hw
   rw[if_pos hw]at h
   rcases h with h|⟨_,h⟩
   ·refine Oper.wpIn_mono (fun a' w' ⟨h1, v, hv⟩ => ?_) (ZOT hfs hco hQp hQo h)
    have ha:Agree ds a a':=by rw[hv];exact Agree.put hd v
    exact ZAf hfs hQp hQo ds l a' w' (fun o ho=>hc o (List.mem_cons_of_mem _ ho)) h1 (fun a'' w'' hq hag=>hQ a'' w'' hq (ha.trans hag))
   ·exact (hQo h).elim
  ·rename_i hw
   rw[if_neg hw]at h
   exact ⟨fun _ _=>trivial,ZAf hfs hQp hQo ds l _ w (fun o ho=>hc o (List.mem_cons_of_mem _ ho)) h (fun a'' w'' hq hag=>hQ a'' w'' hq ((Agree.put hd undef).trans hag))⟩
theorem ZUp{C:Ty}{eB:TypeId}{c:C.D}{m:Int}{B:Nat}{cs:List Value}{S:Nat→Prop}(hsz:a.tmps.size=23)(h1:a.tmps.getD 1 undef= .pointer (some ⟨B,0,none⟩))(h3:a.tmps.getD 3 undef= .int .i64 m)
  (hB : w.heap[B]? = some (.cells cs.toArray eB (0, 0))) (hl : cs.length = C.sz) (hrd : Rd C w S c cs) (hlt : ∀ k, S k → k < w.heap.size) (hgl : GlOK w (fun _ => False)) :
  Rel w {ok:=fun _=>False,ov:=[],dfs:=a.defers} (itSt C c m) [⟨undef,0,fun k=>k=B∨S k⟩] a w:=by
 have hun: ∀i:Nat,TR [⟨undef,0,fun k=>k=B∨S k⟩] w (.sv (.at .un)) (a.tmps.getD i undef):=fun i=>⟨trivial,.inl rfl⟩
 refine ⟨rfl,by rw[hsz];rfl,fun i x hx=> ?_,fun i o r ho hr=> ?_,fun i j o ri rj hij ho hw hr1 hr2 k hk=> ?_,fun i o r ho hr hw k hk=> ?_,fun i e t xs r ho hr k hk=> ?_,fun i r hr k hk=> ?_,.refl w _,rfl,fun j v hv=>(by simp at hv),hgl,fun _ _ _ _ _=> .inl trivial⟩
 ·match i, hx with
  |0,hx=>injection hx with hx;subst hx;exact hun 0
  |1,hx=>
   injection hx with hx
   subst hx
   rw[h1]
   refine ⟨⟨_,⟨B,0,none⟩,cs,rfl,.inl rfl,rfl,hl,fun j u hu=> ?_,hrd.wide (fun k hk=> .inr hk)⟩,.inr rfl⟩
   rw[ZgF,ZlE hB,Nat.zero_add]
   simpa using hu
  |2,hx=>injection hx with hx;subst hx;exact hun 2
  |3,hx=>injection hx with hx;subst hx;rw[h3];exact ⟨rfl,.inr rfl⟩
  |i+4,hx=>
   have hx:(List.replicate 19 (TV.sv (.at .un)))[i]? =some x:=hx
   rw[List.getElem?_replicate]at hx
   split at hx
   ·injection hx with hx;subst hx;exact hun _
   ·cases hx
 ·match i, ho with
  |0,ho=>injection ho with ho;subst ho;trivial
  |i+1,ho=>simp[itSt]at ho
 ·match i, ho with
  |0,ho=>injection ho with ho;subst ho;cases hw
  |i+1,ho=>simp[itSt]at ho
 ·match i, ho with
  |0,ho=>injection ho with ho;subst ho;cases hw
  |i+1,ho=>simp[itSt]at ho
 ·match i, ho with
  |0,ho=>injection ho with ho;cases ho
  |i+1,ho=>simp[itSt]at ho
 ·match i, hr with
  |0,hr=>
   injection hr with hr
   subst hr
   rcases hk with rfl|hk
   ·exact (Array.getElem?_eq_some_iff.1 hB).1
   ·exact hlt k hk
  |i+1,hr=>simp at hr
theorem least{p:Nat→Prop}(h: ∃n,p n): ∃m,p m∧ ∀j,p j→m≤j:=by
 obtain ⟨n,hn⟩:=h
 induction n using Nat.strongRecOn with
 |_ n ih=>
  by_cases hx: ∃j,j<n∧p j
  ·obtain ⟨j, hj, hp⟩ := hx
   exact ih j hj hp
  ·exact ⟨n,hn,fun j hj=>Nat.le_of_not_lt (fun hl=>hx ⟨j,hl,hj⟩)⟩
open Classical in
noncomputable def leastN(p:Nat→Prop):Nat:=if h: ∃n,p n then Classical.choose (least h) else 0
theorem ZIU{p:Nat→Prop}(h: ∃n,p n):p (leastN p)∧ ∀j,p j→leastN p≤j:=by
 unfold leastN
 rw[dif_pos h]
 exact Classical.choose_spec (least h)
theorem ZA0(D:ItD)(tmps:Array Value)(t:Bool)(h:tmps.size=23)(h17:tmps.getD 17 undef= .bool t):yielded D.ops4 tmps 3=some t:=by
 have h2:tmps[17]? =some (.bool t):=by
  rw[Array.getD_eq_getD_getElem?,Array.getElem?_eq_getElem (by omega)]at h17
  rw[Array.getElem?_eq_getElem (by omega)]
  simpa using h17
 show (match (some 17).bind (fun (i:Nat)=>tmps[i]?) with
  |some (.bool b)=>some b
  |_=>none)=some t
 simp[h2]
theorem ZfS{a:Act}{d:Tmp}{v:Value}(h:d<a.tmps.size):(a.put (some d) v).tmps.getD d undef=v:=by
 simp[Act.put,Array.getD_eq_getD_getElem?,h]
theorem ZbK{a:Act}{d e:Tmp}{v:Value}(h:d≠e):(a.put (some d) v).tmps.getD e undef=a.tmps.getD e undef:=by
 simp only[Act.put,Array.getD_eq_getD_getElem?,Array.getElem?_setIfInBounds_ne h]
theorem ZaT{a:Act}{d:Option Tmp}{v:Value}:(a.put d v).tmps.size=a.tmps.size:=by cases d<;>simp[Act.put]
theorem Z59{a:Act}{d:Option Tmp}{v:Value}:(a.put d v).defers=a.defers:=by cases d<;>rfl
theorem Zdy{ops:Array Oper}{Q:Exit→Act→World→Prop}{o:Oper}{rest:List Oper}{v:Value}(hw:Region.wanted o (yielded ops a.tmps)=true)(hnd: ∀c,o.op≠ .defer c)(hr:(execOp a.eval o).run P w= .ok (.value v) w1)(h:wpListIn Fence.wide n P ops Q rest (a.put o.dst v) w1):wpListIn Fence.wide n P ops Q (o::rest) a w:=by
 unfold wpListIn
 rw[if_pos hw]
 refine ⟨fun _ _=>trivial,?_⟩
 rw[Oper.semAt_eq _ _ _ hnd,hr]
 exact h
theorem Zv5{ops:Array Oper}{Q:Exit→Act→World→Prop}{o:Oper}{rest:List Oper}(hw:Region.wanted o (yielded ops a.tmps)=false)(h:wpListIn Fence.wide n P ops Q rest (a.put o.dst undef) w):wpListIn Fence.wide n P ops Q (o::rest) a w:=by
 unfold wpListIn
 rw[if_neg (by simp[hw])]
 exact ⟨fun _ _=>trivial,h⟩
theorem ZWR{D:ItD}{ρ:Operand→Value}(h:ρ (.tmp 20)= .bool true):(execOp ρ D.o7).run P w= .ok (.value (.bool false)) w:=by
 simp[execOp,ItD.o7,h,Op.unary]
theorem ZX6{D:ItD}{BB:Type}{X:Ctx BB}{k:Nat}{C R:Ty}{eB:TypeId}{f:FuncId}{fn:Func}{nxt:Int→Int}{rnd:C.D→Int→Option (ItR R.D)}(hf:P.funcs[f]? =some fn)(hb:fn.body=some D.body)(hnt:fn.ntmps=23)(hres:fn.results= #[])
    (hT : TTok P X.T) (hG : EnvOK P k X.G) (hl : X.loops = []) (hcd : X.conds = []) (hrg : X.regs = []) (hct : X.cuts = []) (hfs : ∀ g ∈ [D.f84, D.f85, D.f49], entersB P g)
    (hrnd : ∀ c m r, rnd c m = some r → itRnd D X k C R c m = some r) (hnx : ∀ c m, itNext D X k C c m = some (nxt m)) : IterOK P f C R eB (fun cy step y => itLoop rnd nxt cy step k y 0) := by
  intro Y cy step y0 y' l Bk n Inv W0 hit hinv hcells hround hI0
  obtain ⟨yv, hyv⟩ : ∃ yv, yv = Value.func (.yield l) #[] #[] := ⟨_, rfl⟩
  obtain ⟨pv, hpv⟩ : ∃ pv, pv = Value.pointer (some ⟨Bk, 0, none⟩) := ⟨_, rfl⟩
  rw [← hyv, ← hpv]
  refine callsIn_of_wp_marks hf hb trivial ?_ rfl
  obtain ⟨J, hJ⟩ : ∃ J : Nat → Act → World → Prop, J = fun f a w => ∃ y m, itLoop rnd nxt cy step f y m = some y' ∧ Inv y w ∧ a.defers = [] ∧ a.tmps.size = 23 ∧ a.tmps.getD 0 undef = yv ∧ a.tmps.getD 1 undef = pv ∧ a.tmps.getD 3 undef = .int .i64 m := ⟨_, rfl⟩
  have hJi : ∀ {f a w}, J f a w ↔ ∃ y m, itLoop rnd nxt cy step f y m = some y' ∧ Inv y w ∧ a.defers = [] ∧ a.tmps.size = 23 ∧ a.tmps.getD 0 undef = yv ∧ a.tmps.getD 1 undef = pv ∧ a.tmps.getD 3 undef = .int .i64 m := by
    intro f a w; rw [hJ]
  clear hJ
  obtain ⟨a0, ha0⟩ : ∃ a0 : Act, a0 = { tmps := #[yv, pv] ++ Array.replicate (fn.ntmps - (#[yv, pv] : Array Value).size) undef, defers := [] } := ⟨_, rfl⟩
  rw [← ha0]
  have hsz0 : a0.tmps.size = 23 := by rw [ha0]; simp [hnt]
  have h00 : a0.tmps.getD 0 undef = yv := by rw [ha0]; simp [Array.getD_eq_getD_getElem?, Array.getElem?_append]
  have h01 : a0.tmps.getD 1 undef = pv := by rw [ha0]; simp [Array.getD_eq_getD_getElem?, Array.getElem?_append]
  have hd0 : a0.defers = [] := by rw [ha0]
  refine wpIn_seq (wpIn_region_list ?_)
  show wpListIn _ _ _ _ _ [_] a0 W0
  refine Zdy (v := .int .i64 0) (w1 := W0) rfl (fun c hc => by cases hc) rfl ?_
  show Exit.then _ _ .normal (a0.put (some 3) (.int .i64 0)) W0
  refine wpIn_block (wpIn_loop (fun a w=> ∃f,J f a w) (fun a w=>leastN fun f=>J f a w) ⟨k,hJi.2 ⟨y0,0,hit,hI0,by rw[Z59];exact hd0,by rw[ZaT];exact hsz0,by rw[ZbK (by decide)];exact h00,by rw[ZbK (by decide)];exact h01,ZfS (by rw[hsz0];decide)⟩⟩ ?_)
  intro a w hJa
  obtain ⟨f0, hf0⟩ : ∃ f0, f0 = leastN fun f => J f a w := ⟨_, rfl⟩
  have hJ0 := (ZIU hJa).1
  rw [← hf0] at hJ0 ⊢
  obtain ⟨y1, m, hit1, hI1, hda, hsa, ha0', ha1, ha3⟩ := hJi.1 hJ0
  obtain ⟨f, rfl⟩ : ∃ f, f0 = f + 1 := by
    cases f0 with
    | zero => cases hit1
    | succ f => exact ⟨f, rfl⟩
  simp only [itLoop] at hit1
  obtain ⟨hgl, cs, S, hB, hlen, hrd, hlt⟩ := hcells y1 w hI1
  have r0 := ZUp (C := C) (c := cy y1) hsa (ha1.trans hpv) ha3 hB hlen hrd hlt hgl
  obtain ⟨res, hres1⟩ : ∃ res, rnd (cy y1) m = some res := by
    cases hx : rnd (cy y1) m with
    | none => rw [hx] at hit1; cases hit1
    | some r => exact ⟨r, rfl⟩
  rw [hres1] at hit1
  have hr := hrnd _ _ _ hres1
  unfold itRnd at hr
  have hend : ∀ (a5 : Act) (w5 : World) (y5 : Y), Inv y5 w5 → itLoop rnd nxt cy step f y5 (nxt m) = some y' → a5.defers = [] → a5.tmps.size = 23 → a5.tmps.getD 0 undef = yv → a5.tmps.getD 1 undef = pv → a5.tmps.getD 3 undef = .int .i64 m →
      D.R2.wpIn Fence.wide n P (Exit.then (fun a' w'=>(∃f,J f a' w')∧(leastN fun f=>J f a' w')<f+1) (Exit.inBlock 0 (bodyPostM Fence.wide n P fn fun e W'=>e= .returned (.tuple #[])∧Inv y' W'))) a5 w5:=by
    intro a5 w5 y5 hI5 hit5 hd5 hs5 h50 h51 h53
    obtain ⟨hgl5, cs5, S5, hB5, hlen5, hrd5, hlt5⟩ := hcells y5 w5 hI5
    have r5 := ZUp (C := C) (c := cy y5) hs5 (h51.trans hpv) h53 hB5 hlen5 hrd5 hlt5 hgl5
    have hn5 := hnx (cy y5) m
    unfold itNext at hn5
    refine wpIn_mono (Zi6 (ro:=none) hT hG hl hcd hrg hct (fs:=[]) (fun _ h=>(by cases h)) rfl r5 hn5) (fun e a6 w6 hq=> ?_)
    cases e with
    | exit id => obtain ⟨_, _, _, hf, _⟩ := hq; cases hf
    | ret => exact hq.elim
    | goto t => exact hq.elim
    | panic c => exact hq.elim
    | outgrown => exact hq.elim
    |normal=>
      obtain ⟨st6, μ6, r6, h6, ag6⟩ := hq
      have h63 : a6.tmps.getD 3 undef = .int .i64 (nxt m) := by
        replace h6 : (match st6.tmps[(3 : Nat)]? with
          | some (.sv (.at (.int .i64 m))) => some m
          | _ => none) = some (nxt m) := h6
        revert h6
        generalize hx:st6.tmps[(3:Nat)]? =x
        intro h6
        split at h6
        · injection h6 with h6
          subst h6
          exact (r6.tv 3 _ hx).1
        · cases h6
      have hJ6 : J f a6 w6 := hJi.2 ⟨y5, nxt m, hit5, hinv _ _ _ hI5 r6.kp, r6.df.trans hd5, ag6.2.trans hs5, (ag6.1 0 (by rfl)).trans h50, (ag6.1 1 (by rfl)).trans h51, h63⟩
      exact ⟨⟨f, hJ6⟩, Nat.lt_succ_of_le ((ZIU ⟨f, hJ6⟩).2 f hJ6)⟩
  refine wpIn_seq (wpIn_mono (Zi6 (ro := none) hT hG hl hcd hrg hct hfs (by simp [ItD.A, calmC, calmOp]) r0 hr) (fun e a2 w2 hq => ?_))
  cases e with
  | ret => exact hq.elim
  | goto t => exact hq.elim
  | panic c => exact hq.elim
  | outgrown => exact hq.elim
  |exit id=>
    obtain ⟨st2, μ2, r2, h2, ag2⟩ := hq
    replace h2 : (if id = 0 then some ItR.stop else none) = some res := h2
    split at h2
    · rename_i hid
      injection h2 with h2
      subst h2 hid
      injection hit1 with hit1
      subst hit1
      show LeavesInM _ _ _ _ _ _ a2.defers _ _
      rw [r2.df.trans hda]
      refine ⟨.tuple #[], Ze0 (us := []) (by rw [hres]; rfl), rfl, hinv _ _ _ hI1 r2.kp⟩
    · cases h2
  |normal=>
    obtain ⟨st2, μ2, r2, h2, ag2⟩ := hq
    refine wpIn_seq (wpIn_block (wpIn_seq (wpIn_mono (Zi6 (ro:=none) hT hG hl hcd hrg hct hfs (by simp[ItD.R3,calmC,calmOp]) r2 h2) (fun e a3 w3 hq=> ?_))))
    cases e with
    | exit id => obtain ⟨_, _, _, hf, _⟩ := hq; cases hf
    | ret => exact hq.elim
    | goto t => exact hq.elim
    | panic c => exact hq.elim
    | outgrown => exact hq.elim
    |normal=>
    obtain ⟨st3, μ3, r3, h3, ag3⟩ := hq
    refine wpIn_seq (wpIn_region_list ?_)
    have hto : D.ops4.toList = D.l1 ++ (D.o4 :: (D.l2 ++ [D.o6, D.o7, D.o8])) := by simp [ItD.ops4]
    rw [hto]
    obtain ⟨K1, hK1⟩ : ∃ K1 : St → Option (ItR R.D), K1 = fun st => match st.ev (.tmp 17) with
      | .sv (.at (.bool t)) => if t = true then execOps (stepOp X.T X.G X.mvs k) D.ops4 D.l2 ((st.told (.tmp 17) true).put (some 18) (.sv (.at .un))) (itGet R) else some .skip
      | _ => none := ⟨_, rfl⟩
    replace h3:execOps (stepOp X.T X.G X.mvs k) D.ops4 D.l1 st3 K1=some res:=by rw[hK1];exact h3
    refine ZAf (ro := none) (Q := EPost X w _ K1 (fun _ _ => none) (fun _ => none) res) hfs (fun _ _ _ h => h) (fun ⟨_, _, hf⟩ => hf) [14, 15, 16, 17] D.l1 a3 w3 (by simp [ItD.l1, calmOp]) (Zdn (step := stepOp X.T X.G X.mvs k) (Q := EPost X w _ K1 (fun _ _ => none) (fun _ => none) res) (w0 := w) (fun a w h => h) (fun o st1 μ1 a1 w1 K' h1 hk => Zfk hT hG h1 hk) D.l1 st3 μ3 a3 w3 r3 h3) ?_
    rintro a4 w4 ⟨st4, μ4, r4, h4⟩ ag4
    have hs4 : a4.tmps.size = 23 := ag4.2.trans (ag3.2.trans (ag2.2.trans hsa))
    have h40 : a4.tmps.getD 0 undef = yv := (ag4.1 0 rfl).trans ((ag3.1 0 rfl).trans ((ag2.1 0 rfl).trans ha0'))
    have h41 : a4.tmps.getD 1 undef = pv := (ag4.1 1 rfl).trans ((ag3.1 1 rfl).trans ((ag2.1 1 rfl).trans ha1))
    have h43 : a4.tmps.getD 3 undef = .int .i64 m := (ag4.1 3 rfl).trans ((ag3.1 3 rfl).trans ((ag2.1 3 rfl).trans ha3))
    have hd4 : a4.defers = [] := r4.df.trans hda
    have fin4 : ∀ (a8 : Act) (w8 : World) (y8 : Y), Agree [18, 19, 20, 21, 22] a4 a8 → a8.defers = [] → a8.tmps.getD 22 undef = .bool false → Inv y8 w8 → itLoop rnd nxt cy step f y8 (nxt m) = some y' →
        (Code.cond (.tmp 22) .ret .skip).wpIn Fence.wide n P (Exit.inBlock 1 (Exit.then (D.R2.wpIn Fence.wide n P (Exit.then (fun a' w' => (∃ f, J f a' w') ∧ (leastN fun f => J f a' w') < f + 1) (Exit.inBlock 0 (bodyPostM Fence.wide n P fn fun e W' => e = .returned (.tuple #[]) ∧ Inv y' W')))) (Exit.then (fun a' w' => (∃ f, J f a' w') ∧ (leastN fun f => J f a' w') < f + 1) (Exit.inBlock 0 (bodyPostM Fence.wide n P fn fun e W' => e = .returned (.tuple #[]) ∧ Inv y' W'))))) a8 w8 := by
      intro a8 w8 y8 ag8 hd8 h822 hI8 hit8
      exact wpIn_cond_false (show a8.eval (.tmp 22)= .bool false from h822) (wpIn_skip (hend a8 w8 y8 hI8 hit8 hd8 (ag8.2.trans hs4) ((ag8.1 0 rfl).trans h40) ((ag8.1 1 rfl).trans h41) ((ag8.1 3 rfl).trans h43)))
    rw [hK1] at h4
    replace h4 : (match st4.ev (.tmp 17) with
      | .sv (.at (.bool t)) => if t = true then execOps (stepOp X.T X.G X.mvs k) D.ops4 D.l2 ((st4.told (.tmp 17) true).put (some 18) (.sv (.at .un))) (itGet R) else some .skip
      | _ => none) = some res := h4
    split at h4
    · rename_i t ht
      have h417 : a4.tmps.getD 17 undef = .bool t := r4.at ht
      cases t with
      |false=>
        rw [if_neg (by simp)] at h4
        injection h4 with h4
        subst h4
        have hw : ∀ (o : Oper) (a : Act), o.guard = some (3, true) → a.tmps.size = 23 → a.tmps.getD 17 undef = .bool false → Region.wanted o (yielded D.ops4 a.tmps) = false := fun o a hg hs h17 => by simp [Region.wanted, hg, ZA0 D a.tmps false hs h17]
        refine Zv5 (hw D.o4 _ rfl hs4 h417) ?_
        refine Zv5 (hw _ _ rfl (by rw [ZaT]; exact hs4) ((ZbK (by decide)).trans h417)) ?_
        refine Zv5 (hw D.o6 _ rfl (by rw [ZaT, ZaT]; exact hs4) (((ZbK (by decide)).trans (ZbK (by decide))).trans h417)) ?_
        refine Zv5 (hw D.o7 _ rfl (by rw [ZaT, ZaT, ZaT]; exact hs4) ((((ZbK (by decide)).trans (ZbK (by decide))).trans (ZbK (by decide))).trans h417)) ?_
        obtain ⟨a7, ha7⟩ : ∃ a7, a7 = (((a4.put D.o4.dst undef).put (some 19) undef).put D.o6.dst undef).put D.o7.dst undef := ⟨_, rfl⟩
        show wpListIn Fence.wide n P D.ops4 _ [D.o8] ((((a4.put D.o4.dst undef).put (some 19) undef).put D.o6.dst undef).put D.o7.dst undef) w4
        rw [← ha7]
        have ag7 : Agree [18, 19, 20, 21, 22] a4 a7 := by
          rw [ha7]
          exact (((Agree.put (by simp [ItD.o4]) _).trans (Agree.put (by simp) _)).trans (Agree.put (by simp [ItD.o6]) _)).trans (Agree.put (by simp [ItD.o7]) _)
        have h717 : a7.eval (.tmp 17) = .bool false := (ag7.1 17 rfl).trans h417
        refine Zdy (v := .bool false) (w1 := w4) rfl (fun c hc => by cases hc) (by simp [execOp, ItD.o8, h717, asBool]; rfl) ?_
        exact fin4 (a7.put (some 22) (.bool false)) w4 y1 (ag7.trans (Agree.put (by simp) _)) (by rw [Z59, ha7, Z59, Z59, Z59, Z59]; exact hd4) (ZfS (by rw [ag7.2, hs4]; decide)) (hinv _ _ _ hI1 r4.kp) hit1
      |true=>
        rw [if_pos rfl] at h4
        have hy4 := ZA0 D a4.tmps true hs4 h417
        have ev0 : a4.eval (.tmp 0) = yv := h40
        have hw : ∀ (o : Oper) (a : Act), o.guard = some (3, true) → a.tmps.size = 23 → a.tmps.getD 17 undef = .bool true → Region.wanted o (yielded D.ops4 a.tmps) = true := fun o a hg hs h17 => by simp [Region.wanted, hg, ZA0 D a.tmps true hs h17]
        refine Zdy (v := yv) (w1 := w4) (hw D.o4 _ rfl hs4 h417) (fun c hc => by cases hc) (by rw [← ev0]; rfl) ?_
        have rp := (ZfO r4 ht).put (some 18) (x := .sv (.at .un)) (v := yv) ⟨trivial, .inl rfl⟩
        refine ZAf (ro := none) (Q := EPost X w _ (itGet R) (fun _ _ => none) (fun _ => none) res) hfs (fun _ _ _ h => h) (fun ⟨_, _, hf⟩ => hf) [19] D.l2 _ w4 (by simp [ItD.l2, calmOp]) (Zdn (step := stepOp X.T X.G X.mvs k) (Q := EPost X w _ (itGet R) (fun _ _ => none) (fun _ => none) res) (w0 := w) (fun a w h => h) (fun o st1 μ1 a1 w1 K' h1 hk => Zfk hT hG h1 hk) D.l2 _ μ4 _ w4 rp h4) ?_
        rintro a5 w5 ⟨st5,μ5,r5,h5⟩ ag5
        have ag45 : Agree [18, 19, 20, 21, 22] a4 a5 := (Agree.put (ds := [18, 19, 20, 21, 22]) (dst := some 18) (by simp) yv).trans (ag5.more (by simp))
        have h518 : a5.eval (.tmp 18) = yv := (ag5.1 18 rfl).trans (ZfS (by rw [hs4]; decide))
        have h517 : a5.tmps.getD 17 undef = .bool true := (ag45.1 17 rfl).trans h417
        have hs5 : a5.tmps.size = 23 := ag45.2.trans hs4
        replace h5:itGet R st5=some res:=h5
        unfold itGet at h5
        split at h5
        · rename_i x hx
          split at h5
          · rename_i lx hlx
            split at h5
            · rename_i hag
              split at h5
              · rename_i b st6 hb6
                injection h5 with h5
                subst h5
                simp only at hit1
                split at hit1
                · rename_i y2 hst2
                  obtain ⟨v19,hv19⟩: ∃v,a5.eval (.tmp 19)=v:=⟨_,rfl⟩
                  have htr:TR μ5 w5 x v19:=by rw[←hv19];exact r5.tv 19 _ hx
                  have hsh:=ZgR htr hlx hag
                  have hA:=htr.cells_sound hlx
                  obtain ⟨μ6,S6,r6,l6,t6,i6,rep⟩:=Z9b r5 hA.al0 hb6
                  obtain ⟨fn6,tmps6,as6,bd6,hy6,hR6⟩:=hround y1 y2 b w w5 v19 S6 hI1 r5.kp hsh rep (fun k hk=>⟨(t6.new k hk).elim (fun hf=>hf.elim) id,t6.lt k hk⟩) hst2 (n-1)
                  show wpListIn Fence.wide n P D.ops4 _ [D.o6,D.o7,D.o8] a5 w5
                  unfold wpListIn
                  rw[if_pos (hw D.o6 a5 rfl hs5 h517)]
                  refine ⟨fun _ _=>trivial,?_⟩
                  have hrun:(Oper.semAt Fence.wide.round a5.eval D.o6).run P w5= .ok (.round l fn6 tmps6 as6 bd6) w5:=by
                    rw[Oper.semAt_eq _ _ _ (fun c hc=>by cases hc)]
                    rw[←hy6]
                    simp[execOp,ItD.o6,resolve,h518,hv19,hyv,Deferred.ofValue,invoke]
                  rw[hrun]
                  refine ⟨fun hf=>(by cases hf),hR6.mono ?_⟩
                  rintro e w7 ⟨rfl,hI7⟩
                  show wpListIn Fence.wide n P D.ops4 _ [D.o7,D.o8] (a5.put (some 20) (.bool true)) w7
                  have h20:(a5.put (some 20) (.bool true)).eval (.tmp 20)= .bool true:=ZfS (by rw[hs5];decide)
                  refine Zdy (v:= .bool false) (w1:=w7) (hw D.o7 _ rfl (by rw[ZaT];exact hs5) ((ZbK (by decide)).trans h517)) (fun c hc=>by cases hc) (ZWR h20) ?_
                  obtain ⟨a7,ha7⟩: ∃a7,a7=(a5.put (some 20) (.bool true)).put (some 21) (.bool false):=⟨_,rfl⟩
                  show wpListIn Fence.wide n P D.ops4 _ [D.o8] ((a5.put (some 20) (.bool true)).put (some 21) (.bool false)) w7
                  rw[←ha7]
                  have ag7:Agree [18,19,20,21,22] a5 a7:=by
                    rw[ha7]
                    exact (Agree.put (by simp) _).trans (Agree.put (by simp) _)
                  have h717:a7.eval (.tmp 17)= .bool true:=(ag7.1 17 rfl).trans h517
                  have h721:a7.eval (.tmp 21)= .bool false:=by rw[ha7];exact ZfS (by rw[ZaT,hs5];decide)
                  refine Zdy (v:= .bool false) (w1:=w7) rfl (fun c hc=>by cases hc) (by simp[execOp,ItD.o8,h717,h721,asBool]) ?_
                  have hd5:a5.defers=[]:=r5.df.trans hda
                  exact fin4 (a7.put (some 22) (.bool false)) w7 y2 (ag45.trans (ag7.trans (Agree.put (by simp) _))) (by rw[Z59,ha7,Z59,Z59];exact hd5) (ZfS (by rw[ag7.2,hs5];decide)) hI7 hit1
                ·cases hit1
              ·cases h5
            ·cases h5
          ·cases h5
        ·cases h5
    ·cases h4
structure MkC where
 tC:TypeId
 tS:TypeId
 tF:TypeId
 g:FuncId
 p1:String
 p2:String
def MkC.body(D:MkC):Code:= .seq (.region 0 #[
  {dst:=some 1,op:= .box D.tC (.tmp 0),type:=0,pos:=D.p1,after:= #[],guard:=none},
  {dst:=some 2,op:= .assign (.const .nilFunc),type:=D.tS,pos:=D.p1,after:= #[],guard:=none}] false)
 (.seq (.region 1 #[
  {dst:=some 3,op:= .makeFunc (.func D.g) #[] #[.tmp 1],type:=D.tF,pos:=D.p2,after:= #[],guard:=none},
  {dst:=some 2,op:= .assign (.tmp 3),type:=D.tS,pos:=D.p2,after:= #[{on:=0,ground:= .data},{on:=0,ground:= .phase}],guard:=none}] false)
 .ret)
theorem ZX5{D:MkC}{f:FuncId}{fn:Func}(hf:P.funcs[f]? =some fn)(hb:fn.body=some D.body)(hnt:fn.ntmps=4)(hres:fn.results= #[.tmp 2])(hn:(fn.name== "runtime.NumGoroutine")=false):MkOK P f ⟨D.tC,D.g⟩:=by
 refine ⟨Z4a hf hn (by rw[hb];rfl),fun cs w=> ?_⟩
 refine (callsIn_wide (n:=0)).1 (callsIn_of_wp_marks hf hb trivial ?_ rfl)
 obtain ⟨a0,ha0⟩: ∃a0:Act,a0={tmps:= #[Value.agg cs.toArray]++Array.replicate (fn.ntmps-(#[Value.agg cs.toArray]:Array Value).size) undef,defers:=[]}:=⟨_,rfl⟩
 rw[←ha0]
 have hsz0:a0.tmps.size=4:=by rw[ha0];simp[hnt]
 have h00:a0.eval (.tmp 0)= .agg cs.toArray:=by show a0.tmps.getD 0 undef=_;rw[ha0];simp[Array.getD_eq_getD_getElem?,Array.getElem?_append]
 have hd0:a0.defers=[]:=by rw[ha0]
 obtain ⟨pv,hpv⟩: ∃pv,pv=Value.pointer (some ⟨w.heap.size,0,none⟩):=⟨_,rfl⟩
 obtain ⟨a1,ha1⟩: ∃a1,a1=(a0.put (some 1) pv).put (some 2) .nilFunc:=⟨_,rfl⟩
 have hsz1:a1.tmps.size=4:=by rw[ha1,ZaT,ZaT];exact hsz0
 have h11:a1.eval (.tmp 1)=pv:=by rw[ha1];exact (ZbK (by decide)).trans (ZfS (by rw[hsz0];decide))
 have hd1:a1.defers=[]:=by rw[ha1,Z59,Z59];exact hd0
 refine wpIn_seq (wpIn_region_list (Zdy (v:=pv) (w1:=w.alloc (.cells cs.toArray D.tC)) rfl (fun c hc=>by cases hc) ?_ (Zdy (v:= .nilFunc) (w1:=w.alloc (.cells cs.toArray D.tC)) rfl (fun c hc=>by cases hc) rfl ?_)))
 ·unfold execOp
  simp only[Instr.box,Sem.run_bind,Result.andThen_ok,newVar,newRow,run_newObj,Sem.run_pure,h00,hpv]
  rfl
 show Exit.then _ _ .normal ((a0.put (some 1) pv).put (some 2) .nilFunc) _
 rw[←ha1]
 obtain ⟨fv,hfv⟩: ∃fv,fv=Value.func (.func D.g) #[] #[pv]:=⟨_,rfl⟩
 refine wpIn_seq (wpIn_region_list (Zdy (v:=fv) (w1:=w.alloc (.cells cs.toArray D.tC)) rfl (fun c hc=>by cases hc) ?_ (Zdy (v:=fv) (w1:=w.alloc (.cells cs.toArray D.tC)) rfl (fun c hc=>by cases hc) ?_ ?_)))
 ·unfold execOp
  simp[h11,hfv,Instr.makeFunc]
 ·have h33 : (a1.put (some 3) fv).eval (.tmp 3) = fv := ZfS (by rw [hsz1]; decide)
  show (execOp (a1.put (some 3) fv).eval _).run P _=_
  unfold execOp
  simp only[h33]
  rfl
 refine wpIn_ret ?_
 show LeavesInM _ _ _ _ _ _ ((a1.put (some 3) fv).put (some 2) fv).defers _ _
 rw[Z59,Z59,hd1]
 refine ⟨packR [fv],Ze0 (us:=[fv]) ?_,by rw[←hpv];exact hfv,rfl⟩
 rw[hres]
 have h22:((a1.put (some 3) fv).put (some 2) fv).tmps.getD 2 undef=fv:=ZfS (by rw[ZaT,hsz1];decide)
 show (([ResultVar.tmp 2]:List ResultVar).mapM (resSem ((a1.put (some 3) fv).put (some 2) fv).tmps)).run P _=_
 simp only[List.mapM_cons,resSem,h22,List.mapM_nil,Sem.run_bind,Sem.run_pure,Result.andThen_ok]
end
end
set_option maxRecDepth 100000
set_option maxHeartbeats 2000000
section
noncomputable section
@[reducible] def TyC : Ty := Ty.pair (Ty.int .i64) (Ty.pair (Ty.int .i64) (Ty.pair (Ty.slice (76 : Nat) (Ty.pair (Ty.int .i64) (Ty.int .i64))) (Ty.pair (Ty.slice (3 : Nat) (Ty.int .i64)) (Ty.slice (3 : Nat) (Ty.int .i64)))))
@[reducible] def TyB : Ty := Ty.pair (Ty.int .i64) (Ty.pair (Ty.int .i64) (Ty.slice (76 : Nat) (Ty.pair (Ty.int .i64) (Ty.int .i64))))
noncomputable def itD:ItD:=⟨27,29,3,4,80,84,85,49, "l21_search.go:204", "l21_search.go:205", "l21_search.go:206"⟩
noncomputable def itX:Ctx Unit:={T:=T,G:=[(84,Z3x.E),(85,Z6v.E),(49,Z5m.E)],no:=0,n:=23,res:=fun _=>none}
noncomputable def iRnd(k:Nat)(c:Int×Int×List (Int×Int)×List Int×List Int)(n:Int):Option (ItR (Int×Int×List (Int×Int))):=
 Option.bind (ZdF k c) fun m=>if decide (n<m)=true then Option.bind (Zj3 k c n) fun b=>Option.bind (Zff k c b) fun t=>if t=true then some (.give b) else some .skip else some .stop
noncomputable def iLoop{Y:Type}(k:Nat)(cy:Y→Int×Int×List (Int×Int)×List Int×List Int)(step:Y→Int×Int×List (Int×Int)→Option Y)(y:Y):Option Y:=itLoop (iRnd k) (fun m=>wrap64 (m+1)) cy step k y 0
theorem iG(k:Nat):EnvOK Tryz.prog k itX.G:=EnvOK.cons (ZEV k) (EnvOK.cons (ZNB k) (EnvOK.cons (Zzg k) (EnvOK.nil mixed)))
theorem ZVQ(k:Nat)(c:TyC.D)(n:Int):itRnd itD itX k TyC TyB c n=iRnd k c n:=by kernel_rfl
theorem ZVb(k:Nat)(c:TyC.D)(n:Int):itNext itD itX k TyC c n=some (wrap64 (n+1)):=by kernel_rfl
theorem iEnters: ∀g∈[itD.f84,itD.f85,itD.f49],entersB Tryz.prog g:=by
 intro g hg
 simp only[itD,List.mem_cons,List.not_mem_nil,or_false]at hg
 rcases hg with rfl|rfl|rfl
 ·exact Z4a Tryz.func84 (by kernel_rfl) (by kernel_rfl)
 ·exact Z4a Tryz.func85 (by kernel_rfl) (by kernel_rfl)
 ·exact Z4a Tryz.func49 (by kernel_rfl) (by kernel_rfl)
theorem iOK(k:Nat):IterOK Tryz.prog 83 TyC TyB 27 (fun cy step y=>iLoop k cy step y):=
 ZX6 (D:=itD) (X:=itX) (fn:=Tryz.f83) Tryz.func83 (by kernel_rfl) (by kernel_rfl) (by kernel_rfl) T_ok (iG k) rfl rfl rfl rfl iEnters (fun c m r h=>(ZVQ k c m).trans h) (ZVb k)
theorem iEnter83:entersB Tryz.prog 83:=Z4a Tryz.func83 (by kernel_rfl) (by kernel_rfl)
noncomputable def mkD:MkC:=⟨27,92,91,83, "l21_search.go:202", "l21_search.go:203"⟩
theorem mkOK:MkOK Tryz.prog 50 ⟨27,83⟩:=ZX5 (D:=mkD) (fn:=Tryz.f50) Tryz.func50 (by kernel_rfl) (by kernel_rfl) (by kernel_rfl) (by kernel_rfl)
noncomputable def mkE:CloE:=(MkDef.mk 27 83).E
theorem mkS(k:Nat):ClSound Tryz.prog k 50 mkE:=ZV5 mkOK k
end
end
section
noncomputable def seqA:Code→Code
 | .seq a _=>a
 |c=>c
noncomputable def seqB:Code→Code
 | .seq _ b=>b
 |c=>c
noncomputable def blkC:Code→Code
 | .block _ c=>c
 |c=>c
noncomputable def rngA:Code→Code
 | .rangeFunc _ _ a _=>a
 |c=>c
noncomputable def rngB:Code→Code
 | .rangeFunc _ _ _ b=>b
 |c=>c
theorem ZUY: ∀(l:List (Tmp×TSh)) (x:TL l) (ts:List TV) (i:Nat),(l.map (·.1)).contains i=false→(TL.put l x ts)[i]? =ts[i]?
 |[],_,_,_,_=>rfl
 |s::l,x,ts,i,h=>by
  simp only[List.map_cons,List.contains_cons,Bool.or_eq_false_iff,beq_eq_false_iff_ne]at h
  show ((TL.put l x.2 ts).set s.1 _)[i]? =_
  rw[List.getElem?_set_ne (fun he=>h.1 he.symm),ZUY l x.2 ts i h.2]
theorem ZWb{s:Spec}{n:Nat}{y:s.D}{i:Nat}{x:TV}(h:(s.st n y).tmps[i]? =some x)(hn:(s.tmps.map (·.1)).contains i=false):x= .sv (.at .un):=by
 have h2:(TL.put s.tmps y.2 (List.replicate n (.sv (.at .un))))[i]? =some x:=h
 rw[ZUY _ _ _ _ hn,List.getElem?_replicate]at h2
 split at h2
 ·injection h2 with h2;exact h2.symm
 ·cases h2
theorem ZUU{s:Spec}{n:Nat}{l:List Tmp}{p:Tmp}(hc:(s.tmps.map (·.1)).all (fun d=> !(l.contains d||d==p))=true)(y:s.D)(i:Nat)(x:TV)(h:(s.st n y).tmps[i]? =some x)(hi:(l.contains i||i==p)=true):x= .sv (.at .un):=by
 refine ZWb h ?_
 cases hx:(s.tmps.map (·.1)).contains i with
 |false=>rfl
 |true=>
  have:=List.all_eq_true.1 hc i (by simpa using hx)
  rw[hi]at this
  cases this
noncomputable section
noncomputable def Z5v:List PK:=[PK.mk TyB true none false none,PK.mk .bool false none false none]
noncomputable def Zqz:List PK:=[PK.mk TyC true none false none]
noncomputable def Zp3(r:(Int×Int×List (Int×Int))×Bool):Tup Z5v×OutD:=((r.1,r.2,()),none)
noncomputable def ZpC:Tup Z5v×OutD→Option ((Int×Int×List (Int×Int))×Bool)
 |(a,none)=>some (a.1,a.2.1)
 |_=>none
theorem ZzC: ∀b r,ZpC b=some r→Zp3 r=b:=by
 rintro ⟨a,_|_⟩ r h<;>cases h;rfl
noncomputable def yS:Spec:=Spec.mk [.ro,O2,Oa,O0,.clo 83 [.ptr 5 0],O4]
 [(2,TSh.at (Sh.ptr 1 0)),(4,TSh.at (Sh.ptr 2 0)),(8,TSh.at (Sh.cv 4))]
@[reducible] def YS : Type := (Unit × (Int × Int × List (Int × Int) × Unit) × (Int × Int × Unit × Unit) × List (Int × Int) × (Unit × Unit) × (Int × Int × List (Int × Int) × List Int × List Int × Unit) × Unit) × (Unit × Unit × Unit × Unit)
noncomputable def ySet(y:YS)(b:Int×Int×List (Int×Int)):YS:=(((),y.1.2.1,(b.1,b.2.1,(),()),b.2.2,((),()),y.1.2.2.2.2.2.1,()),((),(),(),()))
noncomputable def yBest(y:YS):Int×Int×List (Int×Int):=(y.1.2.2.1.1,y.1.2.2.1.2.1,y.1.2.2.2.1)
noncomputable def yC(y:YS):Int×Int×List (Int×Int)×List Int×List Int:=(y.1.2.2.2.2.2.1.1,y.1.2.2.2.2.2.1.2.1,y.1.2.2.2.2.2.1.2.2.1,y.1.2.2.2.2.2.1.2.2.2.1,y.1.2.2.2.2.2.1.2.2.2.2.1)
noncomputable def yStart(c:Int×Int×List (Int×Int)×List Int×List Int):YS:=(((),(0,0,[],()),(0,0,(),()),[],((),()),(c.1,c.2.1,c.2.2.1,c.2.2.2.1,c.2.2.2.2,()),()),((),(),(),()))
noncomputable def yStep(k:Nat)(y:YS)(b:Int×Int×List (Int×Int)):Option YS:=
 if decide ((yBest y).1=0)=true then some (ySet y b) else Option.bind (Z6F k b) fun p=>Option.bind (Z6F k (yBest y)) fun q=>if decide (p<q)=true then some (ySet y b) else some y
noncomputable def Zbe:Nat→Int×Int×List (Int×Int)×List Int×List Int→Option ((Int×Int×List (Int×Int))×Bool)
 |0,_=>none
 |k+1,p0=>match iLoop k yC (yStep k) (yStart p0) with
  |some y=>some (yBest y,decide ((yBest y).1>0))
  |none=>none
noncomputable def Z7y:FnDef:= .of Zqz Z5v ((Int×Int×List (Int×Int))×Bool) (fun k x=>Zbe k x.1) Zp3 ZpC ZzC
noncomputable def Z5t:Code:=Tryz.f44.body.getD .skip
noncomputable def Zbh:Ctx (Tup Z5v×OutD):={T:=T,G:=[(50,cloE mkE),(51,Z3c.E)],no:=0,n:=25,res:=resOf T Zqz Z5v Tryz.f44.results.toList}
theorem Zjw(k:Nat):EnvOK Tryz.prog k Zbh.G:=EnvOK.consC (mkS k) (EnvOK.cons (ZiX k) (EnvOK.nil mixed))
noncomputable def yA:Code:=rngA (blkC (seqB (seqA (seqB (seqB Z5t)))))
noncomputable def yB:Code:=rngB (blkC (seqB (seqA (seqB (seqB Z5t)))))
noncomputable def yPost:Code:=seqB (seqB (seqB Z5t))
noncomputable def yPre:List Code:=[seqA Z5t,seqA (seqB Z5t)]
noncomputable def yP3:Code:=seqA (seqA (seqB (seqB Z5t)))
noncomputable def yR(k:Nat):RgDef:={s:=yS,n:=25,C:=TyC,rd:=TyB,eB:=27,f:=83,g:=8,p:=9,cy:=yC,it:=fun cy step y=>iLoop k cy step y}
noncomputable def y6i:Spec:=Spec.mk [.ro,O2,Oa,O0] [(2,.at (.ptr 1 0)),(4,.at (.ptr 2 0))]
noncomputable def y6o:Spec:=Spec.mk [.ro,Obq,O0] [(2,.at (.ptr 1 0)),(3,.at .bool)]
noncomputable def y6D:LoopDef (Tup Z5v×OutD):= .plain y6i y6o ((Int×Int×List (Int×Int))×Bool) (fun k x=>some ((x.1.2.2.1.1,x.1.2.2.1.2.1,x.1.2.2.2.1),decide (x.1.2.2.1.1>0))) (fun z=>(((),(z.1.1,z.1.2.1,(),()),z.1.2.2,()),((),z.2,()))) (fun y=>((y.1.2.1.1,y.1.2.1.2.1,y.1.2.2.1),y.2.2.1)) (fun _=>rfl)
noncomputable def y6O:Array Oper:=(findReg 6 Z5t).getD #[]
noncomputable def Z4L:Ctx (Tup Z5v×OutD):={Zbh with regs:=[(6,y6D.E)]}
theorem y6e(k:Nat)(x:y6i.D):execD Z4L.T Z4L.G Z4L.mvs k y6O (y6D.inp.st Z4L.n x) (outK Z4L y6D)=repl 2 (y6D.lp k x):=by kernel_rfl
theorem ZWW(k:Nat):LOK Tryz.prog Z4L k yPost:=LOK.by [(y6D.E,.region 6 y6O true)] (by kernel_rfl) (AllOK.cons (Z4n (D:=y6D) (m:=2) T_ok (Zjw k) (y6e k)) AllOK.nil)
theorem ZWO:calmC [51] (.seq yA yB)=true:=by kernel_rfl
theorem ZVH(k:Nat):Tryz.f44.body=some (preL yPre (.seq (.seq yP3 (.block 0 (.rangeFunc (.tmp (yR k).g) #[(yR k).p] yA yB))) yPost)):=by kernel_rfl
theorem ZWj(k:Nat):((yR k).s.tmps.map (·.1)).all (fun d=> !((dstsC yA++dstsC yB).contains d||d==(yR k).p))=true:=by kernel_rfl
theorem ZWY(k:Nat)(y:(yR k).s.D):rgRead (yR k).C (yR k).eB (yR k).f (yR k).g ((yR k).s.st (yR k).n y)=some ((yR k).cy y):=by kernel_rfl
noncomputable def yStep2(k:Nat):(yR k).s.D→(yR k).rd.D→Option (yR k).s.D:=yStep k
theorem ZWl(k:Nat)(y:(yR k).s.D)(b:(yR k).rd.D):yStep2 k y b=exec Zbh k (.seq yA yB) ((yR k).enc ((yR k).s.st (yR k).n y) b) (fun st=>enterN Zbh (yR k).s st) (fun _ _=>none) (fun _=>none):=by kernel_rfl
theorem ZWZ(k:Nat):IterOK Tryz.prog (yR k).f (yR k).C (yR k).rd (yR k).eB (yR k).it:=iOK k
theorem ZX1(k:Nat):entersB Tryz.prog (yR k).f:=iEnter83
theorem y_fs: ∀f∈[51],entersB Tryz.prog f:=by
 intro f hf
 simp only[List.mem_cons,List.not_mem_nil,or_false]at hf
 subst hf
 exact Z4a Tryz.func51 (by kernel_rfl) (by kernel_rfl)
theorem y_z(x:Tup Z7y.ps):Z7y.f 0 x=none:=by kernel_rfl
theorem ZV8(vs:Array Value)(w:World):(callFunc 44 vs).run Tryz.prog w= .ok (.enter 44 vs) w:=Z4a Tryz.func44 (by kernel_rfl) (by kernel_rfl) vs w
theorem Zqr: ∀k,SoundAt Tryz.prog k 44 Z7y.E
 |0=>SoundAt.zero ZV8 y_z
 |k+1=> @ZP9 Tryz.prog Z7y Zbh Z4L (yR k) 44 Tryz.f44 yPre yP3 yA yB yPost 0 k [51] (yStep2 k) (by kernel_rfl) (by kernel_rfl) (by kernel_rfl) (by kernel_rfl) (by kernel_rfl) (by kernel_rfl) (by kernel_rfl) (by kernel_rfl) (by kernel_rfl) (by kernel_rfl) T_ok (Zjw k) (ZWW k) Tryz.func44 (ZVH k) (by kernel_rfl) (by kernel_rfl) (by kernel_rfl) (by kernel_rfl) T_ok (Zjw k) (by kernel_rfl) y_fs ZWO (ZUU (ZWj k)) (ZWY k) (ZWZ k) (ZX1 k) (ZWl k) (by intro x;kernel_rfl)
end
end
section
noncomputable section
noncomputable def Z66:List PK:=[PK.mk (.slice 3 I6) false none false none,PK.mk .bool false none false none]
noncomputable def Zkc:List PK:=[PK.mk TyC true none false none]
noncomputable def Zjk(r:List Int×Bool):Tup Z66×OutD:=((r.1,r.2,()),none)
noncomputable def Zjb:Tup Z66×OutD→Option (List Int×Bool)
 |(a,none)=>some (a.1,a.2.1)
 |_=>none
theorem Zq9: ∀b r,Zjb b=some r→Zjk r=b:=by
 rintro ⟨a,_|_⟩ r h<;>cases h;rfl
noncomputable def bS:Spec:=Spec.mk [.ro,.box 22 [.sl 2],O1,.clo 83 [.ptr 4 0],O4]
 [(4,TSh.at (Sh.ptr 1 0)),(17,TSh.at (Sh.cv 3))]
@[reducible] def BS : Type := (Unit × (Unit × Unit) × List Int × (Unit × Unit) × (Int × Int × List (Int × Int) × List Int × List Int × Unit) × Unit) × (Unit × Unit × Unit)
noncomputable def bSet(y:BS)(l:List Int):BS:=(((),((),()),l,((),()),y.1.2.2.2.2.1,()),((),(),()))
noncomputable def bC(y:BS):Int×Int×List (Int×Int)×List Int×List Int:=(y.1.2.2.2.2.1.1,y.1.2.2.2.2.1.2.1,y.1.2.2.2.2.1.2.2.1,y.1.2.2.2.2.1.2.2.2.1,y.1.2.2.2.2.1.2.2.2.2.1)
noncomputable def bStart(c:Int×Int×List (Int×Int)×List Int×List Int)(l:List Int):BS:=(((),((),()),l,((),()),(c.1,c.2.1,c.2.2.1,c.2.2.2.1,c.2.2.2.2,()),()),((),(),()))
noncomputable def bStep(k:Nat)(y:BS)(b:Int×Int×List (Int×Int)):Option BS:=
 Option.bind (Z6F k b) fun p=>if (0:Int)≤p then if p<(↑(List.length y.1.2.2.1):Int) then if (0:Int)≤p then if p<(↑(List.length y.1.2.2.1):Int) then some (bSet y (List.set y.1.2.2.1 (Int.toNat p) (wrap64 (List.getD y.1.2.2.1 (Int.toNat p) (0:Int)+1)))) else none else none else none else none
noncomputable def Z9t:Nat→Int×Int×List (Int×Int)×List Int×List Int→Option (List Int×Bool)
 |0,_=>none
 |k+1,p0=>Option.bind (Z4P k p0) fun z0=>if (!z0)=true then some ([],false) else
  if (0:Int)≤wrap64 (wrap64 (p0.1*p0.2.1)+1) then if Int.toNat (wrap64 (wrap64 (p0.1*p0.2.1)+1))*(8:Nat)≤(281474976710656:Nat) then
   match iLoop k bC (bStep k) (bStart p0 (List.replicate (Int.toNat (wrap64 (wrap64 (p0.1*p0.2.1)+(1:Int)))) (0:Int))) with
   |some y=>some (y.1.2.2.1,true)
   |none=>none
  else none else none
noncomputable def Z60:FnDef:= .of Zkc Z66 (List Int×Bool) (fun k x=>Z9t k x.1) Zjk Zjb Zq9
noncomputable def Z9z:Code:=Tryz.f15.body.getD .skip
noncomputable def Z5X:Ctx (Tup Z66×OutD):={T:=T,G:=[(50,cloE mkE),(51,Z3c.E),(43,Z1s.E)],no:=0,n:=27,res:=resOf T Zkc Z66 Tryz.f15.results.toList}
theorem Zk1(k:Nat):EnvOK Tryz.prog k Z5X.G:=EnvOK.consC (mkS k) (EnvOK.cons (ZiX k) (EnvOK.cons (Zdt k) (EnvOK.nil mixed)))
noncomputable def bTail:Code:=seqB (seqB (seqB Z9z))
noncomputable def bA:Code:=rngA (blkC (seqB (seqA bTail)))
noncomputable def bB:Code:=rngB (blkC (seqB (seqA bTail)))
noncomputable def bPost:Code:=seqB bTail
noncomputable def bPre:List Code:=[seqA Z9z,seqA (seqB Z9z),seqA (seqB (seqB Z9z))]
noncomputable def bP3:Code:=seqA (seqA bTail)
noncomputable def bR(k:Nat):RgDef:={s:=bS,n:=27,C:=TyC,rd:=TyB,eB:=27,f:=83,g:=17,p:=18,cy:=bC,it:=fun cy step y=>iLoop k cy step y}
theorem ZWQ:calmC [51] (.seq bA bB)=true:=by kernel_rfl
theorem ZVG(k:Nat):Tryz.f15.body=some (preL bPre (.seq (.seq bP3 (.block 0 (.rangeFunc (.tmp (bR k).g) #[(bR k).p] bA bB))) bPost)):=by kernel_rfl
theorem ZVU(k:Nat):((bR k).s.tmps.map (·.1)).all (fun d=> !((dstsC bA++dstsC bB).contains d||d==(bR k).p))=true:=by kernel_rfl
theorem ZX3(k:Nat)(y:(bR k).s.D):rgRead (bR k).C (bR k).eB (bR k).f (bR k).g ((bR k).s.st (bR k).n y)=some ((bR k).cy y):=by kernel_rfl
noncomputable def bStep2(k:Nat):(bR k).s.D→(bR k).rd.D→Option (bR k).s.D:=bStep k
theorem ZW4(k:Nat)(y:(bR k).s.D)(b:(bR k).rd.D):bStep2 k y b=exec Z5X k (.seq bA bB) ((bR k).enc ((bR k).s.st (bR k).n y) b) (fun st=>enterN Z5X (bR k).s st) (fun _ _=>none) (fun _=>none):=by kernel_rfl
theorem ZX2(k:Nat):IterOK Tryz.prog (bR k).f (bR k).C (bR k).rd (bR k).eB (bR k).it:=iOK k
theorem ZWX(k:Nat):entersB Tryz.prog (bR k).f:=iEnter83
theorem b_fs: ∀f∈[51],entersB Tryz.prog f:=by
 intro f hf
 simp only[List.mem_cons,List.not_mem_nil,or_false]at hf
 subst hf
 exact Z4a Tryz.func51 (by kernel_rfl) (by kernel_rfl)
theorem b_z(x:Tup Z60.ps):Z60.f 0 x=none:=by kernel_rfl
theorem ZVe(vs:Array Value)(w:World):(callFunc 15 vs).run Tryz.prog w= .ok (.enter 15 vs) w:=Z4a Tryz.func15 (by kernel_rfl) (by kernel_rfl) vs w
theorem ZwF: ∀k,SoundAt Tryz.prog k 15 Z60.E
 |0=>SoundAt.zero ZVe b_z
 |k+1=> @ZP9 Tryz.prog Z60 Z5X Z5X (bR k) 15 Tryz.f15 bPre bP3 bA bB bPost 0 k [51] (bStep2 k) (by kernel_rfl) (by kernel_rfl) (by kernel_rfl) (by kernel_rfl) (by kernel_rfl) (by kernel_rfl) (by kernel_rfl) (by kernel_rfl) (by kernel_rfl) (by kernel_rfl) T_ok (Zk1 k) (LOK.bare rfl rfl rfl rfl _) Tryz.func15 (ZVG k) (by kernel_rfl) (by kernel_rfl) (by kernel_rfl) (by kernel_rfl) T_ok (Zk1 k) (by kernel_rfl) b_fs ZWQ (ZUU (ZVU k)) (ZX3 k) (ZX2 k) (ZWX k) (ZW4 k) (by intro x;kernel_rfl)
end
end
section
noncomputable section
noncomputable def Z7x:List PK:=[PK.mk (.pair I6 (.pair I6 (.slice 76 P6))) true none false none,PK.mk .bool false none false none]
noncomputable def ZmW:List PK:=[PK.mk (.pair I6 (.pair I6 (.pair (.slice 76 P6) (.pair (.slice 3 I6) (.slice 3 I6))))) true none false none]
noncomputable def ZlF(r:(Int×Int×List (Int×Int))×Bool):Tup Z7x×OutD:=((r.1,r.2,()),none)
noncomputable def Zls:Tup Z7x×OutD→Option ((Int×Int×List (Int×Int))×Bool)
 |(a,none)=>some (a.1,a.2.1)
 |_=>none
theorem Ztq: ∀b r,Zls b=some r→ZlF r=b:=by
 rintro ⟨a,_|_⟩ r h<;>cases h;rfl
noncomputable def Zbj:Nat→Int×Int×List (Int×Int)×List Int×List Int→Option ((Int×Int×List (Int×Int))×Bool)
 |0,_=>none
 |k+1,p0=>
  Option.bind (Z4P k (p0.1,p0.2.1,p0.2.2.1,p0.2.2.2.1,p0.2.2.2.2)) fun z0=>if (!z0)=true then some (((0:Int),(0:Int),[]),false) else Option.bind (Zbe k (p0.1,p0.2.1,p0.2.2.1,p0.2.2.2.1,p0.2.2.2.2)) fun z1=>some ((z1.1.1,z1.1.2.1,z1.1.2.2),z1.2)
noncomputable def Z2w:FnDef:= .of ZmW Z7x ((Int×Int×List (Int×Int))×Bool) (fun k x=>Zbj k x.1) ZlF Zls Ztq
noncomputable def Zg9:Code:=Tryz.f12.body.getD .skip
noncomputable def ZbC:Ctx (Tup Z7x×OutD):={T:=T,G:=[(43,Z1s.E),(44,Z7y.E)],mvs:=[],no:=0,n:=12,res:=resOf T ZmW Z7x Tryz.f12.results.toList,loops:=[],regs:=[],conds:=[],cuts:=[]}
theorem ZAQ(k:Nat):EnvOK Tryz.prog k ZbC.G:=(EnvOK.cons (Zdt k) (EnvOK.cons (Zqr k) (EnvOK.nil mixed)))
theorem ZAW(k:Nat)(x:Tup Z2w.ps):Z2w.f (k+1) x=fnK Z2w ZbC Zg9 k x:=by kernel_rfl
theorem ZAI(x:Tup Z2w.ps):Z2w.f 0 x=none:=by kernel_rfl
theorem ZAw(k:Nat):LOK Tryz.prog ZbC k Zg9:=LOK.by [] (by kernel_rfl) AllOK.nil
theorem ZAm(k:Nat):SoundAt Tryz.prog k 12 Z2w.E:= @Z5 Tryz.prog Z2w ZbC 12 Tryz.f12 Zg9 (by kernel_rfl) (by kernel_rfl) (by kernel_rfl) Tryz.func12 (by kernel_rfl) (by kernel_rfl) (by kernel_rfl) T_ok ZAQ ZAw ZAI ZAW k
noncomputable def Za6:List PK:=[PK.mk I6 false none false none,PK.mk .bool false none false none]
noncomputable def Zpm:List PK:=[PK.mk (.pair I6 (.pair I6 (.pair (.slice 76 P6) (.pair (.slice 3 I6) (.slice 3 I6))))) true none false none]
noncomputable def ZnJ(r:Int×Bool):Tup Za6×OutD:=((r.1,r.2,()),none)
noncomputable def Znm:Tup Za6×OutD→Option (Int×Bool)
 |(a,none)=>some (a.1,a.2.1)
 |_=>none
theorem ZwE: ∀b r,Znm b=some r→ZnJ r=b:=by
 rintro ⟨a,_|_⟩ r h<;>cases h;rfl
noncomputable def ZdD:Nat→Int×Int×List (Int×Int)×List Int×List Int→Option (Int×Bool)
 |0,_=>none
 |k+1,p0=>
  Option.bind (Z4P k (p0.1,p0.2.1,p0.2.2.1,p0.2.2.2.1,p0.2.2.2.2)) fun z0=>if (!z0)=true then some ((0:Int),false) else Option.bind (Zbe k (p0.1,p0.2.1,p0.2.2.1,p0.2.2.2.1,p0.2.2.2.2)) fun z1=>Option.bind (Z6F k (z1.1.1,z1.1.2.1,z1.1.2.2)) fun z2=>some (z2,z1.2)
noncomputable def Z3v:FnDef:= .of Zpm Za6 (Int×Bool) (fun k x=>ZdD k x.1) ZnJ Znm ZwE
noncomputable def Zi5:Code:=Tryz.f18.body.getD .skip
noncomputable def ZdQ:Ctx (Tup Za6×OutD):={T:=T,G:=[(43,Z1s.E),(44,Z7y.E),(51,Z3c.E)],mvs:=[],no:=0,n:=17,res:=resOf T Zpm Za6 Tryz.f18.results.toList,loops:=[],regs:=[],conds:=[],cuts:=[]}
theorem ZER(k:Nat):EnvOK Tryz.prog k ZdQ.G:=(EnvOK.cons (Zdt k) (EnvOK.cons (Zqr k) (EnvOK.cons (ZiX k) (EnvOK.nil mixed))))
theorem ZG2(k:Nat)(x:Tup Z3v.ps):Z3v.f (k+1) x=fnK Z3v ZdQ Zi5 k x:=by kernel_rfl
theorem ZFM(x:Tup Z3v.ps):Z3v.f 0 x=none:=by kernel_rfl
theorem ZEP(k:Nat):LOK Tryz.prog ZdQ k Zi5:=LOK.by [] (by kernel_rfl) AllOK.nil
theorem ZEK(k:Nat):SoundAt Tryz.prog k 18 Z3v.E:= @Z5 Tryz.prog Z3v ZdQ 18 Tryz.f18 Zi5 (by kernel_rfl) (by kernel_rfl) (by kernel_rfl) Tryz.func18 (by kernel_rfl) (by kernel_rfl) (by kernel_rfl) T_ok ZER ZEP ZFM ZG2 k
end
end
section
noncomputable section
noncomputable def Z5W:List PK:=[PK.mk .bool false none false none]
noncomputable def Zi0:List PK:=[PK.mk (.slice 5 (.int .u8)) false none false none,PK.mk (.slice 5 (.int .u8)) false none false none]
noncomputable def ZaX(r:Bool):Tup Z5W×OutD:=((r,()),none)
noncomputable def ZaN:Tup Z5W×OutD→Option (Bool)
 |(a,none)=>some (a.1)
 |_=>none
theorem Z9a: ∀b r,ZaN b=some r→ZaX r=b:=by
 rintro ⟨a,_|_⟩ r h<;>cases h;rfl
noncomputable def ZbM:Nat→Int→Int→List (Int×Int)→List Int→List Int→Int→Int→Int→Option (LR (List Int) Bool)
 |0,_,_,_,_,_,_,_,_=>none
 |k+1,b1_0,b1_1,o2,o3,v1,v7,v118,v119=>
  if decide (v119<v118)=true then if (0:Int)≤v119 then if v119<(↑(List.length o3):Int) then Option.bind (ZgO k (b1_0,b1_1,o2) v119) fun z7=>if (!z7.2)=true then some (LR.ret false) else if decide (z7.1.1≠1)=true then some (LR.ret false) else if (!decide (z7.1.2.2≥v7)==decide (List.getD o3 (Int.toNat v119) (0:Int)=1))=true then some (LR.ret false) else ZbM k b1_0 b1_1 o2 o3 v1 v7 v118 (wrap64 (v119+1)) else none else none else some (LR.go v1)
noncomputable def ZmE:Spec:=Spec.mk [.ro,Obq,O0,O1] [(1,.at (.snap 0 (.int .u8))),(6,.at (.ptr 1 0)),(7,.at (.int .i64)),(117,.at (.sl 3)),(118,.at (.int .i64)),(119,.at (.int .i64))]
noncomputable def ZLF:Spec:=Spec.mk [.ro] [(1,.at (.snap 0 (.int .u8)))]
noncomputable def ZaK:LoopDef (Tup Z5W×OutD):= .rets ZmE ZLF (List Int) (Bool) (fun k x=>ZbM k x.1.2.1.1 x.1.2.1.2.1 x.1.2.2.1 x.1.2.2.2.1 x.2.1 x.2.2.2.1 x.2.2.2.2.2.1 x.2.2.2.2.2.2.1) (fun z=>(((),()),(z,()))) (fun y=>(y.2.1)) (fun _=>rfl) ZaX ZaN Z9a
noncomputable def ZbY:Nat→Int→Int→List (Int×Int)→List Int→List (Int×Int×Int)→List (Int×Int×Int)→Int→Int→Option (LR Unit Bool)
 |0,_,_,_,_,_,_,_,_=>none
 |k+1,b1_0,b1_1,o2,o3,o4,o5,v282,v283=>
  if decide (v283<v282)=true then if (0:Int)≤v283 then if v283<(↑(List.length o5):Int) then Option.bind (ZcJ k (b1_0,b1_1,o2) [(Prod.fst (List.getD o5 (Int.toNat v283) ((0:Int),(0:Int),(0:Int))),Prod.fst (Prod.snd (List.getD o5 (Int.toNat v283) ((0:Int),(0:Int),(0:Int)))),Prod.snd (Prod.snd (List.getD o5 (Int.toNat v283) ((0:Int),(0:Int),(0:Int)))))] o3 o4) fun z24=>Option.bind (ZdS k (b1_0,b1_1,o2) [(Prod.fst (List.getD o5 (Int.toNat v283) ((0:Int),(0:Int),(0:Int))),Prod.fst (Prod.snd (List.getD o5 (Int.toNat v283) ((0:Int),(0:Int),(0:Int)))),Prod.snd (Prod.snd (List.getD o5 (Int.toNat v283) ((0:Int),(0:Int),(0:Int)))))] o3) fun z25=>if (!z24.2)=true then some (LR.ret false) else if (!z24.1)=true then some (LR.ret false) else if (!z25.2.2)=true then some (LR.ret false) else Option.bind (ZkE k z25.1 o4) fun z26=>if (!z26)=true then some (LR.ret false) else ZbY k b1_0 b1_1 o2 o3 o4 o5 v282 (wrap64 (v283+1)) else none else none else some (LR.go ())
noncomputable def Zmt:Spec:=Spec.mk [.ro,Obq,O0,O1,Om,Og] [(35,.at (.ptr 1 0)),(36,.at (.sl 3)),(37,.at (.sl 4)),(281,.at (.sl 5)),(282,.at (.int .i64)),(283,.at (.int .i64))]
noncomputable def ZLA:Spec:=Spec.mk [.ro] []
noncomputable def Zai:LoopDef (Tup Z5W×OutD):= .rets Zmt ZLA (Unit) (Bool) (fun k x=>ZbY k x.1.2.1.1 x.1.2.1.2.1 x.1.2.2.1 x.1.2.2.2.1 x.1.2.2.2.2.1 x.1.2.2.2.2.2.1 x.2.2.2.2.2.1 x.2.2.2.2.2.2.1) (fun z=>(((),()),(()))) (fun y=>()) (fun _=>rfl) ZaX ZaN Z9a
noncomputable def ZkY:Nat→Option Bool:=fun k=>
  some true
noncomputable def ZHh:Spec:=Spec.mk [.ro] []
noncomputable def Z34:LoopDef (Tup Z5W×OutD):= .ends ZHh (Bool) (fun k x=>ZkY k) ZaX ZaN Z9a
noncomputable def Zcg:Nat→List Int→Option Bool:=fun k v1=>
  Option.bind (Z88 k v1) fun z20=>Option.bind (ZcE k (z20.1.1,z20.1.2.1,z20.1.2.2) z20.2.1 z20.2.2) fun z21=>Option.bind (ZcD k (z20.1.1,z20.1.2.1,z20.1.2.2) z20.2.1 z20.2.2) fun z22=>if (!z21.2==z22.2)=true then some false else Option.bind (ZiK k z21.1 z22.1) fun z23=>if (!z23)=true then some false else Option.bind (ZbY k z20.1.1 z20.1.2.1 z20.1.2.2 z20.2.1 z20.2.2 z22.1 (↑(List.length z22.1):Int) (0:Int)) fun z27=>LR.on z27 (fun y27=>Option.bind (ZkY k) fun z28=>some z28) fun r27=>some r27
noncomputable def ZIw:Spec:=Spec.mk [.ro] [(1,.at (.snap 0 (.int .u8)))]
noncomputable def Z39:LoopDef (Tup Z5W×OutD):= .ends ZIw (Bool) (fun k x=>Zcg k x.2.1) ZaX ZaN Z9a
noncomputable def Zcm:Nat→List Int→Option Bool:=fun k v1=>
  Option.bind (Z7c k v1) fun z9=>Option.bind (Zbj k (z9.1,z9.2.1,z9.2.2.1,z9.2.2.2.1,z9.2.2.2.2)) fun z10=>Option.bind (Zbn k (z9.1,z9.2.1,z9.2.2.1,z9.2.2.2.1,z9.2.2.2.2)) fun z11=>if (!z10.2==z11.2)=true then some false else Option.bind (Zgv k (z10.1.1,z10.1.2.1,z10.1.2.2) (z11.1.1,z11.1.2.1,z11.1.2.2)) fun z12=>if (!z12)=true then some false else if z10.2=true then Option.bind (ZaD k (z9.1,z9.2.1,z9.2.2.1,z9.2.2.2.1,z9.2.2.2.2) (z10.1.1,z10.1.2.1,z10.1.2.2)) fun z13=>Option.bind (Z9t k (z9.1,z9.2.1,z9.2.2.1,z9.2.2.2.1,z9.2.2.2.2)) fun z14=>Option.bind (Z9q k (z9.1,z9.2.1,z9.2.2.1,z9.2.2.2.1,z9.2.2.2.2)) fun z15=>Option.bind (Zgq k (z10.1.1,z10.1.2.1,z10.1.2.2)) fun z16=>Option.bind (ZdD k (z9.1,z9.2.1,z9.2.2.1,z9.2.2.2.1,z9.2.2.2.2)) fun z17=>if (!z13.2)=true then some false else if (!z13.1)=true then some false else if (!z14.2)=true then some false else if (!z15.2)=true then some false else Option.bind (Zie k z14.1 z15.1) fun z18=>if (!z18)=true then some false else if (!z16.2)=true then some false else if (!z17.2)=true then some false else if decide (z17.1≠z16.1)=true then some false else if decide (z16.1<0)=true then some false else if decide (z16.1≥(↑(List.length z15.1):Int))=true then some false else if (0:Int)≤z16.1 then if z16.1<(↑(List.length z15.1):Int) then if decide (List.getD z15.1 (Int.toNat z16.1) (0:Int)<1)=true then some false else if (0:Int)≤z16.1 then if z16.1≤(↑(List.length z15.1):Int) then Option.bind (ZoU k (List.take (Int.toNat z16.1-Int.toNat (0:Int)) (List.drop (Int.toNat (0:Int)) z15.1))) fun z19=>if decide (z19≠0)=true then some false else Option.bind (Zcg k v1) fun z29=>some z29 else none else none else none else none else Option.bind (Zcg k v1) fun z30=>some z30
noncomputable def ZHf:Spec:=Spec.mk [.ro] [(1,.at (.snap 0 (.int .u8)))]
noncomputable def Z3a:LoopDef (Tup Z5W×OutD):= .ends ZHf (Bool) (fun k x=>Zcm k x.2.1) ZaX ZaN Z9a
noncomputable def Ztt:Nat→List Int→List Int→Option Bool
 |0,_,_=>none
 |k+1,p0,p1=>
  if gtS (wrap64 ((↑(List.length p0):Int)+(↑(List.length p1):Int))) (1048576:Int)=true then some true else Option.bind (Z8d k p0) fun z0=>Option.bind (ZcC k (z0.1,z0.2)) fun z1=>Option.bind (ZcT k (z0.1,z0.2)) fun z2=>if (!z1.2.2==z2.2.2)=true then some false else Option.bind (Zgv k (z1.1.1,z1.1.2.1,z1.1.2.2) (z2.1.1,z2.1.2.1,z2.1.2.2)) fun z3=>if (!z3)=true then some false else if decide (z1.2.1≠z2.2.1)=true then some false else if z1.2.2=true then Option.bind (ZcR k (z1.1.1,z1.1.2.1,z1.1.2.2) z1.2.1 (z0.1,z0.2)) fun z4=>Option.bind (ZcK k (z1.1.1,z1.1.2.1,z1.1.2.2) z1.2.1 z0.1) fun z5=>if (!z4.2)=true then some false else if decide ((↑(List.length z4.1):Int)≠0)=true then some false else if (!z5.2)=true then some false else Option.bind (ZkA k (z5.1.1,z5.1.2) (z0.1,z0.2)) fun z6=>if (!z6)=true then some false else Option.bind (ZbM k z1.1.1 z1.1.2.1 z1.1.2.2 z0.2 p1 z1.2.1 (↑(List.length z0.2):Int) (0:Int)) fun z8=>LR.on z8 (fun y8=>Option.bind (Zcm k y8) fun z31=>some z31) fun r8=>some r8 else Option.bind (Zcm k p1) fun z32=>some z32
noncomputable def Z70:FnDef:= .of Zi0 Z5W (Bool) (fun k x=>Ztt k x.1 x.2.1) ZaX ZaN Z9a
noncomputable def Za8:Code:=Tryz.f4.body.getD .skip
noncomputable def ZC:Ctx (Tup Z5W×OutD):={T:=T,G:=[(27,Z1E.E),(5,Z31.E),(6,Z2P.E),(7,Z7U.E),(8,Z2T.E),(9,Z2Y.E),(10,Z85.E),(11,Z6b.E),(28,Z1t.E),(12,Z2w.E),(13,Z2C.E),(14,Z2f.E),(15,Z60.E),(16,Z1S.E),(17,Z4S.E),(18,Z3v.E),(19,Z75.E),(20,ZbF.E),(29,Z1G.E),(21,Z2V.E),(22,Z2S.E),(23,Z6I.E),(24,Z2Z.E),(25,Z3w.E),(26,Z7Z.E)],mvs:=[],no:=0,n:=322,res:=resOf T Zi0 Z5W Tryz.f4.results.toList,loops:=[(0,ZaK.E),(2,Zai.E)],regs:=[],conds:=[],cuts:=[(46,Z34.E),(33,Z39.E),(20,Z3a.E)]}
theorem Zfp(k:Nat):EnvOK Tryz.prog k ZC.G:=(EnvOK.cons (Zu3 k) (EnvOK.cons (ZD5 k) (EnvOK.cons (ZDI k) (EnvOK.cons (ZQ1 k) (EnvOK.cons (ZDQ k) (EnvOK.cons (ZCJ k) (EnvOK.cons (ZQm k) (EnvOK.cons (ZB5 k) (EnvOK.cons (ZsZ k) (EnvOK.cons (ZAm k) (EnvOK.cons (ZAc k) (EnvOK.cons (ZzE k) (EnvOK.cons (ZwF k) (EnvOK.cons (Zwn k) (EnvOK.cons (ZL3 k) (EnvOK.cons (ZEK k) (EnvOK.cons (ZFr k) (EnvOK.cons (ZTo k) (EnvOK.cons (Zu0 k) (EnvOK.cons (ZCz k) (EnvOK.cons (ZCn k) (EnvOK.cons (ZNH k) (EnvOK.cons (ZCM k) (EnvOK.cons (ZFS k) (EnvOK.cons (ZR3 k) (EnvOK.nil mixed))))))))))))))))))))))))))
noncomputable def Zhw:Code:=(findLoop 0 Za8).getD .skip
theorem ZN1(k:Nat)(x:ZmE.D):ZaK.lp (k+1) x=loopK ZC ZaK 0 Zhw k x:=by kernel_rfl
theorem ZLH(k:Nat):LOK Tryz.prog ZC k Zhw:=LOK.by [] (by kernel_rfl) AllOK.nil
theorem ZMP(x:ZmE.D):ZaK.lp 0 x=none:=by kernel_rfl
theorem ZLo(k:Nat):EOK Tryz.prog ZC k ZaK.E (.block 0 (.loop Zhw)):=Zd T_ok Zfp ZMP ZN1 ZLH k
noncomputable def Zhj:Code:=(findLoop 2 Za8).getD .skip
theorem ZME(k:Nat)(x:Zmt.D):Zai.lp (k+1) x=loopK ZC Zai 2 Zhj k x:=by kernel_rfl
theorem ZLY(k:Nat):LOK Tryz.prog ZC k Zhj:=LOK.by [] (by kernel_rfl) AllOK.nil
theorem ZMr(x:Zmt.D):Zai.lp 0 x=none:=by kernel_rfl
theorem ZKx(k:Nat):EOK Tryz.prog ZC k Zai.E (.block 2 (.loop Zhj)):=Zd T_ok Zfp ZMr ZME ZLY k
noncomputable def Zez:Code:=(findCut 46 Za8).getD .skip
theorem ZIj(k:Nat)(i:Z34.inp.D):Z34.lp k i=exec ZC k Zez (Z34.inp.st ZC.n i) (outK ZC Z34) (fun _ _=>none) Z34.mkB:=by kernel_rfl
theorem ZFE(k:Nat):EOK Tryz.prog ZC k Z34.E Zez:=Zyb (D:=Z34) T_ok (Zfp k) (ZIj k) (@LOK.by _ _ _ _ Zez [] (by kernel_rfl) AllOK.nil)
noncomputable def Zeq:Code:=(findCut 33 Za8).getD .skip
theorem ZI2(k:Nat)(i:Z39.inp.D):Z39.lp k i=exec ZC k Zeq (Z39.inp.st ZC.n i) (outK ZC Z39) (fun _ _=>none) Z39.mkB:=by kernel_rfl
theorem ZEA(k:Nat):EOK Tryz.prog ZC k Z39.E Zeq:=Zyb (D:=Z39) T_ok (Zfp k) (ZI2 k) (@LOK.by _ _ _ _ Zeq [(Zai.E,.block 2 (.loop Zhj)),(Z34.E,Zez)] (by kernel_rfl) (AllOK.cons (ZKx k) (AllOK.cons (ZFE k) AllOK.nil)))
noncomputable def ZeI:Code:=(findCut 20 Za8).getD .skip
theorem ZGW(k:Nat)(i:Z3a.inp.D):Z3a.lp k i=exec ZC k ZeI (Z3a.inp.st ZC.n i) (outK ZC Z3a) (fun _ _=>none) Z3a.mkB:=by kernel_rfl
theorem ZEW(k:Nat):EOK Tryz.prog ZC k Z3a.E ZeI:=Zyb (D:=Z3a) T_ok (Zfp k) (ZGW k) (@LOK.by _ _ _ _ ZeI [(Z39.E,Zeq)] (by kernel_rfl) (AllOK.cons (ZEA k) AllOK.nil))
theorem ZSd(k:Nat)(x:Tup Z70.ps):Z70.f (k+1) x=fnK Z70 ZC Za8 k x:=by kernel_rfl
theorem ZRB(x:Tup Z70.ps):Z70.f 0 x=none:=by kernel_rfl
theorem ZSC(k:Nat):LOK Tryz.prog ZC k Za8:=LOK.by [(ZaK.E,.block 0 (.loop Zhw)),(Z3a.E,ZeI)] (by kernel_rfl) (AllOK.cons (ZLo k) (AllOK.cons (ZEW k) AllOK.nil))
theorem ZRo(k:Nat):SoundAt Tryz.prog k 4 Z70.E:= @Z5 Tryz.prog Z70 ZC 4 Tryz.f4 Za8 (by kernel_rfl) (by kernel_rfl) (by kernel_rfl) Tryz.func4 (by kernel_rfl) (by kernel_rfl) (by kernel_rfl) T_ok Zfp ZSC ZRB ZSd k
end
end
section
theorem Z1U(a b c:Int):Ev (fun k=>Z1f k a b c) (decide (b≤a∧a≤c)):=by
 refine Ev.succ ?_
 simp only[Z1f]
 refine Ev.of ?_
 by_cases h1:b≤a<;>by_cases h2:a≤c<;>simp[h1,h2]
theorem Zz7(lo hi:Int): ∀(r pre:List Int),(pre++r).length≤9223372036854775806→Ev (fun k=>ZbW k lo hi (pre++r) ((pre++r).length:Int) (pre.length:Int)) (if r.all (fun n=>decide (lo≤n∧n≤hi)) then LR.go () else LR.ret false)
 |[],pre,hl=>by
  refine Ev.succ ?_
  simp only[ZbW,Zn,decide_false,Bool.false_eq_true,if_false,List.all_nil,if_true]
  exact Ev.some _
 |x::r,pre,hl=>by
  have ih:=Zz7 lo hi r (pre++[x]) (by simpa using hl)
  refine Ev.succ ?_
  simp only[ZbW,Zl,Zu,decide_true,if_true,Int.toNat_natCast,Zg]
  rw[Zk pre x r (by omega)]
  rw[←Ze]at ih
  refine Ev.bind (Z1U x lo hi) ?_
  by_cases hx:lo≤x∧x≤hi
  ·simp only[hx,and_self,List.all_cons,decide_true,Bool.true_and,Bool.not_true,Bool.false_eq_true,if_false];exact ih
  ·simp only[hx,List.all_cons,decide_false,Bool.false_and,Bool.not_false,if_true,Bool.false_eq_true,if_false];exact Ev.some _
theorem ZlZ(l:List Int)(lo hi:Int)(hl:l.length≤9223372036854775806):Ev (fun k=>Zcl k l lo hi) (l.all fun n=>decide (lo≤n∧n≤hi)):=by
 refine Ev.succ ?_
 simp only[Zcl]
 refine Ev.bind (Zz7 lo hi l [] (by simpa using hl)) ?_
 cases hx:l.all fun n=>decide (lo≤n∧n≤hi) with
 |true=>simp only[if_true];exact Ev.go (Ev.some _)
 |false=>simp only[Bool.false_eq_true,if_false];exact Ev.ret (Ev.some _)
end
section
abbrev CellD:=Int×Int
abbrev BoardD:=Int×Int×List (Int×Int)
abbrev FaultD:=Int×Int×Int
def turning(x:CellD):Bool:=decide (x.1=3∨x.1=6)
def cellOK(x:CellD):Bool:=decide (0≤x.1∧x.1≤7∧(x.2=0∨(x.2=1∧(x.1=3∨x.1=6))))
def boardOK(b:BoardD):Bool:=decide (1≤b.1∧b.1≤10∧1≤b.2.1∧b.2.1≤9∧(b.2.2.length:Int)=b.1*b.2.1)&&b.2.2.all cellOK
theorem Zcd(x:CellD):Ev (fun k=>Z6j k x) (turning x):=by
 refine Ev.succ ?_
 simp only[Z6j]
 refine Ev.of ?_
 by_cases h1:x.1=3<;>simp[turning,h1]
theorem ZkB(x:CellD):Ev (fun k=>ZaW k x) (cellOK x):=by
 refine Ev.succ ?_
 simp only[ZaW,decide_eq_true_eq]
 refine Ev.of ?_
 unfold cellOK
 repeat' split
 all_goals (congr 1;first|(symm;rw[decide_eq_true_eq];omega)|(symm;rw[decide_eq_false_iff_not];omega)|(apply decide_eq_decide.2;omega))
theorem ZCf(x:CellD):Ev (fun k=>ZgI k x) (cellOK x):=by
 refine Ev.succ ?_
 simp only[ZgI]
 refine Ev.bind (Z1U _ _ _) ?_
 refine Ev.ite (fun h=> ?_) (fun h=> ?_)
 ·simp only [decide_eq_true_eq] at h
  refine Ev.ite (fun h2=> ?_) (fun h2=> ?_)
  ·simp only [decide_eq_true_eq] at h2
   refine Ev.of ?_
   congr 1;simp[cellOK];omega
  ·simp only [decide_eq_true_eq] at h2
   refine Ev.ite (fun h3=> ?_) (fun h3=> ?_)
   ·simp only [decide_eq_true_eq] at h3
    refine Ev.bind (Zcd x) (Ev.of ?_)
    congr 1;unfold turning cellOK;by_cases h4:x.1=3∨x.1=6<;>simp[h4]<;>omega
   ·simp only [decide_eq_true_eq] at h3
    refine Ev.of ?_
    congr 1;simp[cellOK];omega
 ·simp only [decide_eq_true_eq] at h
  refine Ev.of ?_
  congr 1;simp[cellOK];omega
theorem ZrY(x:CellD):Ev (fun k=>Z3I k x) (cellOK x&&turning x):=by
 refine Ev.succ ?_
 simp only[Z3I]
 refine Ev.bind (ZkB x) ?_
 refine Ev.ite (fun h=> ?_) (fun h=> ?_)
 ·rw [h, Bool.true_and]
  refine Ev.of ?_
  by_cases h1:x.1=3<;>simp[turning,h1]
 ·refine Ev.of ?_
  simp only[Bool.not_eq_true]at h
  rw[h];rfl
theorem Znu: ∀(r pre:List CellD),(pre++r).length≤9223372036854775806→Ev (fun k=>Z5N k (pre++r) ((pre++r).length:Int) (pre.length:Int)) (if r.all cellOK then LR.go () else LR.ret false)
 |[],pre,hl=>by
  refine Ev.succ ?_
  simp only[Z5N,Zn,decide_false,Bool.false_eq_true,if_false,List.all_nil,if_true]
  exact Ev.some _
 |x::r,pre,hl=>by
  have ih:=Znu r (pre++[x]) (by simpa using hl)
  refine Ev.succ ?_
  simp only[Z5N,Zl,Zu,decide_true,if_true,Int.toNat_natCast,Zg]
  rw[Zk pre x r (by omega)]
  rw[←Ze]at ih
  refine Ev.bind (ZkB x) ?_
  cases hx:cellOK x with
  |true=>simp only[hx,List.all_cons,Bool.true_and,Bool.not_true,Bool.false_eq_true,if_false];exact ih
  |false=>simp only[hx,List.all_cons,Bool.false_and,Bool.not_false,if_true,Bool.false_eq_true,if_false];exact Ev.some _
theorem ZII(l:List CellD)(hl:l.length≤9223372036854775806):Ev (fun k=>ZeJ k l) (decide (l.length≤90)&&l.all cellOK):=by
 refine Ev.succ ?_
 simp only[ZeJ]
 refine Ev.ite (fun h=> ?_) (fun h=> ?_)
 ·simp only [decide_eq_true_eq] at h
  refine Ev.of ?_
  have: ¬l.length≤90:=by omega
  simp[this]
 ·simp only [decide_eq_true_eq] at h
  have h2:l.length≤90:=by omega
  refine Ev.bind (Znu l [] (by simpa using hl)) ?_
  simp only[h2,decide_true,Bool.true_and]
  cases hx:l.all cellOK with
  |true=>simp only[if_true];exact Ev.go (Ev.some _)
  |false=>simp only[Bool.false_eq_true,if_false];exact Ev.ret (Ev.some _)
theorem ZU{a b:Int}(h1:1≤a)(h2:a≤10)(h3:1≤b)(h4:b≤9):1≤a*b∧a*b≤90:=
 ⟨by have:=Int.mul_le_mul h1 h3 (by omega) (by omega);omega,by have:=Int.mul_le_mul h2 h4 (by omega) (by omega);omega⟩
theorem Z8A(b:BoardD)(hl:b.2.2.length≤9223372036854775806):Ev (fun k=>Z3W k b) (boardOK b):=by
 refine Ev.succ ?_
 simp only[Z3W,ge_iff_le]
 have no: ∀{c:Prop},¬c→(boardOK b=true→c)→Option.some false=Option.some (boardOK b):=by
  intro c h1 h2
  cases hb:boardOK b with
  |true=>exact absurd (h2 hb) h1
  |false=>rfl
 have hb:boardOK b=true→1≤b.1∧b.1≤10∧1≤b.2.1∧b.2.1≤9∧(b.2.2.length:Int)=b.1*b.2.1:=fun h=>by
  unfold boardOK at h;simp only[Bool.and_eq_true,decide_eq_true_eq]at h;exact h.1
 refine Ev.ite (fun h1=> ?_) (fun h=>Ev.of (no h (fun hh=>by simpa using (hb hh).1)))
 refine Ev.ite (fun h2=> ?_) (fun h=>Ev.of (no h (fun hh=>by simpa using (hb hh).2.1)))
 refine Ev.ite (fun h3=> ?_) (fun h=>Ev.of (no h (fun hh=>by simpa using (hb hh).2.2.1)))
 refine Ev.ite (fun h4=> ?_) (fun h=>Ev.of (no h (fun hh=>by simpa using (hb hh).2.2.2.1)))
 simp only[decide_eq_true_eq]at h1 h2 h3 h4
 have hp:=ZU h1 h2 h3 h4
 rw[w64 (by omega) (by omega)]
 refine Ev.ite (fun h5=> ?_) (fun h=>Ev.of (no h (fun hh=>by simpa using (hb hh).2.2.2.2)))
 simp only[decide_eq_true_eq]at h5
 refine Ev.bind (ZII _ hl) (Ev.of ?_)
 have h6:b.2.2.length≤90:=by omega
 congr 1
 simp only[boardOK,h1,h2,h3,h4,←h5,h6,and_self,decide_true,Bool.true_and]
theorem ZuD: ∀(r pre:List CellD),(pre++r).length≤9223372036854775806→Ev (fun k=>Zac k (pre++r) ((pre++r).length:Int) (pre.length:Int)) (if r.all cellOK then LR.go () else LR.ret false)
 |[],pre,hl=>by
  refine Ev.succ ?_
  simp only[Zac,Zn,decide_false,Bool.false_eq_true,if_false,List.all_nil,if_true]
  exact Ev.some _
 |x::r,pre,hl=>by
  have ih:=ZuD r (pre++[x]) (by simpa using hl)
  refine Ev.succ ?_
  simp only[Zac,Zl,Zu,decide_true,if_true,Int.toNat_natCast,Zg]
  rw[Zk pre x r (by omega)]
  rw[←Ze]at ih
  refine Ev.bind (ZCf x) ?_
  cases hx:cellOK x with
  |true=>simp only[hx,List.all_cons,Bool.true_and,Bool.not_true,Bool.false_eq_true,if_false];exact ih
  |false=>simp only[hx,List.all_cons,Bool.false_and,Bool.not_false,if_true,Bool.false_eq_true,if_false];exact Ev.some _
theorem ZBe(b:BoardD)(hl:b.2.2.length≤9223372036854775806):Ev (fun k=>ZgJ k b) (boardOK b):=by
 refine Ev.succ ?_
 simp only[ZgJ]
 have no: ∀{c:Prop},¬c→(boardOK b=true→c)→Option.some false=Option.some (boardOK b):=by
  intro c h1 h2
  cases hb:boardOK b with
  |true=>exact absurd (h2 hb) h1
  |false=>rfl
 have hb:boardOK b=true→1≤b.1∧b.1≤10∧1≤b.2.1∧b.2.1≤9∧(b.2.2.length:Int)=b.1*b.2.1:=fun h=>by
  unfold boardOK at h;simp only[Bool.and_eq_true,decide_eq_true_eq]at h;exact h.1
 refine Ev.bind (Z1U _ _ _) (Ev.ite (fun h=>Ev.of (no (c:=1≤b.1∧b.1≤10) (nd h) (fun hh=>⟨(hb hh).1,(hb hh).2.1⟩))) (fun h1=> ?_))
 refine Ev.bind (Z1U _ _ _) (Ev.ite (fun h=>Ev.of (no (c:=1≤b.2.1∧b.2.1≤9) (nd h) (fun hh=>⟨(hb hh).2.2.1,(hb hh).2.2.2.1⟩))) (fun h2=> ?_))
 have h1':1≤b.1∧b.1≤10:=yd h1
 have h2':1≤b.2.1∧b.2.1≤9:=yd h2
 have hp:=ZU h1'.1 h1'.2 h2'.1 h2'.2
 rw[w64 (by omega) (by omega)]
 refine Ev.ite (fun h=>Ev.of (no (c:=(b.2.2.length:Int)=b.1*b.2.1) (by simpa using h) (fun hh=>(hb hh).2.2.2.2))) (fun h3=> ?_)
 have h3':(b.2.2.length:Int)=b.1*b.2.1:=by simpa using h3
 refine Ev.bind (ZuD b.2.2 [] (by simpa using hl)) ?_
 have hx2:boardOK b=b.2.2.all cellOK:=by unfold boardOK;simp only[h1'.1,h1'.2,h2'.1,h2'.2,h3',and_self,decide_true,Bool.true_and]
 rw[hx2]
 cases hx:b.2.2.all cellOK with
 |true=>simp only[if_true];exact Ev.go (Ev.some _)
 |false=>simp only[Bool.false_eq_true,if_false];exact Ev.ret (Ev.some _)
theorem ZY{b:BoardD}(h:boardOK b=true):1≤b.1∧b.1≤10∧1≤b.2.1∧b.2.1≤9∧(b.2.2.length:Int)=b.1*b.2.1∧ ∀x∈b.2.2,cellOK x=true:=by
 unfold boardOK at h
 simp only[Bool.and_eq_true,decide_eq_true_eq]at h
 exact ⟨h.1.1,h.1.2.1,h.1.2.2.1,h.1.2.2.2.1,h.1.2.2.2.2,List.all_eq_true.1 h.2⟩
theorem ZOq(b:BoardD)(r c:Int)(hl:b.2.2.length≤9223372036854775806):Ev (fun k=>ZiA k b r c) (boardOK b&&decide (0≤r∧r<b.1∧0≤c∧c<b.2.1)):=by
 refine Ev.succ ?_
 simp only[ZiA,ge_iff_le]
 refine Ev.bind (Z8A b hl) (Ev.ite (fun h=> ?_) (fun h=> ?_))
 ·rw [h, Bool.true_and]
  refine Ev.of ?_
  simp only[decide_eq_true_eq]
  repeat' split
  all_goals (congr 1;first|(symm;rw[decide_eq_true_eq];omega)|(symm;rw[decide_eq_false_iff_not];omega)|(apply decide_eq_decide.2;omega))
 ·refine Ev.of ?_
  simp only[Bool.not_eq_true]at h
  rw[h];rfl
theorem Z78{b:BoardD}(h:boardOK b=true){r c:Int}(h1:0≤r)(h2:r<b.1)(h3:0≤c)(h4:c<b.2.1):0≤r*b.2.1+c∧r*b.2.1+c<(b.2.2.length:Int)∧r*b.2.1+c≤90∧0≤r*b.2.1∧r*b.2.1≤90:=by
 obtain ⟨g1,g2,g3,g4,g5,_⟩:=ZY h
 have hp:=ZU g1 g2 g3 g4
 have k1:0≤r*b.2.1:=Int.mul_nonneg h1 (by omega)
 have k2:(r+1)*b.2.1≤b.1*b.2.1:=Int.mul_le_mul_of_nonneg_right (by omega) (by omega)
 rw[Int.add_mul,Int.one_mul]at k2
 omega
theorem ZrI{l:List CellD}{i:Int}(h0:0≤i)(h1:i<(l.length:Int))(d:CellD):List.getD l i.toNat d∈l:=by
 have:i.toNat<l.length:=by omega
 simp[List.getD,List.getElem?_eq_getElem this]
end
section
def geared(x:CellD):Bool:=decide (x.1=6∨x.1=7)
theorem Zvq(x:CellD):Ev (fun k=>ZdO k x) (geared x):=by
 refine Ev.succ ?_
 simp only[ZdO]
 refine Ev.of ?_
 by_cases h1:x.1=6<;>simp[geared,h1]
theorem ZBD(x:CellD):Ev (fun k=>ZgN k x) (geared x):=by
 refine Ev.succ ?_
 simp only[ZgN]
 refine Ev.of ?_
 by_cases h1:x.1=6<;>simp[geared,h1]
def nears(b:BoardD)(i:Int):List Int:=(if 0<Int.tdiv i b.2.1 then [i-b.2.1] else [])++(if 0<Int.tmod i b.2.1 then [i-1] else [])++(if Int.tmod i b.2.1+1<b.2.1 then [i+1] else [])++(if Int.tdiv i b.2.1+1<b.1 then [i+b.2.1] else [])
theorem ZoY{b:BoardD}(hb:boardOK b=true){i:Int}(h0:0≤i)(h1:i<(b.2.2.length:Int)): ∃q m t:Int,Int.tdiv i b.2.1=q∧Int.tmod i b.2.1=m∧i=t+m∧0≤m∧m<b.2.1∧0≤q∧q<b.1∧0≤t∧t+b.2.1≤(b.2.2.length:Int)∧(1≤q→b.2.1≤t)∧(q+1<b.1→t+b.2.1+b.2.1≤(b.2.2.length:Int)):=by
 obtain ⟨g1,g2,g3,g4,g5,g6⟩:=ZY hb
 have hq:Int.tdiv i b.2.1=i/b.2.1:=Int.tdiv_eq_ediv_of_nonneg h0
 have hm:Int.tmod i b.2.1=i%b.2.1:=Int.tmod_eq_emod_of_nonneg h0
 have e1:=Int.mul_ediv_add_emod i b.2.1
 have e2:=Int.emod_nonneg i (show b.2.1≠0 by omega)
 have e3:=Int.emod_lt_of_pos i (show 0<b.2.1 by omega)
 have e4:0≤i/b.2.1:=Int.ediv_nonneg h0 (by omega)
 have e5:i/b.2.1<b.1:=Int.ediv_lt_of_lt_mul (by omega) (by rw[←g5];exact h1)
 have e6:0≤b.2.1*(i/b.2.1):=Int.mul_nonneg (by omega) e4
 have e7:b.2.1*(i/b.2.1+1)≤b.2.1*b.1:=Int.mul_le_mul_of_nonneg_left (by omega) (by omega)
 rw[Int.mul_add,Int.mul_one,Int.mul_comm b.2.1 b.1,←g5]at e7
 refine ⟨_,_,b.2.1*(i/b.2.1),hq,hm,by omega,e2,e3,e4,e5,e6,e7,fun h=> ?_,fun h=> ?_⟩
 ·have := Int.mul_le_mul_of_nonneg_left h (show 0 ≤ b.2.1 by omega)
  omega
 ·have e8 : b.2.1 * (i / b.2.1 + 2) ≤ b.2.1 * b.1 := Int.mul_le_mul_of_nonneg_left (by omega) (by omega)
  rw[Int.mul_add,Int.mul_comm b.2.1 b.1,←g5]at e8
  omega
theorem ZRM{b:BoardD}(hb:boardOK b=true){i:Int}(h0:0≤i)(h1:i<(b.2.2.length:Int)): ∀n∈nears b i,0≤n∧n<(b.2.2.length:Int):=by
 obtain ⟨q,m,t,hq,hm,k1,k2,k3,k4,k5,k6,k7,k8,k9⟩:=ZoY hb h0 h1
 intro n hn
 unfold nears at hn
 rw[hq,hm]at hn
 simp only[List.mem_append]at hn
 rcases hn with ((hn|hn)|hn)|hn
 ·split at hn
  ·have:=List.mem_singleton.1 hn;have:=k8 (by omega);omega
  ·cases hn
 ·split at hn
  ·have:=List.mem_singleton.1 hn;omega
  ·cases hn
 ·split at hn
  ·have:=List.mem_singleton.1 hn;omega
  ·cases hn
 ·split at hn
  ·have:=List.mem_singleton.1 hn;have:=k9 (by omega);omega
  ·cases hn
theorem ZPn(b:BoardD)(i:Int):(nears b i).length≤4:=by
 unfold nears
 simp only[List.length_append]
 have h1: ∀(c:Prop) [Decidable c] (x:Int),(if c then [x] else []).length≤1:=by intro c _ x;split<;>simp
 have a1:=h1 (0<Int.tdiv i b.2.1) (i-b.2.1)
 have a2:=h1 (0<Int.tmod i b.2.1) (i-1)
 have a3:=h1 (Int.tmod i b.2.1+1<b.2.1) (i+1)
 have a4:=h1 (Int.tdiv i b.2.1+1<b.1) (i+b.2.1)
 omega
theorem ZN4(b:BoardD)(hb:boardOK b=true)(i:Int)(h0:0≤i)(h1:i<(b.2.2.length:Int)):Ev (fun k=>Zhm k b i) (nears b i):=by
 obtain ⟨g1,g2,g3,g4,g5,g6⟩:=ZY hb
 have hp:=ZU g1 g2 g3 g4
 obtain ⟨q,m,t,hq,hm,k1,k2,k3,k4,k5,k6,k7,k8,k9⟩:=ZoY hb h0 h1
 have hC: ¬b.2.1=0:=by omega
 refine Ev.succ ?_
 simp only[Zhm,hC,if_false,nears,hq,hm,gt_iff_lt]
 rw[w64 (n:=q) (by omega) (by omega),w64 (n:=q+1) (by omega) (by omega),w64 (n:=m+1) (by omega) (by omega),w64 (n:=i-b.2.1) (by omega) (by omega),w64 (n:=i-1) (by omega) (by omega),w64 (n:=i+1) (by omega) (by omega),w64 (n:=i+b.2.1) (by omega) (by omega)]
 refine Ev.of ?_
 by_cases h1:0<q<;>by_cases h2:0<m<;>by_cases h3:m+1<b.2.1<;>by_cases h4:q+1<b.1<;>simp[h1,h2,h3,h4]
theorem ZPG(b:BoardD)(hb:boardOK b=true)(i:Int)(h0:0≤i)(h1:i<(b.2.2.length:Int)):Ev (fun k=>Zkp k b i) (nears b i):=by
 obtain ⟨g1,g2,g3,g4,g5,g6⟩:=ZY hb
 have hp:=ZU g1 g2 g3 g4
 obtain ⟨q,m,t,hq,hm,k1,k2,k3,k4,k5,k6,k7,k8,k9⟩:=ZoY hb h0 h1
 have hC: ¬b.2.1=0:=by omega
 refine Ev.succ ?_
 simp only[Zkp,hC,if_false,nears,hq,hm,gt_iff_lt]
 rw[w64 (n:=q) (by omega) (by omega),w64 (n:=q+1) (by omega) (by omega),w64 (n:=m+1) (by omega) (by omega),w64 (n:=i-b.2.1) (by omega) (by omega),w64 (n:=i-1) (by omega) (by omega),w64 (n:=i+1) (by omega) (by omega),w64 (n:=i+b.2.1) (by omega) (by omega)]
 refine Ev.of ?_
 by_cases h1:0<q<;>by_cases h2:0<m<;>by_cases h3:m+1<b.2.1<;>by_cases h4:q+1<b.1<;>simp[h1,h2,h3,h4]
def visit(b:BoardD)(v:Int)(G:List Int×List Int)(n:Int):List Int×List Int:=if geared (List.getD b.2.2 n.toNat (0,0))&&decide (List.getD G.1 n.toNat 0<0) then (List.set G.1 n.toNat v,G.2++[n]) else G
def unl(l:List Int):Nat:=l.countP fun x=>decide (x<0)
theorem ZGF(v:Int)(hv:0≤v): ∀(l:List Int) (i:Nat),i<l.length→List.getD l i 0<0→unl (l.set i v)+1=unl l
 |[],i,h,_=>by simp at h
 |x::l,0,_,h=>by
  have h':x<0:=by simpa using h
  have: ¬v<0:=by omega
  simp[unl,h',this]
 |x::l,i+1,h,h2=>by
  have ih:=ZGF v hv l i (by simpa using h) (by simpa using h2)
  simp only[unl,List.set_cons_succ,List.countP_cons]at ih⊢
  omega
theorem ZTG(l:List Int):unl l≤l.length:=List.countP_le_length
theorem ZPt(b:BoardD)(v:Int)(G:List Int×List Int)(n:Int):(visit b v G n).1.length=G.1.length:=by
 unfold visit;split<;>simp
theorem Zrb(b:BoardD)(v:Int): ∀(r:List Int) (G:List Int×List Int),(r.foldl (visit b v) G).1.length=G.1.length
 |[],G=>rfl
 |n::r,G=>by rw[List.foldl_cons,Zrb b v r,ZPt]
theorem ZUW(b:BoardD)(v:Int)(hv:0≤v)(G:List Int×List Int)(n:Int)(h0:0≤n)(h1:n<(G.1.length:Int)):unl (visit b v G n).1+(visit b v G n).2.length=unl G.1+G.2.length:=by
 unfold visit
 split
 ·rename_i hc
  simp only[Bool.and_eq_true,decide_eq_true_eq]at hc
  have:=ZGF v hv G.1 n.toNat (by omega) hc.2
  simp only[List.length_append,List.length_singleton]
  omega
 ·rfl
theorem ZAt(b:BoardD)(v:Int)(hv:0≤v): ∀(r:List Int) (G:List Int×List Int),(∀n∈r,0≤n∧n<(G.1.length:Int))→unl (r.foldl (visit b v) G).1+(r.foldl (visit b v) G).2.length=unl G.1+G.2.length
 |[],G,_=>rfl
 |n::r,G,h=>by
  rw[List.foldl_cons,ZAt b v hv r _ (fun m hm=>by rw[ZPt];exact h m (List.mem_cons_of_mem _ hm))]
  exact ZUW b v hv G n (h n (List.mem_cons_self ..)).1 (h n (List.mem_cons_self ..)).2
theorem ZrG(b:BoardD)(v:Int): ∀(r:List Int) (o2 o3 a:List Int),(r.foldl (visit b v) (o2,o3++a))=((r.foldl (visit b v) (o2,a)).1,o3++(r.foldl (visit b v) (o2,a)).2)
 | [], o2, o3, a => rfl
 |n::r,o2,o3,a=>by
  simp only[List.foldl_cons]
  by_cases hc:(geared (List.getD b.2.2 n.toNat (0,0))&&decide (List.getD o2 n.toNat 0<0))=true
  ·have e1 : visit b v (o2, o3 ++ a) n = (List.set o2 n.toNat v, o3 ++ (a ++ [n])) := by simp only [visit]; rw [if_pos hc, List.append_assoc]
   have e2:visit b v (o2,a) n=(List.set o2 n.toNat v,a++[n]):=by simp only[visit];rw[if_pos hc]
   rw[e1,e2]
   exact ZrG b v r _ o3 _
  ·have e1 : visit b v (o2, o3 ++ a) n = (o2, o3 ++ a) := by simp only [visit]; rw [if_neg hc]
   have e2:visit b v (o2,a) n=(o2,a):=by simp only[visit];rw[if_neg hc]
   rw[e1,e2]
   exact ZrG b v r o2 o3 a
theorem ZAh(b:BoardD)(v:Int)(P:Int→Prop): ∀(r:List Int) (G:List Int×List Int),(∀n∈r,P n)→(∀n∈G.2,P n)→ ∀n∈(r.foldl (visit b v) G).2,P n
 | [], G, _, h => h
 |m::r,G,h,hg=>by
  rw[List.foldl_cons]
  refine ZAh b v P r _ (fun n hn=>h n (List.mem_cons_of_mem _ hn)) (fun n hn=> ?_)
  unfold visit at hn
  split at hn
  ·rcases List.mem_append.1 hn with hn | hn
   ·exact hg n hn
   ·rw[List.mem_singleton.1 hn];exact h m (List.mem_cons_self ..)
  ·exact hg n hn
theorem Zf5(b:BoardD)(hb:boardOK b=true)(v:Int)(hv:0≤v)(v26:List CellD)(v27 v28:Int): ∀(r pre o2 o3:List Int),(∀n∈r,0≤n∧n<(b.2.2.length:Int))→(pre++r).length≤100→o2.length=b.2.2.length→o3.length+unl o2≤1000→
  Ev (fun k=>Z29 k b.1 b.2.1 b.2.2 o2 o3 (pre++r) v v26 v27 v28 ((pre++r).length:Int) (pre.length:Int)) (b.1,b.2.1,b.2.2,(r.foldl (visit b v) (o2,o3)).1,(r.foldl (visit b v) (o2,o3)).2,v,v26,v27,v28)
 | [], pre, o2, o3, hr, hl, h2, h3 => by
  refine Ev.succ ?_
  simp only[Z29,Zn,decide_false,Bool.false_eq_true,if_false]
  exact Ev.some _
 |x::r,pre,o2,o3,hr,hl,h2,h3=>by
  obtain ⟨hx0,hx1⟩:=hr x (List.mem_cons_self ..)
  have hx2:x<(o2.length:Int):=by omega
  have hr': ∀n∈r,0≤n∧n<(b.2.2.length:Int):=fun n hn=>hr n (List.mem_cons_of_mem _ hn)
  have ih0:=Zf5 b hb v hv v26 v27 v28 r (pre++[x]) o2 o3 hr' (by simpa using hl) h2 h3
  rw[←Ze]at ih0
  have hn:=Zk pre x r (by omega)
  refine Ev.succ ?_
  simp only[Z29,Zl,Zu,decide_true,if_true,Int.toNat_natCast,Zg,hn,hx0,hx1,hx2]
  refine Ev.bind (Zvq (List.getD b.2.2 x.toNat (0,0))) ?_
  rw[List.foldl_cons]
  by_cases hg : geared (List.getD b.2.2 x.toNat (0, 0)) = true
  ·simp only [hg, if_true]
   by_cases ho:List.getD o2 x.toNat 0<0
   ·have e1 : visit b v (o2, o3) x = (List.set o2 x.toNat v, o3 ++ [x]) := by unfold visit; rw [if_pos (by simp only [hg, ho, decide_true, Bool.and_self])]
    have hu:=ZGF v hv o2 x.toNat (by omega) ho
    have hle:o3.length+1≤140737488355328/8:=by omega
    have ih:=Zf5 b hb v hv v26 v27 v28 r (pre++[x]) (List.set o2 x.toNat v) (o3++[x]) hr' (by simpa using hl) (by simpa using h2) (by simp;omega)
    rw[←Ze]at ih
    simp only[ho,decide_true,if_true,List.length_singleton,hle]
    rw[e1]
    exact ih
   ·have e1 : visit b v (o2, o3) x = (o2, o3) := by unfold visit; rw [if_neg (by simp only [ho, decide_false, Bool.and_false, Bool.false_eq_true, not_false_eq_true])]
    simp only[ho,decide_false,Bool.false_eq_true,if_false]
    rw[e1]
    exact ih0
  ·have e1 : visit b v (o2, o3) x = (o2, o3) := by unfold visit; rw [if_neg (by simp only [hg, Bool.false_and, Bool.false_eq_true, not_false_eq_true])]
   simp only[hg,Bool.false_eq_true,if_false]
   rw[e1]
   exact ih0
theorem Zjo(b:BoardD)(hb:boardOK b=true)(v:Int)(hv:0≤v)(v9:Int)(v26:List CellD)(v27 v28:Int): ∀(r pre o2 o3:List Int),(∀n∈r,0≤n∧n<(b.2.2.length:Int))→(pre++r).length≤100→o2.length=b.2.2.length→o3.length+unl o2≤1000→
  Ev (fun k=>Z48 k b.1 b.2.1 b.2.2 o2 o3 (pre++r) v v9 v26 v27 v28 ((pre++r).length:Int) (pre.length:Int)) (b.1,b.2.1,b.2.2,(r.foldl (visit b v) (o2,o3)).1,(r.foldl (visit b v) (o2,o3)).2,v,v9,v26,v27,v28)
 | [], pre, o2, o3, hr, hl, h2, h3 => by
  refine Ev.succ ?_
  simp only[Z48,Zn,decide_false,Bool.false_eq_true,if_false]
  exact Ev.some _
 |x::r,pre,o2,o3,hr,hl,h2,h3=>by
  obtain ⟨hx0,hx1⟩:=hr x (List.mem_cons_self ..)
  have hx2:x<(o2.length:Int):=by omega
  have hr': ∀n∈r,0≤n∧n<(b.2.2.length:Int):=fun n hn=>hr n (List.mem_cons_of_mem _ hn)
  have ih0:=Zjo b hb v hv v9 v26 v27 v28 r (pre++[x]) o2 o3 hr' (by simpa using hl) h2 h3
  rw[←Ze]at ih0
  have hn:=Zk pre x r (by omega)
  refine Ev.succ ?_
  simp only[Z48,Zl,Zu,decide_true,if_true,Int.toNat_natCast,Zg,hn,hx0,hx1,hx2]
  refine Ev.bind (ZBD (List.getD b.2.2 x.toNat (0,0))) ?_
  rw[List.foldl_cons]
  by_cases hg : geared (List.getD b.2.2 x.toNat (0, 0)) = true
  ·simp only [hg, if_true]
   by_cases ho:List.getD o2 x.toNat 0<0
   ·have e1 : visit b v (o2, o3) x = (List.set o2 x.toNat v, o3 ++ [x]) := by unfold visit; rw [if_pos (by simp only [hg, ho, decide_true, Bool.and_self])]
    have hu:=ZGF v hv o2 x.toNat (by omega) ho
    have hle:o3.length+1≤140737488355328/8:=by omega
    have ih:=Zjo b hb v hv v9 v26 v27 v28 r (pre++[x]) (List.set o2 x.toNat v) (o3++[x]) hr' (by simpa using hl) (by simpa using h2) (by simp;omega)
    rw[←Ze]at ih
    simp only[ho,decide_true,if_true,List.length_singleton,hle]
    rw[e1]
    exact ih
   ·have e1 : visit b v (o2, o3) x = (o2, o3) := by unfold visit; rw [if_neg (by simp only [ho, decide_false, Bool.and_false, Bool.false_eq_true, not_false_eq_true])]
    simp only[ho,decide_false,Bool.false_eq_true,if_false]
    rw[e1]
    exact ih0
  ·have e1 : visit b v (o2, o3) x = (o2, o3) := by unfold visit; rw [if_neg (by simp only [hg, Bool.false_and, Bool.false_eq_true, not_false_eq_true])]
   simp only[hg,Bool.false_eq_true,if_false]
   rw[e1]
   exact ih0
def bfs(b:BoardD)(v:Int):Nat→List Int→List Int→List Int
 |0,o2,_=>o2
 |_+1,o2,[]=>o2
 |n+1,o2,x::q=>bfs b v n ((nears b x).foldl (visit b v) (o2,[])).1 (q++((nears b x).foldl (visit b v) (o2,[])).2)
theorem ZGB(b:BoardD)(v:Int): ∀(n:Nat) (o2 q:List Int),(bfs b v n o2 q).length=o2.length
 |0,o2,_=>rfl
 |_+1,o2,[]=>rfl
 |n+1,o2,x::q=>by simp only[bfs];rw[ZGB b v n,Zrb]
theorem ZlI(b:BoardD)(hb:boardOK b=true)(v:Int)(hv:0≤v)(v26:List CellD)(v27 v28:Int): ∀(n:Nat) (o2 q:List Int),(∀m∈q,0≤m∧m<(b.2.2.length:Int))→o2.length=b.2.2.length→unl o2+q.length+1≤n→q.length+unl o2≤1000→
  Ev (fun k=>Z3d k b.1 b.2.1 b.2.2 o2 q v v26 v27 v28) (b.1,b.2.1,b.2.2,bfs b v n o2 q,v,v26,v27,v28)
 |0,o2,q,hq,h2,hn,hm=>by omega
 |n+1,o2,[],hq,h2,hn,hm=>by
  refine Ev.succ ?_
  simp only[Z3d,List.length_nil]
  have: ¬((0:Nat):Int)>0:=by omega
  simp only[this,decide_false,Bool.false_eq_true,if_false]
  exact Ev.some _
 |n+1,o2,x::q,hq,h2,hn,hm=>by
  obtain ⟨hx0,hx1⟩:=hq x (List.mem_cons_self ..)
  have hlen:(((x::q).length:Nat):Int)>0:=by simp only[List.length_cons];omega
  have hlen1:(1:Int)≤(((x::q).length:Nat):Int):=by omega
  have hlen0:(0:Int)<(((x::q).length:Nat):Int):=by omega
  have hin:=ZRM hb hx0 hx1
  have hun:=ZAt b v hv (nears b x) (o2,[]) (fun m hm=>by rw[h2];exact hin m hm)
  simp only[List.length_nil,Nat.add_zero]at hun
  simp only[List.length_cons]at hn hm
  refine Ev.succ ?_
  simp only[Z3d,hlen,hlen1,hlen0,Int.le_refl,decide_true,if_true]
  refine Ev.bind (ZN4 b hb x hx0 hx1) ?_
  have h6:=Zf5 b hb v hv v26 v27 v28 (nears b x) [] o2 q hin (by have:=ZPn b x;simp;omega) h2 (by omega)
  refine Ev.bind h6 ?_
  have happ:=ZrG b v (nears b x) o2 q []
  rw[List.append_nil]at happ
  rw[happ]
  show Ev (fun k=>Z3d k b.1 b.2.1 b.2.2 (List.foldl (visit b v) (o2,[]) (nears b x)).1 (q++(List.foldl (visit b v) (o2,[]) (nears b x)).2) v v26 v27 v28) _
  exact ZlI b hb v hv v26 v27 v28 n _ _ (fun m hm=>by
   rcases List.mem_append.1 hm with hm|hm
   ·exact hq m (List.mem_cons_of_mem _ hm)
   ·exact ZAh b v (fun m=>0≤m∧m<(b.2.2.length:Int)) (nears b x) (o2,[]) hin (fun m hm=>by cases hm) m hm) (by rw[Zrb];exact h2) (by rw[List.length_append];omega) (by rw[List.length_append];omega)
theorem ZqA(b:BoardD)(hb:boardOK b=true)(v:Int)(hv:0≤v)(v26:List CellD)(v27 v28:Int): ∀(n:Nat) (o2 q pre:List Int),(∀m∈q,0≤m∧m<(b.2.2.length:Int))→o2.length=b.2.2.length→unl o2+q.length+1≤n→(pre++q).length+unl o2≤1000→
  Ev (fun k=>Z5z k b.1 b.2.1 b.2.2 o2 (pre++q) v (pre.length:Int) v26 v27 v28) (b.1,b.2.1,b.2.2,bfs b v n o2 q,v,v26,v27,v28)
 |0,o2,q,pre,hq,h2,hn,hm=>by omega
 |n+1,o2,[],pre,hq,h2,hn,hm=>by
  refine Ev.succ ?_
  simp only[Z5z,Zn,decide_false,Bool.false_eq_true,if_false]
  exact Ev.some _
 |n+1,o2,x::q,pre,hq,h2,hn,hm=>by
  obtain ⟨hx0,hx1⟩:=hq x (List.mem_cons_self ..)
  have hin:=ZRM hb hx0 hx1
  have hun:=ZAt b v hv (nears b x) (o2,[]) (fun m hm=>by rw[h2];exact hin m hm)
  simp only[List.length_nil,Nat.add_zero]at hun
  have hm':=hm
  simp only[List.length_cons,List.length_append]at hn hm'
  refine Ev.succ ?_
  simp only[Z5z,Zl,Zu,decide_true,if_true,Int.toNat_natCast,Zg]
  refine Ev.bind (ZPG b hb x hx0 hx1) ?_
  have h6:=Zjo b hb v hv (pre.length:Int) v26 v27 v28 (nears b x) [] o2 (pre++x::q) hin (by have:=ZPn b x;simp;omega) h2 hm
  refine Ev.bind h6 ?_
  have happ:=ZrG b v (nears b x) o2 (pre++x::q) []
  rw[List.append_nil]at happ
  rw[happ]
  show Ev (fun k=>Z5z k b.1 b.2.1 b.2.2 (List.foldl (visit b v) (o2,[]) (nears b x)).1 ((pre++x::q)++(List.foldl (visit b v) (o2,[]) (nears b x)).2) v (wrap64 ((pre.length:Int)+1)) v26 v27 v28) _
  rw[Zk pre x q (by simp;omega),Ze,List.append_assoc]
  exact ZqA b hb v hv v26 v27 v28 n _ _ (pre++[x]) (fun m hm=>by
   rcases List.mem_append.1 hm with hm|hm
   ·exact hq m (List.mem_cons_of_mem _ hm)
   ·exact ZAh b v (fun m=>0≤m∧m<(b.2.2.length:Int)) (nears b x) (o2,[]) hin (fun m hm=>by cases hm) m hm) (by rw[Zrb];exact h2) (by rw[List.length_append];omega) (by simp only[List.length_append,List.length_singleton];omega)
def groupsFrom(b:BoardD):Int→List CellD→List Int→Int→List Int
 |_,[],o2,_=>o2
 |i,x::r,o2,v=>if geared x&&decide (List.getD o2 i.toNat 0<0) then groupsFrom b (i+1) r (bfs b v 200 (List.set o2 i.toNat v) [i]) (v+1) else groupsFrom b (i+1) r o2 v
theorem Zoe(b:BoardD): ∀(r:List CellD) (i:Int) (o2:List Int) (v:Int),(groupsFrom b i r o2 v).length=o2.length
 |[],_,_,_=>rfl
 |x::r,i,o2,v=>by
  simp only[groupsFrom]
  split
  ·rw[Zoe b r,ZGB,List.length_set]
  ·exact Zoe b r _ _ _
def groupsOf(b:BoardD):List Int:=groupsFrom b 0 b.2.2 (List.replicate b.2.2.length (-1)) 0
theorem ZhS(b:BoardD):(groupsOf b).length=b.2.2.length:=by unfold groupsOf;rw[Zoe];simp
theorem ZlB(b:BoardD)(m:Int): ∀(r pre:List Int),m=((pre++r).length:Int)→(pre++r).length≤1000→Ev (fun k=>Z4H k b.1 b.2.1 b.2.2 (pre++r) m (pre.length:Int)) (b.1,b.2.1,b.2.2,pre++List.replicate r.length (-1))
 |[],pre,hm,hl=>by
  refine Ev.succ ?_
  have: ¬(pre.length:Int)<m:=by rw[hm];exact Zn pre
  simp only[Z4H,this,decide_false,Bool.false_eq_true,if_false]
  exact Ev.of (by simp)
 |x::r,pre,hm,hl=>by
  have ih:=ZlB b m r (pre++[-1]) (by rw[hm];simp) (by simpa using hl)
  have hlt:(pre.length:Int)<m:=by rw[hm];exact Zl _ _ _
  have hn2:((pre++[x]).length:Int)=((pre++[(-1:Int)]).length:Int):=by simp
  refine Ev.succ ?_
  simp only[Z4H,hlt,Zl,Zu,decide_true,if_true,Int.toNat_natCast,Zy9]
  rw[Zk pre x r (by omega),hn2]
  rw[←Ze]at ih
  refine ih.congr ?_
  simp[List.replicate_succ]
theorem Zfi(b:BoardD)(hb:boardOK b=true): ∀(r pre:List CellD) (o2:List Int) (v:Int),pre++r=b.2.2→o2.length=b.2.2.length→0≤v→v≤pre.length→Ev (fun k=>Z1y k b.1 b.2.1 b.2.2 o2 v (pre++r) ((pre++r).length:Int) (pre.length:Int)) (groupsFrom b pre.length r o2 v)
 | [], pre, o2, v, hpr, h2, hv, hv2 => by
  refine Ev.succ ?_
  simp only[Z1y,Zn,decide_false,Bool.false_eq_true,if_false]
  exact Ev.some _
 |x::r,pre,o2,v,hpr,h2,hv,hv2=>by
  obtain ⟨g1,g2,g3,g4,g5,g6⟩:=ZY hb
  have hp:=ZU g1 g2 g3 g4
  have hl90:(pre++x::r).length≤90:=by rw[hpr];omega
  have hn:=Zk pre x r (by omega)
  have hc:((pre++[x]).length:Int)=(pre.length:Int)+1:=by simp
  have hlt:=Zl pre x r
  have hlo:(pre.length:Int)<(o2.length:Int):=by rw[h2,←hpr];exact hlt
  have ih0:=Zfi b hb r (pre++[x]) o2 v (by rw[←hpr];simp) h2 hv (by simp;omega)
  rw[←Ze,hc]at ih0
  refine Ev.succ ?_
  simp only[Z1y,Zl,Zu,decide_true,if_true,Int.toNat_natCast,Zg,hn,hc,hlo]
  refine Ev.bind (Zvq x) ?_
  cases hg:geared x with
  |false=>
   simp only[Bool.not_false,if_true,groupsFrom,hg,Bool.false_and,Bool.false_eq_true,if_false]
   exact ih0
  |true=>
   simp only[Bool.not_true,Bool.false_eq_true,if_false]
   refine Ev.ite (fun h=> ?_) (fun h=> ?_)
   ·simp only [ge_iff_le, decide_eq_true_eq] at h
    have hno: ¬List.getD o2 pre.length 0<0:=by omega
    simp only[groupsFrom,hg,Int.toNat_natCast,hno,decide_false,Bool.and_false,Bool.false_eq_true,if_false]
    exact ih0
   ·simp only [ge_iff_le, decide_eq_true_eq] at h
    have hno:List.getD o2 pre.length 0<0:=by omega
    have hul:=ZTG (List.set o2 pre.length v)
    rw[List.length_set,h2,←hpr]at hul
    have h4:=ZlI b hb v hv (pre++x::r) ((pre++x::r).length:Int) (pre.length:Int) 200 (List.set o2 pre.length v) [(pre.length:Int)] (fun m hm=>by rw[List.mem_singleton.1 hm,←hpr];exact ⟨by omega,hlt⟩) (by rw[List.length_set];exact h2) (by simp;omega) (by simp;omega)
    refine Ev.bind h4 ?_
    have ih:=Zfi b hb r (pre++[x]) (bfs b v 200 (List.set o2 pre.length v) [(pre.length:Int)]) (v+1) (by rw[←hpr];simp) (by rw[ZGB,List.length_set];exact h2) (by omega) (by simp;omega)
    rw[←Ze,hc]at ih
    show Ev (fun k=>Z1y k b.1 b.2.1 b.2.2 (bfs b v 200 (List.set o2 pre.length v) [(pre.length:Int)]) (wrap64 (v+1)) (pre++x::r) ((pre++x::r).length:Int) (wrap64 ((pre.length:Int)+1))) _
    rw[w64 (n:=v+1) (by omega) (by omega),hn,hc]
    simp only[groupsFrom,hg,Int.toNat_natCast,hno,decide_true,Bool.and_self,if_true]
    exact ih
theorem ZgV(b:BoardD)(hb:boardOK b=true):Ev (fun k=>Z24 k b) (groupsOf b):=by
 obtain ⟨g1,g2,g3,g4,g5,g6⟩:=ZY hb
 have hp:=ZU g1 g2 g3 g4
 have hm:b.2.2.length*8≤281474976710656:=by omega
 refine Ev.succ ?_
 simp only[Z24,Int.toNat_natCast,hm,if_true]
 refine Ev.bind (ZlB b _ (List.replicate b.2.2.length 0) [] rfl (by simp;omega)) ?_
 have hrep:([]:List Int)++List.replicate (List.replicate b.2.2.length (0:Int)).length (-1)=List.replicate b.2.2.length (-1):=by simp
 rw[hrep]
 exact Ev.bind (Zfi b hb b.2.2 [] (List.replicate b.2.2.length (-1)) 0 rfl (by simp) (by omega) (by simp)) (Ev.some _)
theorem ZqQ(b:BoardD)(m:Int): ∀(r pre:List Int),m=((pre++r).length:Int)→(pre++r).length≤1000→Ev (fun k=>Z7O k b.1 b.2.1 b.2.2 (pre++r) m (pre.length:Int)) (b.1,b.2.1,b.2.2,pre++List.replicate r.length (-1))
 |[],pre,hm,hl=>by
  refine Ev.succ ?_
  have: ¬(pre.length:Int)<m:=by rw[hm];exact Zn pre
  simp only[Z7O,this,decide_false,Bool.false_eq_true,if_false]
  exact Ev.of (by simp)
 |x::r,pre,hm,hl=>by
  have ih:=ZqQ b m r (pre++[-1]) (by rw[hm];simp) (by simpa using hl)
  have hlt:(pre.length:Int)<m:=by rw[hm];exact Zl _ _ _
  have hn2:((pre++[x]).length:Int)=((pre++[(-1:Int)]).length:Int):=by simp
  refine Ev.succ ?_
  simp only[Z7O,hlt,Zl,Zu,decide_true,if_true,Int.toNat_natCast,Zy9]
  rw[Zk pre x r (by omega),hn2]
  rw[←Ze]at ih
  refine ih.congr ?_
  simp[List.replicate_succ]
theorem ZjR(b:BoardD)(hb:boardOK b=true): ∀(r pre:List CellD) (o2:List Int) (v:Int),pre++r=b.2.2→o2.length=b.2.2.length→0≤v→v≤pre.length→Ev (fun k=>Z37 k b.1 b.2.1 b.2.2 o2 v (pre++r) ((pre++r).length:Int) (pre.length:Int)) (groupsFrom b pre.length r o2 v)
 | [], pre, o2, v, hpr, h2, hv, hv2 => by
  refine Ev.succ ?_
  simp only[Z37,Zn,decide_false,Bool.false_eq_true,if_false]
  exact Ev.some _
 |x::r,pre,o2,v,hpr,h2,hv,hv2=>by
  obtain ⟨g1,g2,g3,g4,g5,g6⟩:=ZY hb
  have hp:=ZU g1 g2 g3 g4
  have hl90:(pre++x::r).length≤90:=by rw[hpr];omega
  have hn:=Zk pre x r (by omega)
  have hc:((pre++[x]).length:Int)=(pre.length:Int)+1:=by simp
  have hlt:=Zl pre x r
  have hlo:(pre.length:Int)<(o2.length:Int):=by rw[h2,←hpr];exact hlt
  have ih0:=ZjR b hb r (pre++[x]) o2 v (by rw[←hpr];simp) h2 hv (by simp;omega)
  rw[←Ze,hc]at ih0
  refine Ev.succ ?_
  simp only[Z37,Zl,Zu,decide_true,if_true,Int.toNat_natCast,Zg,hn,hc,hlo]
  refine Ev.bind (ZBD x) ?_
  cases hg:geared x with
  |false=>
   simp only[Bool.not_false,if_true,groupsFrom,hg,Bool.false_and,Bool.false_eq_true,if_false]
   exact ih0
  |true=>
   simp only[Bool.not_true,Bool.false_eq_true,if_false]
   refine Ev.ite (fun h=> ?_) (fun h=> ?_)
   ·simp only [ge_iff_le, decide_eq_true_eq] at h
    have hno: ¬List.getD o2 pre.length 0<0:=by omega
    simp only[groupsFrom,hg,Int.toNat_natCast,hno,decide_false,Bool.and_false,Bool.false_eq_true,if_false]
    exact ih0
   ·simp only [ge_iff_le, decide_eq_true_eq] at h
    have hno:List.getD o2 pre.length 0<0:=by omega
    have hul:=ZTG (List.set o2 pre.length v)
    rw[List.length_set,h2,←hpr]at hul
    have h4:=ZqA b hb v hv (pre++x::r) ((pre++x::r).length:Int) (pre.length:Int) 200 (List.set o2 pre.length v) [(pre.length:Int)] [] (fun m hm=>by rw[List.mem_singleton.1 hm,←hpr];exact ⟨by omega,hlt⟩) (by rw[List.length_set];exact h2) (by simp;omega) (by simp;omega)
    refine Ev.bind h4 ?_
    have ih:=ZjR b hb r (pre++[x]) (bfs b v 200 (List.set o2 pre.length v) [(pre.length:Int)]) (v+1) (by rw[←hpr];simp) (by rw[ZGB,List.length_set];exact h2) (by omega) (by simp;omega)
    rw[←Ze,hc]at ih
    show Ev (fun k=>Z37 k b.1 b.2.1 b.2.2 (bfs b v 200 (List.set o2 pre.length v) [(pre.length:Int)]) (wrap64 (v+1)) (pre++x::r) ((pre++x::r).length:Int) (wrap64 ((pre.length:Int)+1))) _
    rw[w64 (n:=v+1) (by omega) (by omega),hn,hc]
    simp only[groupsFrom,hg,Int.toNat_natCast,hno,decide_true,Bool.and_self,if_true]
    exact ih
theorem ZvA(b:BoardD)(hb:boardOK b=true):Ev (fun k=>Z1C k b) (groupsOf b):=by
 obtain ⟨g1,g2,g3,g4,g5,g6⟩:=ZY hb
 have hp:=ZU g1 g2 g3 g4
 have hm:b.2.2.length*8≤281474976710656:=by omega
 refine Ev.succ ?_
 simp only[Z1C,Int.toNat_natCast,hm,if_true]
 refine Ev.bind (ZqQ b _ (List.replicate b.2.2.length 0) [] rfl (by simp;omega)) ?_
 have hrep:([]:List Int)++List.replicate (List.replicate b.2.2.length (0:Int)).length (-1)=List.replicate b.2.2.length (-1):=by simp
 rw[hrep]
 exact Ev.bind (ZjR b hb b.2.2 [] (List.replicate b.2.2.length (-1)) 0 rfl (by simp) (by omega) (by simp)) (Ev.some _)
end
end Go.Proofs.YtmhfhiofcoggbaaGreat.Vs
