/- The proof, part 4. -/
import Derived.Test.YtmhfhiofcoggbaaGreatqT2m2
import Derived.Laws.StructEq
import Derived.Carry
import Derived.ChangeArms
import Derived.SizedLaws
import Derived.Deep.Slices
import Derived.WideShapes
import Derived.ChangeOld
import Derived.ChangeShapes
import Derived.OpenShut
import Derived.Test.YtmhfhiofcoggbaaGreatProg
import Derived.KernelRfl
set_option linter.unusedVariables false
set_option linter.unusedSimpArgs false
namespace Go.Proofs.YtmhfhiofcoggbaaGreat.Vs
open Go.RowKit
section
section
variable {P:Program}
theorem TyOK.scal{t:TypeId}{ty:Ty}{b:Nat}{d:TypeDesc}(hi:(P.info? t).map (fun x=>(x.zero,x.size,x.bytes))=some (some (zval ⟨.scal,ty,b,false⟩),ty.sz,b))(hb:0<b)(h1:ty.sz=1)(hd:scalDesc ty=some d)(hu:P.underlying t=some d):TyOK P t ⟨.scal,ty,b,false⟩:=
 ⟨hi,hb,fun _=>h1,⟨d,hd,hu⟩,fun h=>by cases h⟩
theorem TyOK.slice{t e:TypeId}{ty:Ty}{b:Nat}(hi:(P.info? t).map (fun x=>(x.zero,x.size,x.bytes))=some (some (zval ⟨.slice e,ty,b,false⟩),ty.sz,b))(hb:0<b)(h1:ty.sz=1)(hu:P.underlying t=some (.slice e)):TyOK P t ⟨.slice e,ty,b,false⟩:=
 ⟨hi,hb,fun _=>h1,hu,fun h=>by cases h⟩
theorem TyOK.arr{t e:TypeId}{n:Nat}{ty:Ty}{b:Nat}(hi:(P.info? t).map (fun x=>(x.zero,x.size,x.bytes))=some (some (zval ⟨.arr n e,ty,b,false⟩),ty.sz,b))(hb:0<b)(hu:P.underlying t=some (.array n e)):TyOK P t ⟨.arr n e,ty,b,false⟩:=
 ⟨hi,hb,(fun h=>by simp[TI.isAgg]at h),hu,fun h=>by cases h⟩
def fieldsOK(P:Program)(fs:List (Nat×TypeId)):Bool:=fs.all fun p=>match P.info? p.2 with|some x=>x.size !=0|none=>false
theorem TyOK.struct{t:TypeId}{fs:List (Nat×TypeId)}{ty:Ty}{b:Nat}(hi:(P.info? t).map (fun x=>(x.zero,x.size,x.bytes))=some (some (zval ⟨.struct fs,ty,b,false⟩),ty.sz,b))(hb:0<b)(hu:(P.underlying t).bind fieldsOf=some fs)(hf:fieldsOK P fs=true):TyOK P t ⟨.struct fs,ty,b,false⟩:=
 ⟨hi, hb, (fun h => by simp [TI.isAgg] at h), ⟨hu, fun p hp => by
  have:=List.all_eq_true.1 hf p hp
  split at this
  ·rename_i x hx
   exact ⟨x,hx,by simpa using this⟩
  ·cases this⟩,(fun h=>by cases h)⟩
def intFit(P:Program):List Field→Nat→Bool
 |[],_=>true
 |f::fs,o=>f.name != "_" &&f.offset==o&&(match P.underlying f.type with|some (.int .i64)=>true|_=>false)&&intFit P fs (o+1)
theorem ZKn{f:Field}{xs:List Int}{w:World}(hu:P.underlying f.type=some (.int .i64))(hl:f.offset<xs.length):(part f.type (xs.map (Value.int .i64)).toArray f.offset).run P w= .ok (.int .i64 xs[f.offset]) w:=by
 unfold part
 rw[Sem.run_bind]
 have ha:(isAgg f.type).run P w= .ok false w:=by unfold isAgg;rw[Sem.run_bind,run_underlying hu];rfl
 rw[ha]
 have hg:(xs.map (Value.int .i64)).toArray[f.offset]? =some (.int .i64 xs[f.offset]):=by simp[List.getElem?_eq_getElem hl]
 simp only[Result.andThen_ok,Bool.false_eq_true,if_false,hg]
 rfl
theorem Zqe{d:Nat}{xs ys:List Int}{w:World}(hxy:xs.length=ys.length): ∀{fs:List Field} {o:Nat},intFit P fs o=true→o+fs.length=xs.length→(Op.eqFields (d+1) (xs.map (Value.int .i64)).toArray (ys.map (Value.int .i64)).toArray fs).run P w= .ok (decide (xs.drop o=ys.drop o)) w
 | [], o, _, hl => by
  simp only[List.length_nil,Nat.add_zero]at hl
  rw[List.drop_of_length_le (by omega),List.drop_of_length_le (by omega)]
  simp[Op.eqFields]
 |f::fs,o,hf,hl=>by
  simp only[intFit,Bool.and_eq_true,beq_iff_eq]at hf
  obtain ⟨⟨⟨h1,h2⟩,h3⟩,h4⟩:=hf
  simp only[List.length_cons]at hl
  have hu:P.underlying f.type=some (.int .i64):=by
   split at h3
   ·assumption
   ·cases h3
  subst h2
  have hn:f.name≠ "_" :=by simpa using h1
  have hx:=ZKn (P:=P) (w:=w) (xs:=xs) hu (by omega)
  have hy:=ZKn (P:=P) (w:=w) (xs:=ys) hu (by omega)
  have ih:=Zqe (d:=d) (w:=w) hxy h4 (by omega)
  rw[Op.eqFields]
  simp only[if_pos hn,Sem.run_bind,hx,hy,run_equalIn_int w d f.type .i64 .i64 _ _ hu,Result.andThen_ok]
  rw[List.drop_eq_getElem_cons (show f.offset<xs.length by omega),List.drop_eq_getElem_cons (show f.offset<ys.length by omega)]
  by_cases he:xs[f.offset]=ys[f.offset]
  ·simp only [he, beq_self_eq_true, Bool.not_true, Bool.false_eq_true, if_false, ih, List.cons.injEq, true_and]
  ·have hb : (xs[f.offset] == ys[f.offset]) = false := by simpa using he
   simp only[hb,he,List.cons.injEq,false_and,decide_false,Bool.not_false,if_true]
   rfl
def eqOK(P:Program)(t:TypeId)(n:Nat):Bool:=match P.underlying t with
 |some (.struct fs)=> !P.stoodInHeld t&& !P.eqGuardType P.depth t&&intFit P fs.toList 0&&fs.size==n
 |_=>false
theorem TyOK.structE{t:TypeId}{fs:List (Nat×TypeId)}{ty:Ty}{b:Nat}(he:eqOK P t ty.sz=true)(hi:(P.info? t).map (fun x=>(x.zero,x.size,x.bytes))=some (some (zval ⟨.struct fs,ty,b,true⟩),ty.sz,b))(hb:0<b)(hu:(P.underlying t).bind fieldsOf=some fs)(hf:fieldsOK P fs=true):TyOK P t ⟨.struct fs,ty,b,true⟩:=by
 refine ⟨hi,hb,(fun h=>by simp[TI.isAgg]at h),⟨hu,fun p hp=>by
  have:=List.all_eq_true.1 hf p hp
  split at this
  ·rename_i x hx
   exact ⟨x,hx,by simpa using this⟩
  ·cases this⟩, ?_⟩
 intro _ xs ys hx hy x y op hop w
 unfold eqOK at he
 split at he
 ·rename_i gs hgs
  simp only[Bool.and_eq_true,Bool.not_eq_true',beq_iff_eq]at he
  obtain ⟨⟨⟨h1,h2⟩,h3⟩,h4⟩:=he
  simp only at hx hy
  have hfo:P.fieldsOf t=gs:=by simp[Program.fieldsOf,hgs]
  have hrun:(Op.equalIn 10000 t (.agg (xs.map (Value.int .i64)).toArray) (.agg (ys.map (Value.int .i64)).toArray)).run P w= .ok (decide (xs=ys)) w:=by
   rw[run_equalIn_struct (P:=P) w 9999 t _ _ (by rw[hfo];exact hgs) h1,hfo]
   have:=Zqe (P:=P) (d:=9998) (w:=w) (xs:=xs) (ys:=ys) (by omega) h3 (by rw[Array.length_toList,h4];omega)
   simpa using this
  rcases hop with rfl|rfl
  ·rw [Sem.run_bind, run_eqGuard_agg w .eql t x y _ _ h2]
   simp only[Result.andThen_ok,run_eql_struct,hrun,if_true]
  ·rw [Sem.run_bind, run_eqGuard_agg w .neq t x y _ _ h2]
   simp only[Result.andThen_ok,run_neq_struct,hrun]
   rfl
 ·cases he
theorem KeyLaw.int{k:TypeId}(hu:P.underlying k=some (.int .i64)):KeyLaw P k false 1:=by
 have one : ∀ ks : List Int, ks.length = 1 → ∃ q, ks = [q] := fun ks h => by
  match ks,h with
  | [q], _ => exact ⟨q, rfl⟩
 refine ⟨fun w em ks h=> ?_,fun w ks es E h hE hk=> ?_,fun w ks h=> ?_⟩
 ·obtain ⟨q, rfl⟩ := one ks h
  exact MapKept.run_checkKey hu (show MapKept.IsKey (.int .i64) (.int .i64 q) from rfl) em 9999
 ·obtain ⟨q, rfl⟩ := one ks h
  refine MapKept.run_findKey hu ?_
  show Instr.findNow (.int .i64) (.int .i64 q) es 0=some (findIx [q] es E 0)
  have : ∀ (es : List MapEntry) (E : List (List Int)) (i : Nat), (∀ x ∈ E, x.length = 1) → es.map (·.key) = E.map (keyV false) → Instr.findNow (.int .i64) (.int .i64 q) es i = some (findIx [q] es E i) := by
   intro es
   induction es with
   |nil=>intro E i _ _;cases E<;>rfl
   |cons e es ih=>
    intro E i hE hk
    cases E with
    |nil=>simp at hk
    |cons x E=>
     simp only[List.map_cons,List.cons.injEq]at hk
     obtain ⟨q',rfl⟩:=one x (hE x (List.mem_cons_self ..))
     have h1:e.key= .int .i64 q':=hk.1
     have ih':=ih E (i+1) (fun y hy=>hE y (List.mem_cons_of_mem _ hy)) hk.2
     simp only[Instr.findNow,h1,Instr.sameNow,if_true,findIx]
     by_cases hq:q=q'
     ·subst hq; simp
     ·have h2 : (q == q') = false := by simpa using hq
      have h3: ¬[q']=[q]:=fun h=>hq (by injection h with h _;exact h.symm)
      simp only[h2,h3,if_false,ih']
  exact this es E 0 hE hk
 ·obtain ⟨q, rfl⟩ := one ks h
  simp[Instr.keyThatStays,keyV,Instr.sameBits]
theorem KeyLaw.struct{k:TypeId}{n:Nat}(he:eqOK P k n=true):KeyLaw P k true n:=by
 unfold eqOK at he
 split at he
 ·rename_i gs hgs
  simp only[Bool.and_eq_true,Bool.not_eq_true',beq_iff_eq]at he
  obtain ⟨⟨⟨h1,h2⟩,h3⟩,h4⟩:=he
  have hfo : P.fieldsOf k = gs := by simp [Program.fieldsOf, hgs]
  have heq : ∀ (w : World) (xs ys : List Int), xs.length = n → ys.length = n → (Op.equal k (.agg (xs.map (Value.int .i64)).toArray) (.agg (ys.map (Value.int .i64)).toArray)).run P w = .ok (decide (xs = ys)) w := by
   intro w xs ys hx hy
   unfold Op.equal Op.maxDepth
   rw [run_equalIn_struct (P := P) w 9999 k _ _ (by rw [hfo]; exact hgs) h1, hfo]
   have := Zqe (P := P) (d := 9998) (w := w) (xs := xs) (ys := ys) (by omega) h3 (by rw [Array.length_toList, h4]; omega)
   simpa using this
  refine ⟨fun w em ks h=> ?_,fun w ks es E h hE hk=> ?_,fun w ks h=> ?_⟩
  ·show (Instr.checkKey em (9999 + 1) k (.agg (ks.map (Value.int .i64)).toArray)).run P w = .ok () w
   rw [Instr.checkKey]
   simp only[Sem.run_bind,run_underlying hgs,Result.andThen_ok]
   rw [← Array.forIn_toList]
   have hlen:gs.toList.length=n:=by rw[Array.length_toList];exact h4
   have : ∀ (L : List Field) (o : Nat), intFit P L o = true → o + L.length = ks.length → (forIn L PUnit.unit fun f _ => (if f.name ≠ "_" then (do
      let x←part f.type (ks.map (Value.int .i64)).toArray f.offset
      Instr.checkKey em 9999 f.type x
      pure (ForInStep.yield PUnit.unit)) else pure (ForInStep.yield PUnit.unit):Sem (ForInStep PUnit))).run P w= .ok PUnit.unit w:=by
    intro L
    induction L with
    |nil=>intro o _ _;simp
    |cons f L ih=>
     intro o hf hl
     simp only[intFit,Bool.and_eq_true,beq_iff_eq]at hf
     obtain ⟨⟨⟨g1,g2⟩,g3⟩,g4⟩:=hf
     simp only[List.length_cons]at hl
     have hu:P.underlying f.type=some (.int .i64):=by
      split at g3
      ·assumption
      ·cases g3
     subst g2
     have hn:f.name≠ "_" :=by simpa using g1
     have hx:=ZKn (P:=P) (w:=w) (xs:=ks) hu (by omega)
     have hc:=MapKept.run_checkKey (P:=P) (w:=w) hu (show MapKept.IsKey (.int .i64) (.int .i64 ks[f.offset]) from rfl) em 9998
     simp only[List.forIn_cons,Sem.run_bind,hn,ne_eq,not_false_eq_true,if_true,Result.andThen_ok,hx,hc,Sem.run_pure]
     exact ih (f.offset+1) g4 (by omega)
   rw [this gs.toList 0 h3 (by omega)]
   rfl
  ·have asking : ∀ (es : List MapEntry) (E : List (List Int)) (i : Nat), (∀ x ∈ E, x.length = n) → es.map (·.key) = E.map (keyV true) → (Instr.findAsking k (keyV true ks) es i).run P w = .ok (findIx ks es E i) w := by
    intro es
    induction es with
    |nil=>intro E i _ _;cases E<;>rfl
    |cons e es ih=>
     intro E i hE hk
     cases E with
     |nil=>simp at hk
     |cons x E=>
      simp only[List.map_cons,List.cons.injEq]at hk
      have h5:e.key= .agg (x.map (Value.int .i64)).toArray:=hk.1
      have ih':=ih E (i+1) (fun y hy=>hE y (List.mem_cons_of_mem _ hy)) hk.2
      have hq:=heq w ks x h (hE x (List.mem_cons_self ..))
      simp only[Instr.findAsking,Sem.run_bind,h5,show keyV true ks= .agg (ks.map (Value.int .i64)).toArray from rfl,hq,Result.andThen_ok,findIx]
      by_cases hx:ks=x
      ·subst hx; simp
      ·have hx2 : ¬ x = ks := fun h => hx h.symm
       simp only[hx,hx2,decide_false,Bool.false_eq_true,if_false]
       exact ih'
   cases es with
   |nil=>
    refine (MapKept.run_findKey hgs (a:=none) rfl).trans ?_
    cases E<;>rfl
   |cons e es=>
    have hnone:Instr.findNow (.struct gs) (keyV true ks) (e::es) 0=none:=by simp[Instr.findNow,keyV,Instr.sameNow]
    unfold Instr.findKey
    simp only[Sem.run_bind,run_underlying hgs,Result.andThen_ok,hnone]
    exact asking (e::es) E 0 hE hk
  ·have hsb : ∀ (l : List Int), (l.map (Value.int .i64)).zip (l.map (Value.int .i64)) |>.all (fun (x, y) => Instr.sameBits 9999 x y) := by
    intro l
    induction l with
    |nil=>rfl
    |cons q l ih=>simp only[List.map_cons,List.zip_cons_cons,List.all_cons,ih,Bool.and_true];simp[Instr.sameBits]
   have:Instr.sameBits 10000 (keyV true ks) (keyV true ks)=true:=by
    show ((ks.map (Value.int .i64)).toArray.size==(ks.map (Value.int .i64)).toArray.size&&_)=true
    rw[beq_self_eq_true,Bool.true_and]
    exact hsb ks
   unfold Instr.keyThatStays
   rw[if_pos this]
   rfl
 ·cases he
theorem MapOK.int{t k e:TypeId}(hu:P.underlying t=some (.map k e))(hk:P.underlying k=some (.int .i64)):MapOK P t (k,e,false,1):=⟨hu,.int hk⟩
theorem MapOK.struct{t k e:TypeId}{n:Nat}(hu:P.underlying t=some (.map k e))(hk:eqOK P k n=true):MapOK P t (k,e,true,n):=⟨hu,.struct hk⟩
def EntryOK(P:Program)(p:TypeId×TI):Prop:=match p.2.d with
 | .map k e ag n=>MapOK P p.1 (k,e,ag,n)
 | .fn=>FnTy P p.1
 |_=>TyOK P p.1 p.2
theorem TTok.of{T:TT}(h: ∀p∈T,EntryOK P p):TTok P T:=by
 refine ⟨fun t i hi=> ?_,fun t m hm=> ?_,fun t ht=> ?_⟩
 ·unfold TT.get at hi
  obtain ⟨p,hp,rfl⟩:=Option.map_eq_some_iff.1 hi
  have h1:=List.find?_some hp
  have h2:=List.mem_of_find?_eq_some hp
  simp only[Bool.and_eq_true,beq_iff_eq,Bool.not_eq_true']at h1
  have:=h p h2
  rw[←h1.1.1]
  unfold EntryOK at this
  unfold TI.isMap TI.isFn at h1
  split at this
  ·rename_i k e ag n hd
   rw[hd]at h1
   cases h1.1.2
  ·rename_i hd
   rw[hd]at h1
   cases h1.2
  ·exact this
 ·unfold TT.mapOf at hm
  split at hm
  ·rename_i p hp
   have h1:=List.find?_some hp
   have h2:=List.mem_of_find?_eq_some hp
   simp only[Bool.and_eq_true,beq_iff_eq]at h1
   have:=h p h2
   unfold EntryOK at this
   split at hm
   ·rename_i k e ag n hd
    injection hm with hm
    subst hm
    rw[hd]at this
    rw[←h1.1]
    exact this
   ·cases hm
  ·cases hm
 ·unfold TT.isFn at ht
  obtain ⟨p,hp,h1⟩:=List.any_eq_true.1 ht
  simp only[Bool.and_eq_true,beq_iff_eq]at h1
  have:=h p hp
  unfold EntryOK at this
  unfold TI.isFn at h1
  split at h1
  ·rename_i hd
   rw[hd]at this
   rw[←h1.1]
   exact this
  ·cases h1.2
end
noncomputable section
def castU{u v:Ty}(h:u=v)(ys:List u.D):List v.D:=h▸ys
def FnDef.of(ps rs:List PK)(R:Type)(f:Nat→Tup ps→Option R)(toB:R→Tup rs×OutD)(ret:Tup rs×OutD→Option R)(h: ∀b r,ret b=some r→toB r=b):FnDef where
 ps:=ps
 rs:=rs
 R:=R
 f:=f
 dsp:=fun z K=>K (toB z).1 (toB z).2
 ret:=ret
 hret:=fun b z K hb=>by rw[h b z hb]
def LoopDef.plain{B:Type}(inp out:Spec)(Z:Type)(lp:Nat→inp.D→Option Z)(to:Z→out.D)(of:out.D→Z)(h: ∀y,to (of y)=y):LoopDef B where
 inp:=inp
 out:=out
 Z:=Z
 lp:=lp
 dsp:=fun z KN _=>KN (to z)
 mkN:=fun y=>some (of y)
 mkB:=fun _=>none
 hN:=fun y z KN KB hz=>by injection hz with hz;subst hz;rw[h]
 hB:=fun b z KN KB hz=>by cases hz
inductive LR (Z R:Type) where
 |go (z:Z)|ret (r:R)
def LR.on{Z R γ:Type}(z:LR Z R)(f:Z→Option γ)(g:R→Option γ):Option γ:=match z with| .go y=>f y| .ret r=>g r
def LoopDef.rets{B:Type}(inp out:Spec)(Z R:Type)(lp:Nat→inp.D→Option (LR Z R))(to:Z→out.D)(of:out.D→Z)(h: ∀y,to (of y)=y)(toB:R→B)(ret:B→Option R)(hB: ∀b r,ret b=some r→toB r=b):LoopDef B where
 inp:=inp
 out:=out
 Z:=LR Z R
 lp:=lp
 dsp:=fun z KN KB=>z.on (fun y=>KN (to y)) (fun r=>KB (toB r))
 mkN:=fun y=>some (.go (of y))
 mkB:=fun b=>match ret b with|some r=>some (.ret r)|none=>none
 hN:=fun y z KN KB hz=>by injection hz with hz;subst hz;simp only[LR.on,h]
 hB:=fun b z KN KB hz=>by
  split at hz
  ·rename_i r hr
   injection hz with hz
   subst hz
   simp only[LR.on,hB b r hr]
  ·cases hz
end
def LoopDef.ends{B:Type}(inp:Spec)(R:Type)(lp:Nat→inp.D→Option R)(toB:R→B)(ret:B→Option R)(hB: ∀b r,ret b=some r→toB r=b):LoopDef B where
 inp:=inp
 out:=⟨[],[]⟩
 Z:=R
 lp:=lp
 dsp:=fun z _ KB=>KB (toB z)
 mkN:=fun _=>none
 mkB:=ret
 hN:=fun _ _ _ _ hz=>nomatch hz
 hB:=fun b z _ KB hz=>by rw[hB b z hz]
def findCut(id:Nat):Code→Option Code
 | .seq a b=>if headId b=some id then some b else match findCut id a with
  |some c=>some c
  |none=>findCut id b
 | .cond _ a b=>match findCut id a with
  |some c=>some c
  |none=>findCut id b
 | .block _ c=>findCut id c
 | .loop c=>findCut id c
 |_=>none
theorem EnvOK.nil{P:Program}{k:Nat}(h:P.follows .mixedOrders=true):EnvOK P k []:=⟨h,(fun f E h=>by cases h),(fun f E c h=>by cases h)⟩
theorem Env.get_cons{f g:FuncId}{E E':CallE}{G:Env}(hg:Env.get ((f,E)::G) g=some E'):(f=g∧E=E')∨G.get g=some E':=by
 unfold Env.get at hg
 rw[List.find?_cons]at hg
 split at hg
 ·rename_i hb
  have hfg:f=g:=beq_iff_eq.1 hb
  simp only[Option.map_some]at hg
  injection hg with hg
  exact .inl ⟨hfg,hg⟩
 ·exact .inr hg
theorem EnvOK.cons{P:Program}{k:Nat}{f:FuncId}{E:CallE}{G:Env}(h:SoundAt P k f E)(hG:EnvOK P k G)(hc:E.cl=none:=by rfl):EnvOK P k ((f,E)::G):=by
 refine ⟨hG.mixed,fun g E' hg=> ?_,fun g E' c hg hgc=> ?_⟩
 ·rcases Env.get_cons hg with ⟨rfl, rfl⟩ | hg
  ·exact h
  ·exact hG.ok g E' hg
 ·rcases Env.get_cons hg with ⟨rfl, rfl⟩ | hg
  ·rw[hc]at hgc;cases hgc
  ·exact hG.okc g E' c hg hgc
def cloE(c:CloE):CallE where
 ps:=[{t:= .bool,own:=some (0,0,.bool)}]
 rs:=[]
 fn:=fun _ _ _=>none
 cl:=some c
theorem EnvOK.consC{P:Program}{k:Nat}{f:FuncId}{c:CloE}{G:Env}(h:ClSound P k f c)(hG:EnvOK P k G):EnvOK P k ((f,cloE c)::G):=by
 refine ⟨hG.mixed,fun g E' hg=> ?_,fun g E' c' hg hgc=> ?_⟩
 ·rcases Env.get_cons hg with ⟨rfl, rfl⟩ | hg
  ·exact ⟨h.enter, fun _ _ _ _ _ _ _ _ _ _ _ hk => by cases hk⟩
  ·exact hG.ok g E' hg
 ·rcases Env.get_cons hg with ⟨rfl, rfl⟩ | hg
  ·injection hgc with hgc
   subst hgc
   exact h
  ·exact hG.okc g E' c' hg hgc
def findLoop(id:Nat):Code→Option Code
 | .seq a b=>match findLoop id a with
  |some c=>some c
  |none=>findLoop id b
 | .cond _ a b=>match findLoop id a with
  |some c=>some c
  |none=>findLoop id b
 | .block i (.loop c)=>if i=id then some c else findLoop id c
 | .block _ c=>findLoop id c
 | .loop c=>findLoop id c
 |_=>none
theorem Z7{Z:Type}(z:Z):some [z]=repl 1 (some z):=rfl
theorem Zc{Z:Type}{c:Prop}[Decidable c]{m:Nat}{x y:Option Z}:(if c then repl m x else repl m y)=repl m (if c then x else y):=by split<;>rfl
theorem Z8{Z:Type}{c:Prop}[Decidable c]{m:Nat}{x:Option Z}:(if c then repl m x else none)=repl m (if c then x else none):=by split<;>rfl
theorem Z9{Z:Type}{c:Prop}[Decidable c]{m:Nat}{x:Option Z}:(if c then none else repl m x)=repl m (if c then none else x):=by split<;>rfl
theorem Z6{Y Z:Type}{m:Nat}{x:Option Y}{g:Y→Option Z}:(Option.bind x fun z=>repl m (g z))=repl m (Option.bind x g):=by cases x<;>rfl
theorem Z3{Z:Type}{m n:Nat}{x:Option Z}:joinL (repl m x) (repl n x)=repl (m+n) x:=by
 cases x with
 |none=>rfl
 |some z=>simp[repl,joinL,List.replicate_append_replicate]
def findCond(d:Tmp):Code→Option (Code×Code)
 | .seq a b=>match findCond d a with
  |some c=>some c
  |none=>findCond d b
 | .cond (.tmp e) a b=>if e=d then some (a,b) else match findCond d a with
  |some c=>some c
  |none=>findCond d b
 | .cond _ a b=>match findCond d a with
  |some c=>some c
  |none=>findCond d b
 | .block _ c=>findCond d c
 | .loop c=>findCond d c
 |_=>none
def findReg(id:Nat):Code→Option (Array Oper)
 | .seq a b=>match findReg id a with
  |some c=>some c
  |none=>findReg id b
 | .cond _ a b=>match findReg id a with
  |some c=>some c
  |none=>findReg id b
 | .block _ c=>findReg id c
 | .loop c=>findReg id c
 | .region i ops true=>if i=id then some ops else none
 |_=>none
def needs{B:Type}(X:Ctx B):Code→List (LoopE B×Code)
 | .seq a b=>needs X a++(match cutE X b with
  |some E=>[(E,b)]
  |none=>needs X b)
 | .cond c a b=>match condE X c with
  |some E=>[(E,.cond c a b)]
  |none=>needs X a++needs X b
 | .block id c=>match findE X.loops id with
  |some E=>[(E,.block id c)]
  |none=>needs X c
 | .region id ops true=>match findE X.regs id with
  |some E=>[(E,.region id ops true)]
  |none=>[]
 |_=>[]
def AllOK{B:Type}(P:Program)(X:Ctx B)(k:Nat)(l:List (LoopE B×Code)):Prop:= ∀p∈l,EOK P X k p.1 p.2
theorem AllOK.nil{B:Type}{P:Program}{X:Ctx B}{k:Nat}:AllOK P X k []:=fun p hp=>by cases hp
theorem AllOK.cons{B:Type}{P:Program}{X:Ctx B}{k:Nat}{E:LoopE B}{c:Code}{l:List (LoopE B×Code)}(h:EOK P X k E c)(hl:AllOK P X k l):AllOK P X k ((E,c)::l):=by
 intro p hp
 rcases List.mem_cons.1 hp with rfl|hp
 ·exact h
 ·exact hl p hp
theorem AllOK.left{B:Type}{P:Program}{X:Ctx B}{k:Nat}{l l':List (LoopE B×Code)}(h:AllOK P X k (l++l')):AllOK P X k l:=fun p hp=>h p (List.mem_append.2 (.inl hp))
theorem AllOK.right{B:Type}{P:Program}{X:Ctx B}{k:Nat}{l l':List (LoopE B×Code)}(h:AllOK P X k (l++l')):AllOK P X k l':=fun p hp=>h p (List.mem_append.2 (.inr hp))
theorem LOK.of{B:Type}{P:Program}{X:Ctx B}{k:Nat}: ∀{c:Code},AllOK P X k (needs X c)→LOK P X k c:=by
 intro c
 induction c with
 |seq a b iha ihb=>
  intro h
  simp only[LOK]
  simp only[needs]at h
  refine ⟨iha h.left,?_⟩
  have h2:=h.right
  split
  ·rename_i E hE
   rw[hE]at h2
   exact (h2 (E,b) (List.mem_cons_self ..):EOK P X k E b)
  ·rename_i hE
   rw[hE]at h2
   exact ihb h2
 |cond c a b iha ihb=>
  intro h
  simp only[LOK]
  simp only[needs]at h
  split
  ·rename_i E hE
   rw[hE]at h
   exact h _ (List.mem_cons_self ..)
  ·rename_i hE
   rw[hE]at h
   exact ⟨iha h.left,ihb h.right⟩
 |block id c ih=>
  intro h
  simp only[LOK]
  simp only[needs]at h
  split
  ·rename_i E hE
   rw[hE]at h
   exact h _ (List.mem_cons_self ..)
  ·rename_i hE
   rw[hE]at h
   exact ih h
 |region id ops d=>
  intro h
  cases d with
  |false=>trivial
  |true=>
   simp only[LOK]
   simp only[needs]at h
   split
   ·rename_i E hE
    rw[hE]at h
    exact h _ (List.mem_cons_self ..)
   ·trivial
 |_=>intro _;trivial
theorem LOK.by{B:Type}{P:Program}{X:Ctx B}{k:Nat}{c:Code}(l:List (LoopE B×Code))(h:needs X c=l)(h2:AllOK P X k l):LOK P X k c:=LOK.of (by rw[h];exact h2)
theorem Z5{P:Program}{D:FnDef}{X:Ctx (Tup D.rs×OutD)}{f:FuncId}{fn:Func}{body:Code}(hX:X.res=resOf X.T D.ps D.rs fn.results.toList)(hXno:X.no=noOf D.ps)(hXn:X.n=fn.ntmps)(hf:P.funcs[f]? =some fn)(hb:fn.body=some body)
  (hn:(fn.name== "runtime.NumGoroutine")=false) (h1:oneOwn D.ps=true) (hT:TTok P X.T) (hG: ∀k,EnvOK P k X.G) (hL: ∀k,LOK P X k body) (h0: ∀x,D.f 0 x=none) (hs: ∀k x,D.f (k+1) x=fnK D X body k x) (k:Nat):SoundAt P k f D.E:=by
 cases k with
 |zero=>exact .zero (Z4a hf hn (by rw[hb];rfl)) h0
 |succ k=>exact ZVc hX hXno hXn hf hb hn h1 hT (hG k) (hL k) (hs k)
end
section
def Ev{α:Type}(f:Nat→Option α)(v:α):Prop:= ∃n,∀k,n≤k→f k=some v
section
variable {α β:Type} {f g:Nat→Option α} {v:α} {a:β}
theorem Ev.some(v:α):Ev (fun _=>some v) v:=⟨0,fun _ _=>rfl⟩
theorem Ev.of{x:Option α}(h:x=Option.some v):Ev (fun _=>x) v:=⟨0,fun _ _=>h⟩
theorem Ev.succ(h:Ev (fun k=>f (k+1)) v):Ev f v:=by
 obtain ⟨n,h⟩:=h
 refine ⟨n+1,fun k hk=> ?_⟩
 obtain ⟨m,rfl⟩: ∃m,k=m+1:=⟨k-1,by omega⟩
 exact h m (by omega)
theorem Ev.bind{x:Nat→Option β}{y:β→Nat→Option α}(h:Ev x a)(h2:Ev (y a) v):Ev (fun k=>Option.bind (x k) fun z=>y z k) v:=by
 obtain ⟨n,h⟩:=h
 obtain ⟨m,h2⟩:=h2
 exact ⟨max n m,fun k hk=>by show Option.bind (x k) _=_;rw[h k (by omega)];exact h2 k (by omega)⟩
theorem Ev.ite{c:Prop}[Decidable c](h1:c→Ev f v)(h2: ¬c→Ev g v):Ev (fun k=>if c then f k else g k) v:=by
 by_cases hc:c
 ·simp only[if_pos hc];exact h1 hc
 ·simp only[if_neg hc];exact h2 hc
theorem Ev.go{Z R:Type}{z:Z}{x:Z→Nat→Option α}{y:R→Nat→Option α}(h:Ev (x z) v):Ev (fun k=>LR.on (LR.go z:LR Z R) (fun a=>x a k) (fun r=>y r k)) v:=h
theorem Ev.ret{Z R:Type}{r:R}{x:Z→Nat→Option α}{y:R→Nat→Option α}(h:Ev (y r) v):Ev (fun k=>LR.on (LR.ret r:LR Z R) (fun a=>x a k) (fun r=>y r k)) v:=h
theorem Ev.congr(h:Ev f v){w:α}(hw:v=w):Ev f w:=hw▸h
theorem Ev.at(h:Ev f v): ∃k,f k=Option.some v:=by obtain ⟨n,h⟩:=h;exact ⟨n,h n (Nat.le_refl _)⟩
end
theorem w64{n:Int}(h1: -9223372036854775808≤n)(h2:n≤9223372036854775807):wrap64 n=n:=by unfold wrap64;omega
theorem nd{c:Prop}[Decidable c](h:(!decide c)=true): ¬c:=by simpa using h
theorem yd{c:Prop}[Decidable c](h: ¬(!decide c)=true):c:=by simpa using h
section
variable {α:Type}
theorem Zg(pre:List α)(x:α)(r:List α)(d:α):List.getD (pre++x::r) pre.length d=x:=by simp[List.getD]
theorem Zy9(pre:List α)(x y:α)(r:List α):List.set (pre++x::r) pre.length y=pre++y::r:=by simp
theorem Zl(pre:List α)(x:α)(r:List α):(pre.length:Int)<((pre++x::r).length:Int):=by simp;omega
theorem Zu(pre:List α):(0:Int)≤(pre.length:Int):=Int.natCast_nonneg _
theorem Zn(pre:List α): ¬(pre.length:Int)<((pre++([]:List α)).length:Int):=by simp
theorem Zk(pre:List α)(x:α)(r:List α)(h:(pre++x::r).length≤9223372036854775806):wrap64 ((pre.length:Int)+1)=((pre++[x]).length:Int):=by
 simp only[List.length_append,List.length_cons,List.length_nil]at h⊢
 rw[w64 (by omega) (by omega)]
 omega
theorem Ze(pre:List α)(x:α)(r:List α):pre++x::r=(pre++[x])++r:=by simp
end
end
section
open Go.RowKit Go.ChangeShapes Go.WideShapes Go.Deep
def nestTy:List Ty→Ty
 |[]=> .bool
 |[u]=>u
 |u::v::r=> .pair u (nestTy (v::r))
def szs(l:List Ty):Nat:=(l.map Ty.sz).sum
inductive Deep (P:Program):TypeId→Ty→Prop
 |int {t:TypeId} {k:IntKind} (h:P.underlying t=some (.int k)):Deep P t (.int k)
 |bool {t:TypeId} (h:P.underlying t=some .bool):Deep P t .bool
 |str {t:TypeId} (h:P.underlying t=some .string):Deep P t .str
 |slice {t e:TypeId} {u:Ty} (h:P.underlying t=some (.slice e)) (hc:P.cellsOf e=u.sz) (hu:Deep P e u):Deep P t (.slice e u)
 |struct {t:TypeId} {fs:Array Field} (l:List Ty) (h:P.underlying t=some (.struct fs)) (hn:l≠[]) (hl:l.length=fs.size) (hc:P.cellsOf t=szs l)
   (ho: ∀(i:Nat) f u,fs[i]? =some f→l[i]? =some u→f.offset=szs (l.take i)∧P.cellsOf f.type=u.sz) (hf: ∀(i:Nat) f u,fs[i]? =some f→l[i]? =some u→Deep P f.type u):Deep P t (nestTy l)
def fieldsFit(P:Program):List Field→List Ty→Nat→Bool
 |[],[],_=>true
 |f::fs,u::l,o=>f.offset==o&&P.cellsOf f.type==u.sz&&fieldsFit P fs l (o+u.sz)
 |_,_,_=>false
def FieldsDeep(P:Program):List Field→List Ty→Prop
 |f::fs,u::l=>Deep P f.type u∧FieldsDeep P fs l
 |_,_=>True
theorem ZE6{P:Program}: ∀{fs:List Field} {l:List Ty} {o:Nat},fieldsFit P fs l o=true→l.length=fs.length∧ ∀(i:Nat) f u,fs[i]? =some f→l[i]? =some u→f.offset=o+szs (l.take i)∧P.cellsOf f.type=u.sz
 | [], [], _, _ => ⟨rfl, fun i f u h => by simp at h⟩
 |f::fs,[],_,h=>by cases h
 | [], u :: l, _, h => by cases h
 |f::fs,u::l,o,h=>by
  simp only[fieldsFit,Bool.and_eq_true,beq_iff_eq]at h
  obtain ⟨⟨h1,h2⟩,h3⟩:=h
  obtain ⟨g1,g2⟩:=ZE6 h3
  refine ⟨by simp[g1],fun i f' u' hf hu=> ?_⟩
  cases i with
  |zero=>
   simp at hf hu
   subst hf;subst hu
   exact ⟨by simpa[szs]using h1,h2⟩
  |succ i=>
   simp only[List.getElem?_cons_succ]at hf hu
   obtain ⟨k1,k2⟩:=g2 i f' u' hf hu
   exact ⟨by rw[k1];simp[szs,Nat.add_assoc],k2⟩
theorem ZC3{P:Program}: ∀{fs:List Field} {l:List Ty},FieldsDeep P fs l→ ∀(i:Nat) f u,fs[i]? =some f→l[i]? =some u→Deep P f.type u
 | [], _, _, i, f, u, hf, _ => by simp at hf
 |_::_,[],_,i,f,u,_,hu=>by simp at hu
 |f::fs,u::l,h,i,f',u',hf,hu=>by
  cases i with
  |zero=>
   simp at hf hu
   subst hf;subst hu
   exact h.1
  |succ i=>
   simp only[List.getElem?_cons_succ]at hf hu
   exact ZC3 h.2 i f' u' hf hu
theorem Deep.mk{P:Program}{t:TypeId}{fs:Array Field}(l:List Ty)(h:P.underlying t=some (.struct fs))(hn:l≠[])(hc:P.cellsOf t=szs l)(hx:fieldsFit P fs.toList l 0=true)(hd:FieldsDeep P fs.toList l):Deep P t (nestTy l):=by
 obtain ⟨h1,h2⟩:=ZE6 hx
 refine .struct l h hn (by simpa using h1) hc (fun i f u hf hu=> ?_) (fun i f u hf hu=>ZC3 hd i f u (by simpa using hf) hu)
 obtain ⟨g1,g2⟩:=h2 i f u (by simpa using hf) hu
 exact ⟨by simpa using g1,g2⟩
def structTys(P:Program)(t:TypeId)(l:List Ty):Option (List TypeId):=match P.underlying t with
 |some (.struct fs)=>if fieldsFit P fs.toList l 0&&P.cellsOf t==szs l then some (fs.toList.map Field.type) else none
 |_=>none
def TysDeep(P:Program):List TypeId→List Ty→Prop
 |[],[]=>True
 |t::ts,u::us=>Deep P t u∧TysDeep P ts us
 |_,_=>False
theorem Zyu{P:Program}: ∀{fs:List Field} {l:List Ty},TysDeep P (fs.map Field.type) l→FieldsDeep P fs l
 |[],_,_=>by unfold FieldsDeep;trivial
 |f::fs,[],h=>h.elim
 |f::fs,u::l,h=>⟨h.1,Zyu h.2⟩
theorem Deep.st{P:Program}{t:TypeId}(l:List Ty){tys:List TypeId}(hn:l≠[])(h:structTys P t l=some tys)(hd:TysDeep P tys l):Deep P t (nestTy l):=by
 unfold structTys at h
 split at h
 ·rename_i fs hfs
  split at h
  ·rename_i hc
   simp only[Bool.and_eq_true,beq_iff_eq]at hc
   injection h with h
   subst h
   exact .mk l hfs hn hc.2 hc.1 (Zyu hd)
  ·cases h
 ·cases h
def isStruct(P:Program)(t:TypeId):Bool:=match P.underlying t with
 |some (.struct _)=>true
 |_=>false
def Wf:(t:Ty)→t.D→Prop
 | .int k,n=>(Lit.int k n).wf=true
 | .bool,_=>True
 | .str,s=>s.size≤maxLen
 | .pair a b,x=>Wf a x.1∧Wf b x.2
 | .slice _ t,xs=>xs.length≤maxLen∧ ∀x∈xs,Wf t x
section
variable {P:Program} {w:World}
theorem ZRW(u:Ty)(l:List Ty):szs (u::l)=u.sz+szs l:=by simp[szs]
theorem ZPh{S:Nat→Prop}: ∀(l:List Ty),l≠[]→ ∀(cs:List Value),cs.length=szs l→(∀(i:Nat) u,l[i]? =some u→ ∃x:u.D,Wf u x∧Rd u w S x ((cs.drop (szs (l.take i))).take u.sz))→ ∃x:(nestTy l).D,Wf (nestTy l) x∧Rd (nestTy l) w S x cs
 | [], h, _, _, _ => absurd rfl h
 | [u], _, cs, hl, h => by
  obtain ⟨x,h1,h2⟩:=h 0 u rfl
  refine ⟨x,h1,?_⟩
  have:(cs.drop (szs ([u].take 0))).take u.sz=cs:=by
   simp only[List.take_zero,szs,List.map_nil,List.sum_nil,List.drop_zero]
   exact List.take_of_length_le (by rw[hl];simp[szs])
  rw[this]at h2
  exact h2
 |u::v::r,_,cs,hl,h=>by
  rw[ZRW]at hl
  obtain ⟨x,h1,h2⟩:=h 0 u rfl
  have hx:(cs.drop (szs ((u::v::r).take 0))).take u.sz=cs.take u.sz:=by simp[szs]
  rw[hx]at h2
  obtain ⟨y,g1,g2⟩:=ZPh (v::r) (by simp) (cs.drop u.sz) (by simp;omega) (fun i u' hu=>by
   obtain ⟨z,k1,k2⟩:=h (i+1) u' hu
   refine ⟨z,k1,?_⟩
   rw[List.take_succ_cons,ZRW,←List.drop_drop]at k2
   exact k2)
  exact ⟨(x,y),⟨h1,g1⟩,cs.take u.sz,cs.drop u.sz,(List.take_append_drop _ _).symm,h2,g2⟩
def blocksOf(ps:List MemPlace)(k:Nat):Prop:= ∃p∈ps,p.block=k
variable {H:Type} {enc:TypeId×Value→H}
theorem ZPa: ∀(t:TypeId) (u:Ty),Deep P t u→ ∀(fuel:Nat) (cs:List Value) (d:DataW H) (ps:List MemPlace),DataW.trod enc P w 0 (fun _=>true) true fuel t cs=some (d,ps)→ ∃x:u.D,Wf u x∧Rd u w (blocksOf ps) x cs:=by
 intro t u h
 induction h with
 | @int t k h=>
  intro fuel cs d ps hd
  obtain ⟨n,h1,hx,hw⟩:=DataW.trod_int h hd
  exact ⟨n,hw,h1⟩
 | @bool t h=>
  intro fuel cs d ps hd
  obtain ⟨b,h1,hx⟩:=DataW.trod_bool h hd
  exact ⟨b,trivial,h1⟩
 | @str t h=>
  intro fuel cs d ps hd
  obtain ⟨s,h1,hx,hs⟩:=DataW.trod_string h hd
  exact ⟨s,hs,h1⟩
 | @slice t e u h hc hu ih=>
  intro fuel cs d ps hd
  rcases open_slice h hd with ⟨rfl,hx⟩|⟨a,len,cap,m,n,D,Pl,rfl,hb,hl,hm,hmm,hx,hel⟩
  ·exact ⟨[], ⟨Nat.zero_le _, fun x hx => by simp at hx⟩, _, rfl, none, 0, rfl, Nat.le_refl _, by simp, fun h0 => by simp at h0⟩
  ·rw [if_pos rfl] at hmm
   subst hmm
   injection hx with hx1 hx2
   have hel2: ∀i,i<len→ ∃x:u.D,Wf u x∧ ∃cs':List Value,cs'.length=u.sz∧(∀j v,cs'[j]? =some v→w.cell? (a.add (i*u.sz+j))=some v)∧Rd u w (blocksOf ps) x cs':=by
    intro i hi
    obtain ⟨cs',h1,h2⟩:=hel i (by omega)
    obtain ⟨_,hlen,hcell⟩:=World.cells?_some h1
    obtain ⟨x,hw,hr⟩:=ih _ _ _ _ h2
    rw[hc]at hlen hcell
    refine ⟨x,hw,cs',hlen,fun j v hv=> ?_,hr.wide (fun k ⟨p,hp,hk⟩=>⟨p,?_,hk⟩)⟩
    ·have hj : j < u.sz := by rw [← hlen]; exact (List.getElem?_eq_some_iff.1 hv).1
     have:=hcell j hj
     rw[ZbQ]at this
     rw[this,hv]
    ·rw [hx2]
     refine List.mem_append.2 (.inr (List.mem_flatMap.2 ⟨i,List.mem_range.2 (by omega),hp⟩))
   have hz:Nonempty u.D:=⟨u.zero⟩
   obtain ⟨f,hf⟩:= @choose_lt u.D ⟨u.zero⟩ len (fun i x=>Wf u x∧ ∃cs':List Value,cs'.length=u.sz∧(∀j v,cs'[j]? =some v→w.cell? (a.add (i*u.sz+j))=some v)∧Rd u w (blocksOf ps) x cs') hel2
   refine ⟨(List.range len).map f,⟨by simp;omega,fun x hx=> ?_⟩,_,rfl,some a,m,by simp,by simpa using hl,by simp[maxLen]at hm⊢;omega,fun h0=>⟨a,rfl,?_,fun j x hj=> ?_⟩⟩
   ·obtain ⟨i, hi, rfl⟩ := List.mem_map.1 hx
    exact (hf i (List.mem_range.1 hi)).1
   ·simp at h0
    refine ⟨.cell a.block (a.off+0),?_,rfl⟩
    rw[hx2]
    refine List.mem_append.2 (.inl (List.mem_map.2 ⟨0,List.mem_range.2 ?_,rfl⟩))
    have:=u.sz_pos
    rw[hc]
    exact Nat.mul_pos (by omega) this
   ·rw [List.getElem?_map] at hj
    obtain ⟨i,hi,rfl⟩:=Option.map_eq_some_iff.1 hj
    have hlt:j<len:=by simpa using (List.getElem?_eq_some_iff.1 hi).1
    rw[List.getElem?_range hlt]at hi
    injection hi with hi
    subst hi
    exact (hf j hlt).2
 | @struct t fs l h hn hl hc ho hf ih=>
  intro fuel cs d ps hd
  obtain ⟨xs,n,rfl,hx,hlen,hxl,hfl⟩:=DataW.trod_struct h hd
  injection hx with hx1 hx2
  refine ZPh l hn cs (by rw[hlen,hc]) (fun i u hu=> ?_)
  have hi:i<fs.size:=by rw[←hl];exact (List.getElem?_eq_some_iff.1 hu).1
  have hfi:fs[i]? =some fs[i]:=Array.getElem?_eq_getElem hi
  obtain ⟨o1,o2⟩:=ho i _ u hfi hu
  have h2:=hfl i _ hfi
  have hxi:i<xs.length:=by omega
  rw[List.getElem?_eq_getElem hxi,o1,o2]at h2
  obtain ⟨x,hw,hr⟩:=ih i _ u hfi hu n _ _ _ h2
  exact ⟨x,hw,hr.wide (fun k ⟨p,hp,hk⟩=>⟨p,by rw[hx2];exact List.mem_flatMap.2 ⟨_,List.getElem_mem hxi,hp⟩,hk⟩)⟩
inductive ParOK (P:Program):List TypeId→List PK→Prop
 |nil:ParOK P [] []
 |cell {t:TypeId} {ts:List TypeId} {u:Ty} {ps:List PK} (h:Deep P t u) (hs: ∀fs,P.underlying t≠some (.struct fs)) (hr:ParOK P ts ps):ParOK P (t::ts) (⟨u,false,none,false,none⟩::ps)
 |agg {t:TypeId} {ts:List TypeId} {u:Ty} {ps:List PK} {fs:Array Field} (h:Deep P t u) (hs:P.underlying t=some (.struct fs)) (hr:ParOK P ts ps):ParOK P (t::ts) (⟨u,true,none,false,none⟩::ps)
theorem ParOK.c{P:Program}{t:TypeId}{ts:List TypeId}{u:Ty}{ps:List PK}(h:Deep P t u)(hs:isStruct P t=false)(hr:ParOK P ts ps):ParOK P (t::ts) (⟨u,false,none,false,none⟩::ps):=
 .cell h (fun fs he=>by unfold isStruct at hs;rw[he]at hs;cases hs) hr
theorem ParOK.a{P:Program}{t:TypeId}{ts:List TypeId}{u:Ty}{ps:List PK}(h:Deep P t u)(hs:isStruct P t=true)(hr:ParOK P ts ps):ParOK P (t::ts) (⟨u,true,none,false,none⟩::ps):=by
 unfold isStruct at hs
 split at hs
 ·rename_i fs hfs;exact .agg h hfs hr
 ·cases hs
def WfT:(ps:List PK)→Tup ps→Prop
 |[],_=>True
 |p::ps,x=>Wf p.t x.1∧WfT ps x.2
theorem ZTx{W:World}{r:Reach}{b0:Nat}{t:TypeId}{u:Ty}{v:Value}(h:Deep P t u)(hs: ∀fs,P.underlying t≠some (.struct fs))(hv:Value.okWide P W r b0 t v):v.cells= #[v]:=by
 cases h with
 |int h=>obtain ⟨n,rfl⟩:=okWide_int h hv;rfl
 |bool h=>obtain ⟨n,rfl⟩:=okWide_bool h hv;rfl
 |str h=>obtain ⟨n,rfl⟩:=okWide_string h hv;rfl
 |slice h _ _=>obtain ⟨a,l,c,rfl⟩:=okWide_slice h hv;rfl
 |struct l h=>exact absurd h (hs _)
theorem ZUu{W:World}{S S':Nat→Prop}(hS: ∀k,S k→S' k): ∀{t:Ty} {x:t.D} {c:Value} {r:List Value},BoxT W S t x c r→BoxT W S' t x c r
 | .pair (.slice _ u) b,x,c,r,h=>by
  obtain ⟨h1,h2,h3⟩:=h
  refine ⟨h1,?_,h3⟩
  obtain ⟨v,hv,h4⟩:=Rd.wide (t:= .slice 0 u) (show Rd (.slice 0 u) W S x.1 [c] from ⟨_,rfl,h2⟩) hS
  obtain rfl:c=v:=by simpa using hv
  exact h4
 | .pair (.int _) b,_,_,_,h=>h
 | .pair .bool b,_,_,_,h=>h
 | .pair .str b,_,_,_,h=>h
 | .pair (.pair _ _) b,_,_,_,h=>h
 | .int _,_,_,_,h=>h
 | .bool,_,_,_,h=>h
 | .str,_,_,_,h=>h
 | .slice _ _,_,_,_,h=>h
theorem ZUL{W:World}{r:Reach}{b0:Nat}: ∀(ts:List TypeId) (pks:List PK),ParOK P ts pks→ ∀{vs:List Value} {ds:List (DataW H)} {ps:List MemPlace},DataW.TrodAll enc P W 0 (fun _=>true) true ts vs ds ps→
  (∀ (j : Nat) t v, ts[j]? = some t → vs[j]? = some v → Value.okWide P W r b0 t v) → ∃ x : Tup pks, WfT pks x ∧ ArgsR W (blocksOf ps) (fun _ => False) pks x vs := by
 intro ts pks h
 induction h with
 |nil=>
  intro vs ds ps h hv
  obtain ⟨rfl,rfl,rfl⟩:=trodAll_nil h
  exact ⟨(),trivial,rfl⟩
 | @cell t ts u pks hd hs hr ih=>
  intro vs ds ps h hv
  obtain ⟨v,vs',d,ds',p,q,rfl,rfl,rfl,h1,h2⟩:=trodAll_cons h
  obtain ⟨y,g1,g2⟩:=ih h2 (fun j t' v' ht hv'=>hv (j+1) t' v' ht hv')
  obtain ⟨fuel,hf⟩:=h1
  obtain ⟨x,k1,k2⟩:=ZPa _ _ hd fuel _ _ _ hf
  refine ⟨(x,y),⟨k1,g1⟩,v,vs',rfl,?_,k2.wide (fun k ⟨p',hp,hk⟩=>⟨p',List.mem_append.2 (.inl hp),hk⟩),?_⟩
  ·show (if (false = true) then _ else _)
   rw[if_neg (by simp)]
   exact ZTx hd hs (hv 0 t v rfl rfl)
  ·exact argsR_wide g2 (fun k ⟨p', hp, hk⟩ => ⟨p', List.mem_append.2 (.inr hp), hk⟩)
 | @agg t ts u pks fs hd hs hr ih=>
  intro vs ds ps h hv
  obtain ⟨v,vs',d,ds',p,q,rfl,rfl,rfl,h1,h2⟩:=trodAll_cons h
  obtain ⟨y,g1,g2⟩:=ih h2 (fun j t' v' ht hv'=>hv (j+1) t' v' ht hv')
  obtain ⟨fuel,hf⟩:=h1
  obtain ⟨x,k1,k2⟩:=ZPa _ _ hd fuel _ _ _ hf
  refine ⟨(x,y),⟨k1,g1⟩,v,vs',rfl,?_,k2.wide (fun k ⟨p',hp,hk⟩=>⟨p',List.mem_append.2 (.inl hp),hk⟩),?_⟩
  ·show (if (true = true) then _ else _)
   rw[if_pos rfl]
   obtain ⟨cs,h3,_⟩:=okWide_struct hs (hv 0 t v rfl rfl)
   exact ⟨cs,h3⟩
  ·exact argsR_wide g2 (fun k ⟨p',hp,hk⟩=>⟨p',List.mem_append.2 (.inr hp),hk⟩)
where argsR_wide {W : World} {S S' So : Nat → Prop} : ∀ {pks : List PK} {x : Tup pks} {vs : List Value}, ArgsR W S So pks x vs → (∀ k, S k → S' k) → ArgsR W S' So pks x vs
  | [], _, _, h, _ => h
  |p::pks,x,vs,h,hS=>by
    obtain ⟨v,vs',rfl,h1,h2,h3⟩:=h
    refine ⟨v,vs',rfl,h1,?_,argsR_wide h3 hS⟩
    split
    · rename_i ho
      rw[ho]at h2
      simp only at h2
      split
      · rename_i hb
        rw[hb]at h2
        exact h2.wide hS
      · rename_i e hb
        rw[hb]at h2
        obtain ⟨g,c,r,g1,g2,g3,g4⟩:=h2
        exact ⟨g,c,r,g1,g2,g3,ZUu hS g4⟩
    · rename_i q ho
      rw[ho]at h2
      exact h2
theorem ZBL(hl:laidOutB P=true){W W':World}(hb:Below W.heap.size W W'): ∀{ts:List TypeId} {vs:List Value} {ds:List (DataW H)} {ps:List MemPlace},(ts.all fun t=>P.readableRec t&&decide (t<P.types.size))=true→DataW.TrodAll enc P W 0 (fun _=>true) true ts vs ds ps→(∀x∈ps,x.block<W.heap.size)→
  DataW.TrodAll enc P W' 0 (fun b=>decide (b<W.heap.size)) true ts vs ds ps
 |[],vs,ds,ps,_,h,_=>by
  obtain ⟨rfl,rfl,rfl⟩:=trodAll_nil h
  exact trodAll_mk0
 |t::ts,vs,ds,ps,ht,h,hlt=>by
  simp only[List.all_cons,Bool.and_eq_true,decide_eq_true_eq]at ht
  obtain ⟨v,vs',d,ds',p,q,rfl,rfl,rfl,h1,h2⟩:=trodAll_cons h
  exact trodAll_cons_mk (Below.trod hl ht.1.1 ht.1.2 h1 hb (fun x hx=>hlt x (List.mem_append.2 (.inl hx)))) (ZBL hl hb (by simpa using ht.2) h2 (fun x hx=>hlt x (List.mem_append.2 (.inr hx))))
theorem ZzK{W:World}: ∀{ts:List TypeId} {vs:List Value} {ds:List (DataW H)} {ps:List MemPlace},DataW.TrodAll enc P W 0 (fun _=>true) true ts vs ds ps→ ∀x∈ps,x.block<W.heap.size
 | [], vs, ds, ps, h, x, hx => by
  obtain ⟨rfl,rfl,rfl⟩:=trodAll_nil h
  cases hx
 |t::ts,vs,ds,ps,h,x,hx=>by
  obtain ⟨v,vs',d,ds',p,q,rfl,rfl,rfl,h1,h2⟩:=trodAll_cons h
  rcases List.mem_append.1 hx with hx|hx
  ·obtain ⟨m, hm⟩ := h1
   exact DataW.trod_lt m _ _ _ hm x hx
  ·exact ZzK h2 x hx
theorem E_at{D:FnDef}{k:Nat}{x:Tup D.ps}{z:D.R}(h:D.f k x=some z){γ:Type}(K:Tup D.rs→OutD→Option γ):D.E.fn k x K=D.dsp z K:=by
 show (match D.f k x with|some z=>D.dsp z K|none=>none)=_
 rw[h]
def yes{E:Type}(res:Bool×Unit)(_:E):Option Unit:=if res.1=true then some () else none
theorem ZUs{f:FuncId}{ts:List TypeId}{pks:List PK}{fn:{γ:Type}→Nat→Tup pks→(Tup [⟨.bool,false,none,false,none⟩]→OutD→Option γ)→Option γ}
  (hs : ∀ k, SoundAt P k f ⟨pks, [⟨.bool, false, none, false, none⟩], fn, none⟩) (hp : ParOK P ts pks) (hno : ownI pks = none) (hlaw : ∀ x : Tup pks, WfT pks x → ∃ k, fn k x yes = some ())
    {W:World} (hgl:GlOK W (fun _=>False)) {base:Nat} {args:Array Value} {ds:List (DataW H)} {ps:List MemPlace} (hA:DataW.TrodAll enc P W 0 (fun _=>true) true ts args.toList ds ps) (hval: ∀(j:Nat) t v,ts[j]? =some t→args[j]? =some v→Value.okWide P W .any base t v):
  Calls P f args W fun e W'=>e= .returned (.bool true)∧Below W.heap.size W W':=by
 obtain ⟨x,hw,hx⟩:=ZUL _ _ hp hA (r:= .any) (b0:=base) (fun j t v ht hv=>hval j t v ht (by simpa using hv))
 obtain ⟨k,hk⟩:=hlaw x hw
 have hlt:=ZzK hA
 have:=(hs k).calls (K:=yes) (r:=()) W _ _ x _ hx (fun _ hf=>hf.elim) (fun _ hf=>hf.elim) (fun k' ⟨p,hp',hk'⟩=>by rw[←hk'];exact hlt p hp') (fun _ _ _ hf=>hf) hgl hk
 rw[Array.toArray_toList]at this
 refine this.mono fun e W' he=> ?_
 cases e with
 |returned v=>
  obtain ⟨res,out,hy,hF⟩:=he
  obtain ⟨Sr,us,_,rfl,hres,_⟩:=hF.res
  obtain ⟨u,us',S1,S2,rfl,hsh,hrep,_,_,hnil⟩:=hres
  obtain rfl:us'=[]:=hnil
  refine ⟨?_,hF.chg.below (fun _ hf=>hf)⟩
  have hsh2:u.cells= #[u]:=by
   have:=hsh
   unfold Shaped at this
   rw[if_neg (by simp)]at this
   exact this
  have hr1:res.1=true:=by
   unfold yes at hy
   split at hy
   ·assumption
   ·cases hy
  have hrep2:u.cells.toList=[.bool res.1]:=hrep
  rw[hsh2]at hrep2
  simp at hrep2
  rw[hrep2,hr1]
  rfl
 |panicked c=>exact False.elim he
 |outgrown=>exact False.elim he
end
end
set_option maxRecDepth 100000
section
noncomputable section
theorem Z3E{α:Type}{c d:Prop}[Decidable c][Decidable d]{x:Option α}:(if c then (if d then x else none) else none)=if c∧d then x else none:=by
 by_cases h:c<;>by_cases h2:d<;>simp[h,h2]
theorem Z1g{α:Type}{c:Prop}[Decidable c]{x y:Option (List α)}:joinL (if c then x else none) y=if c then joinL x y else none:=by
 by_cases h:c<;>simp[h,joinL]
theorem Z1i{α:Type}{c:Prop}[Decidable c]{x y:Option (List α)}:joinL x (if c then y else none)=if c then joinL x y else none:=by
 by_cases h:c<;>simp[h,joinL]
theorem Z2p{α:Type}{c:Prop}[Decidable c]{m:Nat}{x:Option α}:repl m (if c then x else none)=if c then repl m x else none:=by
 by_cases h:c<;>simp[h,repl]
theorem Z1H{α:Type}{c d:Prop}[Decidable c][Decidable d]{x:Option α}(h:c↔d):(if c then x else none)=if d then x else none:=by
 by_cases h1:c
 ·rw[if_pos h1,if_pos (h.1 h1)]
 ·rw[if_neg h1,if_neg (fun h2=>h1 (h.2 h2))]
def i3:TI:=⟨.scal,.int Go.IntKind.i64,8,false⟩
theorem t3:TyOK Tryz.prog 3 i3:= .scal (by kernel_rfl) (by decide) rfl rfl (by kernel_rfl)
def i22:TI:=⟨.slice 3,.slice 3 (.int Go.IntKind.i64),24,false⟩
theorem t22:TyOK Tryz.prog 22 i22:= .slice (by kernel_rfl) (by decide) rfl (by kernel_rfl)
def i24:TI:=⟨.struct [(0,3),(1,22)],.pair (.int Go.IntKind.i64) (.slice 3 (.int Go.IntKind.i64)),32,false⟩
theorem t24:TyOK Tryz.prog 24 i24:= .struct (by kernel_rfl) (by decide) (by kernel_rfl) (by kernel_rfl)
def i76:TI:=⟨.struct [(0,3),(1,3)],.pair (.int Go.IntKind.i64) (.int Go.IntKind.i64),16,true⟩
theorem t76:TyOK Tryz.prog 76 i76:= .structE (by kernel_rfl) (by kernel_rfl) (by decide) (by kernel_rfl) (by kernel_rfl)
def i25:TI:=⟨.slice 76,.slice 76 (.pair (.int Go.IntKind.i64) (.int Go.IntKind.i64)),24,false⟩
theorem t25:TyOK Tryz.prog 25 i25:= .slice (by kernel_rfl) (by decide) rfl (by kernel_rfl)
def i27:TI:=⟨.struct [(0,3),(1,3),(2,25),(3,22),(4,22)],.pair (.int Go.IntKind.i64) (.pair (.int Go.IntKind.i64) (.pair (.slice 76 (.pair (.int Go.IntKind.i64) (.int Go.IntKind.i64))) (.pair (.slice 3 (.int Go.IntKind.i64)) (.slice 3 (.int Go.IntKind.i64))))),88,false⟩
theorem t27:TyOK Tryz.prog 27 i27:= .struct (by kernel_rfl) (by decide) (by kernel_rfl) (by kernel_rfl)
def i29:TI:=⟨.struct [(0,3),(1,3),(2,25)],.pair (.int Go.IntKind.i64) (.pair (.int Go.IntKind.i64) (.slice 76 (.pair (.int Go.IntKind.i64) (.int Go.IntKind.i64)))),40,false⟩
theorem t29:TyOK Tryz.prog 29 i29:= .struct (by kernel_rfl) (by decide) (by kernel_rfl) (by kernel_rfl)
def i40:TI:=⟨.struct [(0,3),(1,3),(2,3)],.pair (.int Go.IntKind.i64) (.pair (.int Go.IntKind.i64) (.int Go.IntKind.i64)),24,true⟩
theorem t40:TyOK Tryz.prog 40 i40:= .structE (by kernel_rfl) (by kernel_rfl) (by decide) (by kernel_rfl) (by kernel_rfl)
def i30:TI:=⟨.slice 40,.slice 40 (.pair (.int Go.IntKind.i64) (.pair (.int Go.IntKind.i64) (.int Go.IntKind.i64))),24,false⟩
theorem t30:TyOK Tryz.prog 30 i30:= .slice (by kernel_rfl) (by decide) rfl (by kernel_rfl)
def i4:TI:=⟨.scal,.bool,1,false⟩
theorem t4:TyOK Tryz.prog 4 i4:= .scal (by kernel_rfl) (by decide) rfl rfl (by kernel_rfl)
def i58:TI:=⟨.struct [(0,3),(1,3),(2,3)],.pair (.int Go.IntKind.i64) (.pair (.int Go.IntKind.i64) (.int Go.IntKind.i64)),24,true⟩
theorem t58:TyOK Tryz.prog 58 i58:= .structE (by kernel_rfl) (by kernel_rfl) (by decide) (by kernel_rfl) (by kernel_rfl)
def i53:TI:=⟨.slice 58,.slice 58 (.pair (.int Go.IntKind.i64) (.pair (.int Go.IntKind.i64) (.int Go.IntKind.i64))),24,false⟩
theorem t53:TyOK Tryz.prog 53 i53:= .slice (by kernel_rfl) (by decide) rfl (by kernel_rfl)
def i5:TI:=⟨.scal,.int Go.IntKind.u8,1,false⟩
theorem t5:TyOK Tryz.prog 5 i5:= .scal (by kernel_rfl) (by decide) rfl rfl (by kernel_rfl)
theorem dp5:Deep Tryz.prog 5 (.int Go.IntKind.u8):= .int (by kernel_rfl)
def i64:TI:=⟨.slice 5,.slice 5 (.int Go.IntKind.u8),24,false⟩
theorem t64:TyOK Tryz.prog 64 i64:= .slice (by kernel_rfl) (by decide) rfl (by kernel_rfl)
theorem dp64:Deep Tryz.prog 64 (.slice 5 (.int Go.IntKind.u8)):= .slice (by kernel_rfl) (by kernel_rfl) dp5
def i92:TI:=⟨.fn,.bool,1,false⟩
theorem t92:FnTy Tryz.prog 92:=⟨⟨({toList:=[80]}),({toList:=[]}),(false),by kernel_rfl⟩,by kernel_rfl⟩
def i103:TI:=⟨.scal,.int Go.IntKind.u64,8,false⟩
theorem t103:TyOK Tryz.prog 103 i103:= .scal (by kernel_rfl) (by decide) rfl rfl (by kernel_rfl)
def i105:TI:=⟨.struct [(0,64),(1,3),(2,103)],.pair (.slice 5 (.int Go.IntKind.u8)) (.pair (.int Go.IntKind.i64) (.int Go.IntKind.u64)),40,false⟩
theorem t105:TyOK Tryz.prog 105 i105:= .struct (by kernel_rfl) (by decide) (by kernel_rfl) (by kernel_rfl)
def i111:TI:=⟨.struct [(0,22),(1,22),(2,25),(3,3)],.pair (.slice 3 (.int Go.IntKind.i64)) (.pair (.slice 3 (.int Go.IntKind.i64)) (.pair (.slice 76 (.pair (.int Go.IntKind.i64) (.int Go.IntKind.i64))) (.int Go.IntKind.i64))),80,false⟩
theorem t111:TyOK Tryz.prog 111 i111:= .struct (by kernel_rfl) (by decide) (by kernel_rfl) (by kernel_rfl)
def i91:TI:=⟨.fn,.bool,1,false⟩
theorem t91:FnTy Tryz.prog 91:=⟨⟨({toList:=[80]}),({toList:=[]}),(false),by kernel_rfl⟩,by kernel_rfl⟩
def i132:TI:=⟨.scal,.int Go.IntKind.u64,8,false⟩
theorem t132:TyOK Tryz.prog 132 i132:= .scal (by kernel_rfl) (by decide) rfl rfl (by kernel_rfl)
def i80:TI:=⟨.fn,.bool,1,false⟩
theorem t80:FnTy Tryz.prog 80:=⟨⟨({toList:=[29]}),({toList:=[4]}),(false),by kernel_rfl⟩,by kernel_rfl⟩
def i145:TI:=⟨.slice 22,.slice 22 (.slice 3 (.int Go.IntKind.i64)),24,false⟩
theorem t145:TyOK Tryz.prog 145 i145:= .slice (by kernel_rfl) (by decide) rfl (by kernel_rfl)
theorem mixed:Tryz.prog.follows .mixedOrders=true:=by kernel_rfl
def T:TT:=[(3,i3),(22,i22),(24,i24),(76,i76),(25,i25),(27,i27),(29,i29),(40,i40),(30,i30),(4,i4),(58,i58),(53,i53),(5,i5),(64,i64),(92,i92),(103,i103),(105,i105),(111,i111),(91,i91),(132,i132),(80,i80),(145,i145)]
theorem T_ok:TTok Tryz.prog T:= .of (by unfold T;exact (List.forall_mem_cons.2 ⟨t3,(List.forall_mem_cons.2 ⟨t22,(List.forall_mem_cons.2 ⟨t24,(List.forall_mem_cons.2 ⟨t76,(List.forall_mem_cons.2 ⟨t25,(List.forall_mem_cons.2 ⟨t27,(List.forall_mem_cons.2 ⟨t29,(List.forall_mem_cons.2 ⟨t40,(List.forall_mem_cons.2 ⟨t30,(List.forall_mem_cons.2 ⟨t4,(List.forall_mem_cons.2 ⟨t58,(List.forall_mem_cons.2 ⟨t53,(List.forall_mem_cons.2 ⟨t5,(List.forall_mem_cons.2 ⟨t64,(List.forall_mem_cons.2 ⟨t92,(List.forall_mem_cons.2 ⟨t103,(List.forall_mem_cons.2 ⟨t105,(List.forall_mem_cons.2 ⟨t111,(List.forall_mem_cons.2 ⟨t91,(List.forall_mem_cons.2 ⟨t132,(List.forall_mem_cons.2 ⟨t80,(List.forall_mem_cons.2 ⟨t145,(fun _ h=>nomatch h)⟩)⟩)⟩)⟩)⟩)⟩)⟩)⟩)⟩)⟩)⟩)⟩)⟩)⟩)⟩)⟩)⟩)⟩)⟩)⟩)⟩)⟩))
end
end
section
inductive KP where
 |tree (agg:Bool) (t:Ty)
 |cp (t:Ty)
 |fn (f:Nat) (ts:List Ty)
@[reducible] def TupT : List Ty → Type
 |[]=>Unit
 |t::ts=>t.D×TupT ts
@[reducible] def KP.D : KP → Type
 | .tree _ t=>t.D
 | .cp t=>t.D
 | .fn _ ts=>TupT ts
@[reducible] def KTup : List KP → Type
 |[]=>Unit
 |p::ps=>p.D×KTup ps
def readCp(st:St)(ex:List Nat)(t:Ty):At→Option t.D
 | .es i u x 0=>if ex.contains i then none else if h:u=t then some (h▸x) else none
 | .ptr j 0=>if ex.contains j then none else match st.objs[j]? with
  |some (.box _ cells)=>if cells.length=t.sz then readTree st ex t cells else none
  |_=>none
 |_=>none
def readCps(st:St)(ex:List Nat):(ts:List Ty)→List At→Option (TupT ts)
 | [], [] => some ()
 |t::ts,x::l=>match readCp st ex t x with
  |some y=>match readCps st ex ts l with
   |some ys=>some (y,ys)
   |none=>none
  |none=>none
 |_,_=>none
def readFn(st:St)(ex:List Nat)(f:Nat)(ts:List Ty):At→Option (TupT ts)
 | .cv q=>match st.objs[q]? with
  |some (.clo f' l)=>if f'=f then readCps st ex ts l else none
  |_=>none
 |_=>none
def readK(st:St)(ex:List Nat):(p:KP)→TV→Option p.D
 | .tree agg t,x=>match x.cells with
  |some l=>if aggOK agg x=true then readTree st ex t l else none
  |none=>none
 | .cp t,.sv (.at x)=>readCp st ex t x
 | .fn f ts,.sv (.at x)=>readFn st ex f ts x
 |_,_=>none
def readKs(st:St)(ex:List Nat):(ps:List KP)→List TV→Option (KTup ps)
 | [], [] => some ()
 |p::ps,x::xs=>match readK st ex p x with
  |some y=>match readKs st ex ps xs with
   |some ys=>some (y,ys)
   |none=>none
  |none=>none
 |_,_=>none
def CpR(w:World)(S:Nat→Prop)(t:Ty)(x:t.D)(v:Value):Prop:=
 ∃(a:Addr) (cs:List Value),S a.block∧v= .pointer (some (a.add 0))∧cs.length=t.sz∧(∀(j:Nat) u,cs[j]? =some u→w.cell? (a.add j)=some u)∧Rd t w S x cs
def CpsR(w:World)(S:Nat→Prop):(ts:List Ty)→TupT ts→List Value→Prop
 |[],_,vs=>vs=[]
 |t::ts,x,vs=> ∃v vs',vs=v::vs'∧CpR w S t x.1 v∧CpsR w S ts x.2 vs'
def FnR(w:World)(S:Nat→Prop)(f:Nat)(ts:List Ty)(x:TupT ts)(v:Value):Prop:=
 ∃vs:List Value,v= .func (.func f) #[] vs.toArray∧CpsR w S ts x vs
def KR(w:World)(S:Nat→Prop):(p:KP)→p.D→Value→Prop
 | .tree agg t,x,v=>Shaped agg v∧Rd t w S x v.cells.toList
 | .cp t,x,v=>CpR w S t x v
 | .fn f ts,x,v=>FnR w S f ts x v
def KsR(w:World)(S:Nat→Prop):(ps:List KP)→KTup ps→List Value→Prop
 |[],_,vs=>vs=[]
 |p::ps,x,vs=> ∃v vs',vs=v::vs'∧KR w S p x.1 v∧KsR w S ps x.2 vs'
section
variable {P:Program} {w w1 w0:World} {S0:Own} {st:St} {μ:List ORec} {a:Act}
theorem ZFB(h:Rel w0 S0 st μ a w){ex:List Nat}{t:Ty}{x:At}{v:Value}{y:t.D}(hx:AR μ w x v)(hr:readCp st ex t x=some y):CpR w (okBut μ ex) t y v:=by
 unfold readCp at hr
 split at hr
 ·rename_i i u x0
  split at hr
  ·cases hr
  ·rename_i hex
   split at hr
   ·rename_i hu
    subst hu
    injection hr with hr
    subst hr
    obtain ⟨r,a,cs,hr,hk,hv,hl,hc,hrd⟩:=hx
    have hex':ex.contains i=false:=by simpa using hex
    exact ⟨a,cs,⟨i,r,hex',hr,hk⟩,hv,hl,hc,hrd.wide (fun k hk=>⟨i,r,hex',hr,hk⟩)⟩
   ·cases hr
 ·rename_i j
  split at hr
  ·cases hr
  ·rename_i hex
   split at hr
   ·rename_i e cells hob
    split at hr
    ·rename_i hl
     have hex':ex.contains j=false:=by simpa using hex
     obtain ⟨r,hrec,hv⟩:=hx
     obtain ⟨hok,vs,hb,hA,_⟩:=h.ob j _ r hob hrec
     refine ⟨⟨r.blk,0,none⟩,vs,⟨j,r,hex',hrec,hok⟩,hv,by rw[hA.1,hl],fun m u hm=> ?_,Z1w h hA hr⟩
     rw[ZgF,ZlE hb,Nat.zero_add]
     simpa using hm
    ·cases hr
   ·cases hr
 ·cases hr
theorem ZBO(h:Rel w0 S0 st μ a w){ex:List Nat}: ∀{ts:List Ty} {l:List At} {vs:List Value} {y:TupT ts},AL μ w l vs→readCps st ex ts l=some y→CpsR w (okBut μ ex) ts y vs
 | [], [], vs, y, hA, hr => by
  have:=hA.1
  simpa[CpsR]using this
 | [], _ :: _, vs, y, hA, hr => by simp [readCps] at hr
 |_::_,[],vs,y,hA,hr=>by simp[readCps]at hr
 |t::ts,x::l,vs,y,hA,hr=>by
  simp only[readCps]at hr
  split at hr
  ·rename_i y1 hy1
   split at hr
   ·rename_i ys hys
    injection hr with hr
    subst hr
    match vs,hA with
    |[],hA=>have:=hA.1;simp at this
    |v::vs,hA=>
     exact ⟨v,vs,rfl,ZFB h (hA.2 0 x v rfl rfl) hy1,ZBO h ⟨by simpa using hA.1,fun j x v hx hv=>hA.2 (j+1) x v (by simpa using hx) (by simpa using hv)⟩ hys⟩
   ·cases hr
  ·cases hr
theorem ZRw(h:Rel w0 S0 st μ a w){ex:List Nat}{f:Nat}{ts:List Ty}{x:At}{v:Value}{y:TupT ts}(hx:AR μ w x v)(hr:readFn st ex f ts x=some y):FnR w (okBut μ ex) f ts y v:=by
 unfold readFn at hr
 split at hr
 ·rename_i q
  split at hr
  ·rename_i f' l hob
   split at hr
   ·rename_i hf
    subst hf
    obtain ⟨r,hrec,hv,_⟩:=hx
    obtain ⟨vs,h1,h2⟩:=h.ob q _ r hob hrec
    exact ⟨vs,by rw[hv];exact h1,ZBO h h2 hr⟩
   ·cases hr
  ·cases hr
 ·cases hr
theorem ZTj(h:Rel w0 S0 st μ a w){ex:List Nat}{p:KP}{x:TV}{v:Value}{y:p.D}(hx:TR μ w x v)(hr:readK st ex p x=some y):KR w (okBut μ ex) p y v:=by
 cases p with
 |tree agg t=>
  simp only[readK]at hr
  split at hr
  ·rename_i l hl
   split at hr
   ·rename_i hag
    exact ⟨ZgR hx hl hag,Z1w h (hx.cells_sound hl) hr⟩
   ·cases hr
  ·cases hr
 |cp t=>
  cases x with
  |tup l=>cases hr
  |sv s=>cases s with
   |agg l=>cases hr
   |«at» y=>exact ZFB h hx.1 hr
 |fn f ts=>
  cases x with
  |tup l=>cases hr
  |sv s=>cases s with
   |agg l=>cases hr
   |«at» y=>exact ZRw h hx.1 hr
theorem ZEv(h:Rel w0 S0 st μ a w){ex:List Nat}: ∀{ps:List KP} {xs:List TV} {vs:List Value} {y:KTup ps},vs.length=xs.length→(∀(j:Nat) x v,xs[j]? =some x→vs[j]? =some v→TR μ w x v)→readKs st ex ps xs=some y→KsR w (okBut μ ex) ps y vs
 | [], [], vs, y, hl, hT, hr => by simpa [KsR] using hl
 | [], _ :: _, vs, y, hl, hT, hr => by simp [readKs] at hr
 |_::_,[],vs,y,hl,hT,hr=>by simp[readKs]at hr
 |p::ps,x::xs,vs,y,hl,hT,hr=>by
  simp only[readKs]at hr
  split at hr
  ·rename_i y1 hy1
   split at hr
   ·rename_i ys hys
    injection hr with hr
    subst hr
    match vs,hl with
    |v::vs,hl=>
     exact ⟨v,vs,rfl,ZTj h (hT 0 x v rfl rfl) hy1,ZEv h (by simpa using hl) (fun j x v hx hv=>hT (j+1) x v (by simpa using hx) (by simpa using hv)) hys⟩
   ·cases hr
  ·cases hr
end
def esL:(ts:List Ty)→TupT ts→List At
 |[],_=>[]
 |t::ts,x=> .es 0 t x.1 0::esL ts x.2
def initK:(ps:List KP)→KTup ps→Nat→List TV
 |[],_,_=>[]
 | .tree agg t::ps,x,i=>packA agg (atomsOf 0 t x.1)::initK ps x.2 i
 | .cp t::ps,x,i=> .sv (.at (.es 0 t x.1 0))::initK ps x.2 i
 | .fn _ _::ps,x,i=> .sv (.at (.cv i))::initK ps x.2 (i+1)
def objsK:(ps:List KP)→KTup ps→List Ob
 |[],_=>[]
 | .tree _ _::ps,x=>objsK ps x.2
 | .cp _::ps,x=>objsK ps x.2
 | .fn f ts::ps,x=> .clo f (esL ts x.1)::objsK ps x.2
def initKS(ps:List KP)(n:Nat)(x:KTup ps):St:={tmps:=initK ps x 1++List.replicate (n-ps.length) (.sv (.at .un)),objs:= .ro::objsK ps x}
section
variable {P:Program} {w w1 w0:World} {S0:Own} {st:St} {μ:List ORec} {a:Act} {S:Nat→Prop}
theorem ZPj(hro:μ[0]? =some ⟨undef,0,S⟩): ∀{ts:List Ty} {x:TupT ts} {vs:List Value},CpsR w S ts x vs→AL μ w (esL ts x) vs
 | [], x, vs, h => by rw [show vs = [] from h]; exact ⟨rfl, fun j x v hx => by simp [esL] at hx⟩
 |t::ts,x,vs,h=>by
  obtain ⟨v,vs',rfl,⟨a,cs,hk,hv,hl,hc,hrd⟩,hr⟩:=h
  have ih:=ZPj hro hr
  refine ⟨by simp[esL,ih.1],fun j y u hy hu=> ?_⟩
  cases j with
  |zero=>
   simp only[esL,List.getElem?_cons_zero]at hy hu
   injection hy with hy
   injection hu with hu
   subst hy hu
   exact ⟨_,a,cs,hro,hk,hv,hl,hc,hrd⟩
  |succ j=>
   simp only[esL,List.getElem?_cons_succ]at hy hu
   exact ih.2 j y u hy hu
theorem KsR.len: ∀{ps:List KP} {x:KTup ps} {vs:List Value},KsR w S ps x vs→vs.length=ps.length
 |[],_,vs,h=>by rw[show vs=[] from h];rfl
 |p::ps,x,vs,h=>by
  obtain ⟨v,vs',rfl,_,h⟩:=h
  simp[h.len]
theorem Zvu: ∀{ps:List KP} {x:KTup ps} {i:Nat},(initK ps x i).length=ps.length
 |[],_,_=>rfl
 | .tree _ _::ps,x,i=>by simp[initK,Zvu]
 | .cp _::ps,x,i=>by simp[initK,Zvu]
 | .fn _ _::ps,x,i=>by simp[initK,Zvu]
theorem ZuM: ∀{ps:List KP} {x:KTup ps} {o:Ob},o∈objsK ps x→ ∃f l,o= .clo f l
 |[],_,o,h=>by simp[objsK]at h
 | .tree _ _::ps,x,o,h=>ZuM (ps:=ps) h
 | .cp _::ps,x,o,h=>ZuM (ps:=ps) h
 | .fn f ts::ps,x,o,h=>by
  simp only[objsK,List.mem_cons]at h
  rcases h with h|h
  ·exact ⟨_,_,h⟩
  ·exact ZuM h
theorem ZoV: ∀{ps:List KP} {x:KTup ps} {vs:List Value},KsR w S ps x vs→ ∃recs:List ORec,recs.length=(objsK ps x).length∧(∀r∈recs,∀k,¬r.ok k)∧ ∀(μ:List ORec) (i:Nat),μ[0]? =some ⟨undef,0,S⟩→(∀(j:Nat) r,recs[j]? =some r→μ[i+j]? =some r)→
  (∀ (j : Nat) y, (initK ps x i)[j]? = some y → ∃ v, vs[j]? = some v ∧ TR μ w y v) ∧ ∀ (j : Nat) o r, (objsK ps x)[j]? = some o → recs[j]? = some r → OR μ w o r
 | [], x, vs, h => ⟨[], rfl, fun r hr => by simp at hr, fun μ i _ _ => ⟨fun j y hy => by simp [initK] at hy, fun j o r ho => by simp [objsK] at ho⟩⟩
 | .tree agg t::ps,x,vs,h=>by
  obtain ⟨v,vs',rfl,⟨hsh,hrd⟩,hr⟩:=h
  obtain ⟨recs,h1,h2,h3⟩:=ZoV hr
  refine ⟨recs,h1,h2,fun μ i hro hrec=>⟨fun j y hy=> ?_,(h3 μ i hro hrec).2⟩⟩
  cases j with
  |zero=>
   simp only[initK,List.getElem?_cons_zero]at hy
   injection hy with hy
   subst hy
   exact ⟨v,rfl,Zka hsh (AL.of_rd hro hrd)⟩
  |succ j=>exact (h3 μ i hro hrec).1 j y (by simpa[initK]using hy)
 | .cp t::ps,x,vs,h=>by
  obtain ⟨v,vs',rfl,⟨a,cs,hk,hv,hl,hc,hrd⟩,hr⟩:=h
  obtain ⟨recs,h1,h2,h3⟩:=ZoV hr
  refine ⟨recs,h1,h2,fun μ i hro hrec=>⟨fun j y hy=> ?_,(h3 μ i hro hrec).2⟩⟩
  cases j with
  |zero=>
   simp only[initK,List.getElem?_cons_zero]at hy
   injection hy with hy
   subst hy
   exact ⟨v,rfl,⟨_,a,cs,hro,hk,hv,hl,hc,hrd⟩,.inr (by rw[hv];rfl)⟩
  |succ j=>exact (h3 μ i hro hrec).1 j y (by simpa[initK]using hy)
 | .fn f ts::ps,x,vs,h=>by
  obtain ⟨v,vs',rfl,⟨us,hv,hcs⟩,hr⟩:=h
  obtain ⟨recs,h1,h2,h3⟩:=ZoV hr
  refine ⟨⟨v,0,fun _=>False⟩::recs,by simp[objsK,h1],fun r hr=> ?_,fun μ i hro hrec=> ?_⟩
  ·rcases List.mem_cons.1 hr with rfl | hr
   ·exact fun _ hf => hf
   ·exact h2 r hr
  ·have h0 : μ[i]? = some ⟨v, 0, fun _ => False⟩ := hrec 0 _ rfl
   have h4:=h3 μ (i+1) hro (fun j r hj=>by rw[show i+1+j=i+(j+1) by omega];exact hrec (j+1) r (by simpa using hj))
   refine ⟨fun j y hy=> ?_,fun j o r ho hj=> ?_⟩
   ·cases j with
    |zero=>
     simp only[initK,List.getElem?_cons_zero]at hy
     injection hy with hy
     subst hy
     exact ⟨v,rfl,⟨_,h0,rfl,_,_,hv⟩,.inr (by rw[hv];rfl)⟩
    |succ j=>exact h4.1 j y (by simpa[initK]using hy)
   ·cases j with
    |zero=>
     simp only[objsK,List.getElem?_cons_zero]at ho hj
     injection ho with ho
     injection hj with hj
     subst ho hj
     exact ⟨us,hv,ZPj hro hcs⟩
    |succ j=>exact h4.2 j o r (by simpa[objsK]using ho) (by simpa using hj)
theorem ZS7{ps:List KP}{n:Nat}{x:KTup ps}{vs:List Value}(h:KsR w S ps x vs)(hl: ∀k,S k→k<w.heap.size)(hgl:GlOK w (fun _=>False)):
  ∃μ,Rel w {ok:=fun _=>False,ov:=[]} (initKS ps n x) μ {tmps:=vs.toArray++Array.replicate (n-vs.toArray.size) undef,defers:=[]} w:=by
 obtain ⟨recs,h1,h2,h3⟩:=ZoV h
 have hlen:=h.len
 obtain ⟨g1,g2⟩:=h3 (⟨undef,0,S⟩::recs) 1 rfl (fun j r hj=>by rw[Nat.add_comm];simpa using hj)
 have hno: ∀(i:Nat) o,(initKS ps n x).objs[i]? =some o→o= .ro∨ ∃f l,o= .clo f l:=by
  intro i o ho
  cases i with
  |zero=>simp[initKS]at ho;exact .inl ho.symm
  |succ i=>exact .inr (ZuM (List.mem_of_getElem? (by simpa[initKS]using ho)))
 have hfree: ∀(i:Nat) r,(⟨undef,0,S⟩::recs)[i]? =some r→ ∀k,r.ok k→S k:=by
  intro i r hr k hk
  cases i with
  |zero=>simp at hr;subst hr;exact hk
  |succ i=>exact ((h2 r (List.mem_of_getElem? (by simpa using hr))) k hk).elim
 refine ⟨⟨undef,0,S⟩::recs,by simp[initKS,h1],by simp[initKS,Zvu,hlen],fun i y hy=> ?_,fun i o r ho hr=> ?_,fun i j o ri rj hij ho hw=> ?_,fun i o r ho hr hw=> ?_,fun i e t xs r ho=> ?_,fun i r hr k hk=>hl k (hfree i r hr k hk),.refl w _,rfl,(fun j v hv=>by simp at hv),hgl,fun _ _ _ _ _=> .inl trivial⟩
 ·simp only [initKS] at hy
  rw[List.getElem?_append]at hy
  split at hy
  ·obtain ⟨v, hv, ht⟩ := g1 i y hy
   have:(vs.toArray++Array.replicate (n-vs.toArray.size) undef).getD i undef=v:=by
    rw[Array.getD_eq_getD_getElem?,Array.getElem?_append_left (by simp;exact (List.getElem?_eq_some_iff.1 hv).1)]
    simp[hv]
   rw[this];exact ht
  ·rw [List.getElem?_replicate] at hy
   split at hy
   ·injection hy with hy
    subst hy
    exact ⟨trivial,.inl rfl⟩
   ·cases hy
 ·cases i with
  |zero=>simp[initKS]at ho;subst ho;trivial
  |succ i=>exact g2 i o r (by simpa[initKS]using ho) (by simpa using hr)
 ·rcases hno i o ho with rfl|⟨f,l,rfl⟩<;>cases hw
 ·rcases hno i o ho with rfl|⟨f,l,rfl⟩<;>cases hw
 ·rcases hno i _ ho with h5|⟨f,l,h5⟩<;>cases h5
end
end
section
structure QSig where
 ps:List KP
 fe:Nat
 ts:List Ty
 fs:Nat
 eF:TypeId
 eB:TypeId
 eR:TypeId
 t:Ty
@[reducible] def QSig.In (q : QSig) : Type := KTup q.ps × (TupT q.ts × (Int × (Int × (Bool × List q.t.D))))
def reSt(st:St)(i:Nat)(o:Ob):St:={st.kill i with objs:=(st.kill i).objs.set i o}
section
variable {P:Program} {w w1 w0:World} {S0:Own} {st:St} {μ:List ORec} {a:Act} {S:Nat→Prop}
end
end
section
section
variable {P:Program} {w w1 w0 w':World} {S0:Own} {st st1:St} {μ μ1:List ORec} {a a':Act} {S:Nat→Prop}
end
section
variable {P:Program}
end
end
section
def owns(st:St)(μ:List ORec)(k:Nat):Prop:= ∃(j:Nat) (o:Ob) (r:ORec),st.objs[j]? =some o∧o.owned=true∧μ[j]? =some r∧r.ok k
def freshOf(st:St)(μ:List ORec)(k:Nat):Prop:= ∃(j:Nat) (e:TypeId) (t:Ty) (xs:List t.D) (r:ORec),st.objs[j]? =some (Ob.row true e t xs)∧μ[j]? =some r∧r.ok k
def frOwn(st:St)(μ:List ORec)(no:Nat)(ds:List Deferred):Own where
 ok:=owns st μ
 ov:=((μ.drop 1).take no).map fun r=>(r.v,r.blk)
 gv:=freshOf st μ
 go:=fun k ⟨j,e,t,xs,r,h1,h2,h3⟩=>⟨j,_,r,h1,rfl,h2,h3⟩
 dfs:=ds
 al:=fun k=> ∃(i:Nat) (r:ORec),μ[i]? =some r∧r.ok k
section
variable {P:Program} {w w1 w0:World} {S0:Own} {st st1:St} {μ μ1:List ORec} {a a1 a':Act}
theorem ZSx{no:Nat}{ds:List Deferred}{j:Nat}{v:Value×Nat}(h:(frOwn st μ no ds).ov[j]? =some v):j<no∧ ∃r,μ[j+1]? =some r∧r.v=v.1∧r.blk=v.2:=by
 simp only[frOwn,List.getElem?_map,List.getElem?_take]at h
 obtain ⟨r,hr,rfl⟩:=Option.map_eq_some_iff.1 h
 split at hr
 ·rename_i hj
  rw[List.getElem?_drop,Nat.add_comm]at hr
  exact ⟨hj,r,hr,rfl,rfl⟩
 ·cases hr
theorem Rel.framed(h:Rel w0 S0 st μ a w)(no:Nat){ts:List TV}{a':Act}(htm:a'.tmps.size=ts.length)(htv: ∀(i:Nat) x,ts[i]? =some x→TR μ w x (a'.tmps.getD i undef)):Rel w (frOwn st μ no a'.defers) {tmps:=ts,objs:=st.objs} μ a' w:=
 ⟨h.len,htm,htv,h.ob,h.dj,fun i o r ho hr hw k hk=> .inl ⟨i,o,r,ho,hw,hr,hk⟩,fun i e t xs r ho hr k hk=> .inl ⟨i,e,t,xs,r,ho,hr,hk⟩,h.lt,.refl w _,rfl,fun j v hv=>(ZSx hv).2,h.glob (fun k ⟨j,o,r,ho,hw,hr,hk⟩=>h.wr j o r ho hr hw k hk),fun i r hr k hk=> .inl ⟨i,r,hr,hk⟩⟩
def boOwn(O:List Ob)(R:List ORec)(no:Nat):Own where
 ok:=fun k=> ∃r∈R,r.ok k
 ov:=(R.take no).map fun r=>(r.v,r.blk)
 gv:=fun k=> ∃(t:Nat) (e:TypeId) (ty:Ty) (xs:List ty.D) (r:ORec),O[t]? =some (Ob.row true e ty xs)∧R[t]? =some r∧r.ok k
 go:=fun k ⟨t,e,ty,xs,r,h1,h2,h3⟩=>⟨r,List.mem_of_getElem? h2,h3⟩
def noRec:ORec:=⟨undef,0,fun _=>False⟩
structure Lent (st:St) (μ:List ORec) (J:List Nat) (R:List ORec):Prop where
 nd:J.Nodup
 len:R.length=J.length
 got: ∀(t j:Nat),J[t]? =some j→ ∃r,R[t]? =some r∧μ[j]? =some r
 own: ∀(t j:Nat),J[t]? =some j→ ∃o,st.objs[j]? =some o∧o.owned=true
theorem Lent.inv{J:List Nat}{R:List ORec}(hL:Lent st μ J R){t:Nat}{r:ORec}(h:R[t]? =some r): ∃j o,J[t]? =some j∧μ[j]? =some r∧st.objs[j]? =some o∧o.owned=true:=by
 have hlt:=(List.getElem?_eq_some_iff.1 h).1
 rw[hL.len]at hlt
 obtain ⟨j,hj⟩: ∃j,J[t]? =some j:=⟨_,List.getElem?_eq_getElem hlt⟩
 obtain ⟨r',h1,h2⟩:=hL.got t j hj
 rw[h]at h1
 injection h1 with h1
 subst h1
 obtain ⟨o,h3,h4⟩:=hL.own t j hj
 exact ⟨j,o,hj,h2,h3,h4⟩
theorem Lent.apart(h:Rel w0 S0 st μ a w){J:List Nat}{R:List ORec}(hL:Lent st μ J R){t s:Nat}{r q:ORec}(hts:t≠s)(hr:R[t]? =some r)(hq:R[s]? =some q): ∀k,r.ok k→ ¬q.ok k:=by
 obtain ⟨j,o,hj,hjr,ho,hw⟩:=hL.inv hr
 obtain ⟨i,o',hi,hir,_,_⟩:=hL.inv hq
 have hne:j≠i:=by
  intro he
  subst he
  exact hts ((List.getElem?_inj (List.getElem?_eq_some_iff.1 hj).1 hL.nd).1 (hj.trans hi.symm))
 exact h.dj j i o r q hne ho hw hjr hir
theorem Rel.borrow(h:Rel w0 S0 st μ a w){J:List Nat}{R:List ORec}{O:List Ob}(hL:Lent st μ J R)(hO:O.length=J.length)(no:Nat)(hob: ∀(t:Nat) o r,O[t]? =some o→R[t]? =some r→OR (noRec::R) w o r){ts:List TV}{a':Act}(hdf:a'.defers=[])(htm:a'.tmps.size=ts.length)
  (htv : ∀ (i : Nat) x, ts[i]? = some x → TR (noRec :: R) w x (a'.tmps.getD i undef)) : Rel w (boOwn O R no) { tmps := ts, objs := .ro :: O } (noRec :: R) a' w := by
 have hown: ∀k,(∃r∈R,r.ok k)→S0 k∨w0.heap.size≤k:=fun k ⟨r,hr,hk⟩=>by
  obtain ⟨t,ht⟩:=List.mem_iff_getElem?.1 hr
  obtain ⟨j,o,hj,hjr,ho,hw⟩:=hL.inv ht
  exact h.wr j o r ho hjr hw k hk
 refine ⟨by simp[hL.len,hO],htm,htv,fun i o r ho hr=> ?_,fun i j o ri rj hij ho hw hri hrj k hk=> ?_,fun i o r ho hr hw k hk=> ?_,fun i e t xs r ho hr k hk=> ?_,fun i r hr k hk=> ?_,.refl w _,hdf,fun j v hv=> ?_,h.glob hown,fun _ _ _ _ _=> .inl trivial⟩
 ·match i, ho, hr with
  |0,ho,hr=>injection ho with ho;subst ho;trivial
  |i+1,ho,hr=>exact hob i o r ho hr
 ·match i, j, ho, hri, hrj with
  |0,_,ho,_,_=>injection ho with ho;subst ho;cases hw
  |i+1,0,_,_,hrj=>injection hrj with hrj;subst hrj;exact fun hf=>hf
  |i+1,j+1,_,hri,hrj=>exact Lent.apart h hL (fun he=>hij (by rw[he])) hri hrj k hk
 ·match i, ho, hr with
  |0,ho,hr=>injection ho with ho;subst ho;cases hw
  |i+1,ho,hr=>exact .inl ⟨r,List.mem_of_getElem? hr,hk⟩
 ·match i, ho, hr with
  |0,ho,hr=>injection ho with ho;cases ho
  |i+1,ho,hr=>exact .inl ⟨i,e,t,xs,r,ho,hr,hk⟩
 ·match i, hr with
  |0,hr=>injection hr with hr;subst hr;exact hk.elim
  |i+1,hr=>
   obtain ⟨j,o,hj,hjr,ho,hw⟩:=hL.inv hr
   exact h.lt j r hjr k hk
 ·simp only [boOwn, List.getElem?_map, List.getElem?_take] at hv
  obtain ⟨r,hr,rfl⟩:=Option.map_eq_some_iff.1 hv
  split at hr
  ·exact ⟨r,hr,rfl,rfl⟩
  ·cases hr
def dieL(J:List Nat)(st:St):St:=J.foldl (fun st i=>st.die i) st
def offL(μ:List ORec)(J:List Nat):List ORec:=J.foldl offAt μ
theorem Rel.dieL: ∀{J:List Nat} {st:St} {μ:List ORec},Rel w0 S0 st μ a w→Rel w0 S0 (dieL J st) (offL μ J) a w
 |[],st,μ,h=>h
 |i::J,st,μ,h=>Rel.dieL (J:=J) (h.die i)
theorem ZKV: ∀{J:List Nat} {μ:List ORec},(offL μ J).length=μ.length
 |[],μ=>rfl
 |i::J,μ=>by
  have:=ZKV (J:=J) (μ:=offAt μ i)
  simp only[offL,List.foldl_cons]at this⊢
  rw[this]
  simp[offAt]
theorem ZSc: ∀{J:List Nat} {st:St},(dieL J st).objs.length=st.objs.length
 |[],st=>rfl
 |i::J,st=>by
  have:=ZSc (J:=J) (st:=st.die i)
  simp only[Vs.dieL,List.foldl_cons]at this⊢
  rw[this]
  simp[St.die]
theorem ZKF: ∀{J:List Nat} {μ:List ORec} {j:Nat} {r:ORec},(offL μ J)[j]? =some r→ ∃r0,μ[j]? =some r0∧r.v=r0.v∧r.blk=r0.blk∧((j∈J∧ ∀k,¬r.ok k)∨(j∉J∧r=r0))
 | [], μ, j, r, h => ⟨r, h, rfl, rfl, .inr ⟨by simp, rfl⟩⟩
 |i::J,μ,j,r,h=>by
  obtain ⟨r1,h1,e1,e2,h2⟩:=ZKF (J:=J) (μ:=offAt μ i) h
  obtain ⟨r0,h0,e3,e4,h3⟩:=Z5G h1
  refine ⟨r0,h0,e1.trans e3,e2.trans e4,?_⟩
  rcases h2 with ⟨hj,hk⟩|⟨hj,rfl⟩
  ·exact .inl ⟨List.mem_cons_of_mem _ hj, hk⟩
  ·rcases h3 with ⟨rfl, hk⟩ | ⟨hne, rfl⟩
   ·exact .inl ⟨List.mem_cons_self ..,hk⟩
   ·exact .inr ⟨fun hm=>by rcases List.mem_cons.1 hm with hm|hm;exact hne hm;exact hj hm,rfl⟩
theorem ZVm{J:List Nat}{μ:List ORec}{j:Nat}{r0:ORec}(h:μ[j]? =some r0): ∃r,(offL μ J)[j]? =some r∧r.v=r0.v∧r.blk=r0.blk:=by
 have hlt:=(List.getElem?_eq_some_iff.1 h).1
 obtain ⟨r,hr⟩: ∃r,(offL μ J)[j]? =some r:=⟨_,List.getElem?_eq_getElem (by rw[ZKV];exact hlt)⟩
 obtain ⟨r1,h1,e1,e2,_⟩:=ZKF hr
 rw[h]at h1
 injection h1 with h1
 subst h1
 exact ⟨r,hr,e1,e2⟩
theorem Rel.lentBack(h:Rel w0 S0 st μ a w){J:List Nat}{R:List ORec}{O:List Ob}{no:Nat}(hL:Lent st μ J R)(h1:Rel w (boOwn O R no) st1 μ1 a1 w1):Rel w0 S0 (Vs.dieL J st) (offL μ J) a w1∧ ∀(i:Nat) r,(offL μ J)[i]? =some r→ ∀k,r.ok k→(¬ ∃q∈R,q.ok k)∧k<w.heap.size:=by
 have hdis: ∀(i:Nat) r,(offL μ J)[i]? =some r→ ∀k,r.ok k→(¬ ∃q∈R,q.ok k)∧k<w.heap.size:=by
  intro i r hr k hk
  obtain ⟨r0,h0,_,_,hc⟩:=ZKF hr
  rcases hc with ⟨_,hc⟩|⟨hni,rfl⟩
  ·exact absurd hk (hc k)
  refine ⟨fun ⟨q,hq,hqk⟩=> ?_,h.lt i r h0 k hk⟩
  obtain ⟨t,ht⟩:=List.mem_iff_getElem?.1 hq
  obtain ⟨j,o,hj,hjr,ho,hw⟩:=hL.inv ht
  exact h.dj j i o q r (fun he=>hni (he▸List.mem_of_getElem? hj)) ho hw hjr h0 k hqk hk
 refine ⟨(h.dieL (J:=J)).world h1.kp (fun i r hr k hk=>(hdis i r hr k hk).1) (fun k ⟨q,hq,hk⟩=> ?_),hdis⟩
 obtain ⟨t,ht⟩:=List.mem_iff_getElem?.1 hq
 obtain ⟨j,o,hj,hjr,ho,hw⟩:=hL.inv ht
 exact h.wr j o q ho hjr hw k hk
end
end
section
structure BSig where
 e:TypeId
 fs:List (Option (TypeId×Ty))
@[reducible] def FD : List (Option (TypeId × Ty)) → Type
 |[]=>Unit
 |none::l=>Int×FD l
 |some p::l=>List p.2.D×FD l
def fAts:Nat→(l:List (Option (TypeId×Ty)))→FD l→List At
 |_,[],_=>[]
 |i,none::l,x=> .int .i64 x.1::fAts i l x.2
 |i,some _::l,x=> .sl i::fAts (i+1) l x.2
def fObs:(l:List (Option (TypeId×Ty)))→FD l→List Ob
 |[],_=>[]
 |none::l,x=>fObs l x.2
 |some p::l,x=> .row true p.1 p.2 x.1::fObs l x.2
def intHead:List At→Option (Int×List At)
 | .int .i64 n::cs=>some (n,cs)
 |_=>none
def rowHead(st:St)(p:TypeId×Ty):List At→Option (List p.2.D×(Nat×List At))
 | .sl j::cs=>match st.objs[j]? with
  |some (.row true e t xs)=>if h:e=p.1∧t=p.2 then some (h.2▸xs,(j,cs)) else none
  |_=>none
 |_=>none
def fRead(st:St):(l:List (Option (TypeId×Ty)))→List At→Option (FD l×List Nat)
 | [], cs => if cs.isEmpty = true then some ((), []) else none
 |none::l,cs=>match intHead cs with
  |some (n,cs')=>match fRead st l cs' with
   |some (x,js)=>some ((n,x),js)
   |none=>none
  |none=>none
 |some p::l,cs=>match rowHead st p cs with
  |some (xs,(j,cs'))=>match fRead st l cs' with
   |some (x,js)=>some ((xs,x),j::js)
   |none=>none
  |none=>none
theorem ZUa{cs cs':List At}{n:Int}(h:intHead cs=some (n,cs')):cs= .int .i64 n::cs':=by
 unfold intHead at h
 split at h
 ·injection h with h;injection h with h1 h2;subst h1 h2;rfl
 ·cases h
theorem ZUc{st:St}{p:TypeId×Ty}{cs cs':List At}{xs:List p.2.D}{j:Nat}(h:rowHead st p cs=some (xs,(j,cs'))):cs= .sl j::cs'∧st.objs[j]? =some (.row true p.1 p.2 xs):=by
 obtain ⟨pe,pt⟩:=p
 unfold rowHead at h
 split at h
 ·split at h
  ·rename_i e t ys hob
   split at h
   ·rename_i hc
    obtain ⟨h1,h2⟩:=hc
    simp only at h1 h2
    subst h1 h2
    injection h with h
    injection h with h1 h2
    injection h2 with h2 h3
    subst h1 h2 h3
    exact ⟨rfl,hob⟩
   ·cases h
  ·cases h
 ·cases h
section
variable {P:Program} {w w1 w0 w':World} {S0:Own} {st st1:St} {μ μ1 μ':List ORec} {a a1 a':Act}
theorem ZPb{l:List (Option (TypeId×Ty))}{cs:List At}{x:FD (none::l)}{js:List Nat}(h:fRead st (none::l) cs=some (x,js)): ∃n cs' x',cs= .int .i64 n::cs'∧fRead st l cs'=some (x',js)∧x=(n,x'):=by
 simp only[fRead]at h
 split at h
 ·rename_i n cs' hi
  split at h
  ·rename_i x' js' hr
   injection h with h
   injection h with h1 h2
   subst h1 h2
   exact ⟨n,cs',x',ZUa hi,hr,rfl⟩
  ·cases h
 ·cases h
theorem ZPc{p:TypeId×Ty}{l:List (Option (TypeId×Ty))}{cs:List At}{x:FD (some p::l)}{js:List Nat}(h:fRead st (some p::l) cs=some (x,js)): ∃xs j cs' x' js',cs= .sl j::cs'∧st.objs[j]? =some (.row true p.1 p.2 xs)∧fRead st l cs'=some (x',js')∧x=(xs,x')∧js=j::js':=by
 simp only[fRead]at h
 split at h
 ·rename_i xs j cs' hi
  split at h
  ·rename_i x' js' hr
   injection h with h
   injection h with h1 h2
   subst h1 h2
   obtain ⟨g1,g2⟩:=ZUc hi
   exact ⟨xs,j,cs',x',js',g1,g2,hr,rfl,rfl⟩
  ·cases h
 ·cases h
theorem Zlk: ∀{l:List (Option (TypeId×Ty))} {cs:List At} {x:FD l} {js:List Nat},fRead st l cs=some (x,js)→(fObs l x).length=js.length∧ ∀(t j:Nat),js[t]? =some j→ ∃e ty xs,(fObs l x)[t]? =some (.row true e ty xs)∧st.objs[j]? =some (.row true e ty xs)
 | [], cs, x, js, h => by
  simp only[fRead]at h
  split at h
  ·injection h with h
   injection h with h1 h2
   subst h2
   exact ⟨rfl,fun t j hj=>by simp at hj⟩
  ·cases h
 |none::l,cs,x,js,h=>by
  obtain ⟨n,cs',x',rfl,hr,rfl⟩:=ZPb h
  have ih:=Zlk (l:=l) hr
  exact ih
 |some p::l,cs,x,js,h=>by
  obtain ⟨xs,j,cs',x',js',rfl,hob,hr,rfl,rfl⟩:=ZPc h
  obtain ⟨g1,g2⟩:=Zlk hr
  refine ⟨by simp[fObs,g1],fun t j' hj=> ?_⟩
  cases t with
  |zero=>injection hj with hj;subst hj;exact ⟨_,_,_,rfl,hob⟩
  |succ t=>exact g2 t j' hj
theorem Zta: ∀{l:List (Option (TypeId×Ty))} {cs:List At} {x:FD l} {js:List Nat},fRead st l cs=some (x,js)→ ∀(i:Nat) (vs:List Value),AL μ w cs vs→(∀(t j:Nat) r,js[t]? =some j→μ[j]? =some r→ ∃r',μ'[i+t]? =some r'∧r'.v=r.v)→AL μ' w' (fAts i l x) vs
 | [], cs, x, js, h, i, vs, hA, hm => by
  simp only[fRead]at h
  split at h
  ·rename_i hc
   have:cs=[]:=by simpa using hc
   subst this
   exact ⟨by simpa[fAts]using hA.1,fun j y v hy=>by simp[fAts]at hy⟩
  ·cases h
 |none::l,cs,x,js,h,i,vs,hA,hm=>by
  obtain ⟨n,cs',x',rfl,hr,rfl⟩:=ZPb h
  match vs,hA with
  | [], hA => have := hA.1; simp at this
  |v::vs,hA=>
   have ih:=Zta hr i vs ⟨by have:=hA.1;simpa using this,fun j y u hy hu=>hA.2 (j+1) y u hy hu⟩ hm
   refine ⟨by simp[fAts,ih.1],fun j y u hy hu=> ?_⟩
   cases j with
   |zero=>
    injection hy with hy;subst hy
    injection hu with hu;subst hu
    exact (hA.2 0 _ v rfl rfl:v=_)
   |succ j=>exact ih.2 j y u hy hu
 |some p::l,cs,x,js,h,i,vs,hA,hm=>by
  obtain ⟨xs,j0,cs',x',js',rfl,hob,hr,rfl,rfl⟩:=ZPc h
  match vs,hA with
  | [], hA => have := hA.1; simp at this
  |v::vs,hA=>
   have ih:=Zta hr (i+1) vs ⟨by have:=hA.1;simpa using this,fun j y u hy hu=>hA.2 (j+1) y u hy hu⟩ (fun t j r hj hr=>by
    have:=hm (t+1) j r hj hr
    rwa [show i+1+t=i+(t+1) by omega])
   refine ⟨by simp[fAts,ih.1],fun j y u hy hu=> ?_⟩
   cases j with
   |zero=>
    injection hy with hy;subst hy
    injection hu with hu;subst hu
    obtain ⟨r,hr0,hv,hs⟩:=hA.2 0 _ v rfl rfl
    obtain ⟨r',hr',hv'⟩:=hm 0 j0 r rfl hr0
    exact ⟨r',hr',by rw[hv'];exact hv,hs⟩
   |succ j=>exact ih.2 j y u hy hu
def BSig.init(q:BSig)(n:Nat)(x:FD q.fs):St:={tmps:= .sv (.at (.ptr 1 0))::List.replicate (n-1) (.sv (.at .un)),objs:= .ro:: .box q.e (fAts 2 q.fs x)::fObs q.fs x}
def BSig.read(q:BSig)(st:St):List TV→Option (FD q.fs×(Nat×List Nat))
 | [.sv (.at (.ptr i 0))] => match st.objs[i]? with
  |some (.box e cs)=>if e=q.e then match fRead st q.fs cs with
    |some (x,js)=>if distinct js=true then some (x,(i,js)) else none
    |none=>none
   else none
  |_=>none
 |_=>none
theorem ZiE: ∀{l:List Nat},distinct l=true→l.Nodup
 |[],_=>List.nodup_nil
 |x::l,h=>by
  simp only[distinct,Bool.and_eq_true,Bool.not_eq_true']at h
  exact List.nodup_cons.2 ⟨by simpa using h.1,ZiE h.2⟩
theorem BSig.read_sound{q:BSig}{n:Nat}(hn:0<n)(h:Rel w0 S0 st μ a w){xs:List TV}{vs:List Value}(hl:vs.length=xs.length)(hT: ∀(j:Nat) x v,xs[j]? =some x→vs[j]? =some v→TR μ w x v){x:FD q.fs}{i:Nat}{js:List Nat}(hr:q.read st xs=some (x,(i,js))):
  ∃ (R : List ORec) (cs : List At), st.objs[i]? = some (.box q.e cs) ∧ fRead st q.fs cs = some (x, js) ∧ Lent st μ (i :: js) R ∧ Rel w (boOwn (.box q.e (fAts 2 q.fs x) :: fObs q.fs x) R 1) (q.init n x) (noRec :: R) { tmps := vs.toArray ++ Array.replicate (n - vs.toArray.size) undef, defers := [] } w := by
 unfold BSig.read at hr
 split at hr
 ·rename_i i0
  split at hr
  ·rename_i e cs hob
   split at hr
   ·rename_i he
    subst he
    split at hr
    ·rename_i x0 js0 hf
     split at hr
     ·rename_i hd
      injection hr with hr
      injection hr with h1 h2
      injection h2 with h2 h3
      subst h1 h2 h3
      obtain ⟨rb,hrb⟩:=h.some_rec hob
      obtain ⟨g1,g2⟩:=Zlk hf
      obtain ⟨okb,us,hheap,hA,hone⟩:=h.ob i0 _ rb hob hrb
      have hrec: ∀j,j∈js0→ ∃r,μ[j]? =some r:=fun j hj=>by
       obtain ⟨t,ht⟩:=List.mem_iff_getElem?.1 hj
       obtain ⟨_,_,_,_,g⟩:=g2 t j ht
       exact h.some_rec g
      have hL:Lent st μ (i0::js0) (rb::js0.map fun j=>(μ[j]?).getD noRec):=by
       refine ⟨List.nodup_cons.2 ⟨fun hm=> ?_,ZiE hd⟩,by simp,fun t j hj=> ?_,fun t j hj=> ?_⟩
       ·obtain ⟨t, ht⟩ := List.mem_iff_getElem?.1 hm
        obtain ⟨_,_,_,_,g⟩:=g2 t i0 ht
        rw[hob]at g
        injection g with g
        cases g
       ·cases t with
        |zero=>injection hj with hj;subst hj;exact ⟨rb,rfl,hrb⟩
        |succ t=>
         have hj:js0[t]? =some j:=hj
         obtain ⟨r,hr⟩:=hrec j (List.mem_of_getElem? hj)
         refine ⟨r,?_,hr⟩
         simp only[List.getElem?_cons_succ,List.getElem?_map,hj,Option.map_some,hr,Option.getD_some]
       ·cases t with
        |zero=>injection hj with hj;subst hj;exact ⟨_,hob,rfl⟩
        |succ t=>
         obtain ⟨_,_,_,_,g⟩:=g2 t j hj
         exact ⟨_,g,rfl⟩
      match vs,hl with
      | [v], _ =>
      have tv:=(hT 0 _ v rfl rfl)
      refine ⟨_,cs,hob,hf,hL,h.borrow hL (by simp[g1]) 1 (fun t o r ho hr=> ?_) rfl (by simp;omega) (fun t y hy=> ?_)⟩
      ·cases t with
       |zero=>
        injection ho with ho;subst ho
        injection hr with hr;subst hr
        refine ⟨okb,us,hheap,Zta hf 2 us hA (fun t j r hj hr=>⟨r,?_,rfl⟩),hone⟩
        rw[show 2+t=t+1+1 by omega,List.getElem?_cons_succ,List.getElem?_cons_succ,List.getElem?_map,hj]
        simp[hr]
       |succ t=>
        have ho:(fObs q.fs x0)[t]? =some o:=ho
        have hlt:=(List.getElem?_eq_some_iff.1 ho).1
        rw[g1]at hlt
        obtain ⟨j,hj⟩: ∃j,js0[t]? =some j:=⟨_,List.getElem?_eq_getElem hlt⟩
        obtain ⟨e,ty,ys,k1,k2⟩:=g2 t j hj
        rw[ho]at k1
        injection k1 with k1
        subst k1
        obtain ⟨r0,hr0⟩:=h.some_rec k2
        have hr:(js0.map fun j=>(μ[j]?).getD noRec)[t]? =some r:=hr
        rw[List.getElem?_map,hj]at hr
        injection hr with hr
        have hr2:(μ[j]?).getD noRec=r:=hr
        rw[hr0]at hr2
        have hr3:r0=r:=hr2
        subst hr3
        exact h.ob j _ r0 k2 hr0
      ·cases t with
       |zero=>
        injection hy with hy;subst hy
        obtain ⟨⟨r,hr,hv⟩,h2⟩:=tv
        rw[hrb]at hr
        injection hr with hr
        subst hr
        have ev:(([v].toArray++Array.replicate (n-[v].toArray.size) undef).getD 0 undef)=v:=by
         rw[Array.getD_eq_getD_getElem?,Array.getElem?_append_left (by simp)]
         rfl
        show TR _ w (.sv (.at (.ptr 1 0))) (([v].toArray++Array.replicate (n-[v].toArray.size) undef).getD 0 undef)
        rw[ev]
        exact ⟨⟨rb,rfl,hv⟩,.inr (by rw[hv];rfl)⟩
       |succ t=>
        have hy:(List.replicate (n-1) (TV.sv (.at .un)))[t]? =some y:=hy
        rw[List.getElem?_replicate]at hy
        split at hy
        ·injection hy with hy;subst hy;exact ⟨trivial,.inl rfl⟩
        ·cases hy
     ·cases hr
    ·cases hr
   ·cases hr
  ·cases hr
 ·cases hr
theorem Rel.pushL: ∀{O:List Ob} {C:List ORec} {st:St} {μ:List ORec},Rel w0 S0 st μ a w→O.length=C.length→(∀(t:Nat) o c,O[t]? =some o→C[t]? =some c→ ∃(e:TypeId) (ty:Ty) (xs:List ty.D),o= .row true e ty xs∧RowRep (Rep ty) ty.sz e w c.ok xs c.v)→
  (∀ (t s : Nat) c d, t ≠ s → C[t]? = some c → C[s]? = some d → ∀ k, c.ok k → ¬ d.ok k) → (∀ (t : Nat) c, C[t]? = some c → ∀ (j : Nat) r, μ[j]? = some r → ∀ k, c.ok k → ¬ r.ok k) →
  (∀ (t : Nat) c, C[t]? = some c → ∀ k, c.ok k → (S0 k ∨ w0.heap.size ≤ k) ∧ (S0.gv k ∨ w0.heap.size ≤ k) ∧ k < w.heap.size) → Rel w0 S0 { st with objs := st.objs ++ O } (μ ++ C.map fun c => ⟨c.v, 0, c.ok⟩) a w
 | [], [], st, μ, h, _, _, _, _, _ => by simpa using h
 | [], _ :: _, _, _, _, hl, _, _, _, _ => by simp at hl
 |_::_,[],_,_,_,hl,_,_,_,_=>by simp at hl
 |o::O,c::C,st,μ,h,hl,hr,hcc,hcm,hck=>by
  obtain ⟨e,ty,xs,rfl,hrow⟩:=hr 0 o c rfl rfl
  have h1:=h.push (o:= .row true e ty xs) (r:=⟨c.v,0,c.ok⟩) hrow (fun _ j r hj k hk=>hcm 0 c rfl j r hj k hk) (fun j o r _ _ hj k hk hk2=>hcm 0 c rfl j r hj k hk2 hk)
   (fun _ k hk=>(hck 0 c rfl k hk).1) (fun _ _ _ _ k hk=>(hck 0 c rfl k hk).2.1) (fun k hk=>(hck 0 c rfl k hk).2.2)
  have h2:=Rel.pushL (O:=O) (C:=C) h1 (by simpa using hl) (fun t o' c' h1 h2=>hr (t+1) o' c' h1 h2) (fun t s c' d hts h1 h2=>hcc (t+1) (s+1) c' d (by omega) h1 h2) (fun t c' hc' j r hj k hk=>by
   rw[List.getElem?_append]at hj
   split at hj
   ·exact hcm (t + 1) c' hc' j r hj k hk
   ·have := List.mem_singleton.1 (List.mem_of_getElem? hj)
    subst this
    exact hcc (t+1) 0 c' c (by omega) hc' rfl k hk) (fun t c' hc'=>hck (t+1) c' hc')
  simpa using h2
def BSig.back(q:BSig)(st:St)(i:Nat)(js:List Nat)(y:FD q.fs):St:=
 reSt {Vs.dieL (i::js) st with objs:=(Vs.dieL (i::js) st).objs++fObs q.fs y} i (.box q.e (fAts st.objs.length q.fs y))
theorem BSig.back_sound{q:BSig}{i:Nat}{js ms:List Nat}{cs cs1:List At}{R:List ORec}{x y:FD q.fs}(h:Rel w0 S0 st μ a w)(hob:st.objs[i]? =some (.box q.e cs))(hf:fRead st q.fs cs=some (x,js))(hL:Lent st μ (i::js) R)
  (r1 : Rel w (boOwn (.box q.e (fAts 2 q.fs x) :: fObs q.fs x) R 1) st1 μ1 a1 w1) (ho1 : st1.objs[1]? = some (.box q.e cs1)) (hf1 : fRead st1 q.fs cs1 = some (y, ms)) (hd : distinct ms = true) : ∃ μ', Rel w0 S0 (q.back st i js y) μ' a w1 := by
 obtain ⟨g1,g2⟩:=Zlk hf
 obtain ⟨k1,k2⟩:=Zlk hf1
 obtain ⟨h2,hdis⟩:=h.lentBack hL r1
 obtain ⟨rb,hR0,hrb⟩:=hL.got 0 i rfl
 obtain ⟨okb,_⟩:=h.ob i _ rb hob hrb
 have hs:=h.kp.size
 have hs1:=r1.kp.size
 obtain ⟨c1,hc1,hc1v,hc1b⟩:=r1.ov 0 (rb.v,rb.blk) (by
  simp only[boOwn,List.getElem?_map,List.getElem?_take,Nat.zero_lt_one,if_true,hR0]
  rfl)
 obtain ⟨okb1,us,hheap,hA,hone⟩:=r1.ob 1 _ c1 ho1 hc1
 have hc1b:c1.blk=rb.blk:=hc1b
 rw [hc1b] at hheap
 have hrec: ∀m,m∈ms→ ∃c,μ1[m]? =some c:=fun m hm=>by
  obtain ⟨t,ht⟩:=List.mem_iff_getElem?.1 hm
  obtain ⟨_,_,_,_,g⟩:=k2 t m ht
  exact r1.some_rec g
 obtain ⟨C,hC⟩: ∃C:List ORec,C=ms.map fun m=>(μ1[m]?).getD noRec:=⟨_,rfl⟩
 have hCl:C.length=ms.length:=by rw[hC];simp
 have hCg: ∀(t:Nat) c,C[t]? =some c→ ∃m e ty xs,ms[t]? =some m∧μ1[m]? =some c∧(fObs q.fs y)[t]? =some (.row true e ty xs)∧st1.objs[m]? =some (.row true e ty xs):=by
  intro t c hc
  have hlt:=(List.getElem?_eq_some_iff.1 hc).1
  rw[hCl]at hlt
  obtain ⟨m,hm⟩: ∃m,ms[t]? =some m:=⟨_,List.getElem?_eq_getElem hlt⟩
  obtain ⟨e,ty,xs,e1,e2⟩:=k2 t m hm
  obtain ⟨c0,hc0⟩:=r1.some_rec e2
  rw[hC,List.getElem?_map,hm]at hc
  injection hc with hc
  have hc2:(μ1[m]?).getD noRec=c:=hc
  rw[hc0]at hc2
  have hc3:c0=c:=hc2
  subst hc3
  exact ⟨m,e,ty,xs,hm,hc0,e1,e2⟩
 have hown: ∀k,(∃r∈R,r.ok k)→S0 k∨w0.heap.size≤k:=fun k ⟨r,hr,hk⟩=>by
  obtain ⟨t,ht⟩:=List.mem_iff_getElem?.1 hr
  obtain ⟨j,o,hj,hjr,ho,hw⟩:=hL.inv ht
  exact h.wr j o r ho hjr hw k hk
 have hnew: ∀(t:Nat) c,C[t]? =some c→ ∀k,c.ok k→(∃r∈R,r.ok k∧r≠rb∨r.ok k)∨w.heap.size≤k:=fun t c hc k hk=>by
  obtain ⟨m,e,ty,xs,_,hmc,_,hmo⟩:=hCg t c hc
  rcases r1.wr m _ c hmo hmc rfl k hk with h5|h5
  ·obtain ⟨r, hr, hk2⟩ := h5
   exact .inl ⟨r,hr,.inr hk2⟩
  ·exact .inr h5
 have hfr: ∀(t:Nat) c,C[t]? =some c→ ∀k,c.ok k→(∃s r,R[s+1]? =some r∧r.ok k)∨w.heap.size≤k:=fun t c hc k hk=>by
  obtain ⟨m,e,ty,xs,_,hmc,_,hmo⟩:=hCg t c hc
  rcases r1.fr m e ty xs c hmo hmc k hk with h5|h5
  ·obtain ⟨s, e', ty', xs', r, hso, hsr, hk2⟩ := h5
   cases s with
   |zero=>injection hso with hso;cases hso
   |succ s=>exact .inl ⟨s,r,hsr,hk2⟩
  ·exact .inr h5
 have hgv: ∀(s:Nat) r,R[s+1]? =some r→ ∀k,r.ok k→S0.gv k∨w0.heap.size≤k:=fun s r hr k hk=>by
  obtain ⟨j,o,hj,hjr,ho,hw⟩:=hL.inv hr
  obtain ⟨e,ty,xs,_,e2⟩:=g2 s j hj
  exact h.fr j e ty xs r e2 hjr k hk
 have h3:=h2.pushL (O:=fObs q.fs y) (C:=C) (by rw[k1,hCl]) (fun t o c ho hc=>by
   obtain ⟨m,e,ty,xs,_,hmc,e1,e2⟩:=hCg t c hc
   rw[ho]at e1
   injection e1 with e1
   exact ⟨e,ty,xs,e1,r1.ob m _ c e2 hmc⟩) (fun t s c d hts hc hd2 k hk=>by
   obtain ⟨m,e,ty,xs,hm,hmc,_,e2⟩:=hCg t c hc
   obtain ⟨m',e',ty',xs',hm',hmd,_,_⟩:=hCg s d hd2
   have hne:m≠m':=by
    intro he
    subst he
    exact hts ((List.getElem?_inj (List.getElem?_eq_some_iff.1 hm).1 (ZiE hd)).1 (hm.trans hm'.symm))
   exact r1.dj m m' _ c d hne e2 rfl hmc hmd k hk) (fun t c hc j r hj k hk hk2=>by
   obtain ⟨n1,n2⟩:=hdis j r hj k hk2
   rcases hfr t c hc k hk with ⟨s,q',hq,hqk⟩|h5
   ·exact n1 ⟨q', List.mem_of_getElem? hq, hqk⟩
   ·omega) (fun t c hc k hk => by
   obtain ⟨m,e,ty,xs,_,hmc,_,e2⟩:=hCg t c hc
   have hlt:=r1.lt m c hmc k hk
   rcases hfr t c hc k hk with ⟨s,r,hr,hrk⟩|h5
   ·exact ⟨hown k ⟨r, List.mem_of_getElem? hr, hrk⟩, hgv s r hr k hrk, hlt⟩
   ·exact ⟨.inr (by omega), .inr (by omega), hlt⟩)
 have li:=(List.getElem?_eq_some_iff.1 hob).1
 obtain ⟨r0,hr0,hv0,hb0⟩:=ZVm (J:=i::js) hrb
 have hlen:(offL μ (i::js)).length=st.objs.length:=by rw[ZKV,h.len]
 have hr0':(offL μ (i::js)++C.map fun c=>(⟨c.v,0,c.ok⟩:ORec))[i]? =some r0:=by
  rw[List.getElem?_append_left (by rw[hlen];exact li)];exact hr0
 have h4:=h3.revive (i:=i) (o':= .box q.e (fAts st.objs.length q.fs y)) (r':=rb) hr0' hv0.symm hb0.symm (by simp[ZSc];omega) (fun μ' hμ' _=>⟨okb,us,hheap,Zta hf1 _ us hA (fun t m r hm hmr=>by
   have hlt:=(List.getElem?_eq_some_iff.1 hm).1
   obtain ⟨c,hc⟩: ∃c,C[t]? =some c:=⟨_,List.getElem?_eq_getElem (by rw[hCl];exact hlt)⟩
   obtain ⟨m',_,_,_,hm',hmc,_,_⟩:=hCg t c hc
   rw[hm]at hm'
   injection hm' with hm'
   subst hm'
   rw[hmr]at hmc
   injection hmc with hmc
   subst hmc
   refine ⟨⟨r.v,0,r.ok⟩,?_,rfl⟩
   rw[hμ' _ (by omega),←hlen,List.getElem?_append_right (by omega),show (offL μ (i::js)).length+t-(offL μ (i::js)).length=t by omega,List.getElem?_map,hc]
   rfl),hone⟩) (fun j r hj hr k hk hk2=>by
   rw[List.getElem?_append]at hr
   split at hr
   ·exact (hdis j r hr k hk2).1 ⟨rb, List.mem_of_getElem? hR0, hk⟩
   ·rw [List.getElem?_map] at hr
    obtain ⟨c,hc,rfl⟩:=Option.map_eq_some_iff.1 hr
    rcases hfr _ c hc k hk2 with ⟨s,q',hq,hqk⟩|h5
    ·exact Lent.apart h hL (by omega:s+1≠0) hq hR0 k hqk hk
    ·have:=h.lt i rb hrb k hk;omega) (fun k hk=>h.wr i _ rb hob hrb rfl k hk) (fun _ _ _ he=>by cases he) (fun k hk=>by have:=h.lt i rb hrb k hk;omega)
 exact ⟨_,h4⟩
end
structure BDef where
 q:BSig
 rv:Option Tmp
 f:Nat→FD q.fs→Option (FD q.fs×Bool)
def rvTV(rv:Option Tmp)(b:Bool):TV:=match rv with|none=> .tup []|some _=> .sv (.at (.bool b))
def BSig.res(q:BSig)(rv:Option Tmp)(st:St):Option (FD q.fs×Bool):=match st.objs[(1:Nat)]? with
 |some (Ob.box e cs)=>if e=q.e then match fRead st q.fs cs with
   |some (y,ms)=>if distinct ms=true then match rv with
     |none=>some (y,false)
     |some t=>match st.tmps[t]? with
      |some (.sv (.at (.bool b)))=>some (y,b)
      |_=>none
    else none
   |none=>none
  else none
 |_=>none
def BDef.E(D:BDef):CloE where
 act:=fun k st dst xs K=>match D.q.read st xs with
  |some (x,(i,js))=>match D.f k x with
   |some z=>K ((D.q.back st i js z.1).put dst (rvTV D.rv z.2))
   |none=>none
  |none=>none
noncomputable def fnKB(D:BDef)(X:Ctx (FD D.q.fs×Bool))(body:Code)(k:Nat)(x:FD D.q.fs):Option (FD D.q.fs×Bool):=
 exec X k body (D.q.init X.n x) (endK X some) (fun _ _=>none) some
section
variable {P:Program}
theorem ZWu{D:BDef}{X:Ctx (FD D.q.fs×Bool)}{f:FuncId}{fn:Func}{body:Code}{k:Nat}(hX:X.res=D.q.res D.rv)(hXno:X.no=1)(hXn:X.n=fn.ntmps)(hn0:0<fn.ntmps)(hf:P.funcs[f]? =some fn)(hb:fn.body=some body)(hrs:fn.results.toList=(D.rv.map ResultVar.tmp).toList)
  (hn : (fn.name == "runtime.NumGoroutine") = false) (hT : TTok P X.T) (hG : EnvOK P k X.G) (hL : LOK P X k body) (hs : ∀ x, D.f (k + 1) x = fnKB D X body k x) : ClSound P (k + 1) f D.E := by
 refine ⟨Z4a hf hn (by rw [hb]; rfl), fun {γ K r w w0 S0 st μ a} dst xs vs h hl hTr hk => ?_⟩
 simp only[BDef.E]at hk
 split at hk
 ·rename_i x i js hx
  split at hk
  ·rename_i z hz
   obtain ⟨R,cs,hob,hfr,hLe,h'⟩:=BSig.read_sound (n:=X.n) (by rw[hXn];exact hn0) h hl hTr hx
   have hz := (hs x).symm.trans hz
   rw [hXn] at h'
   have hz2 : exec X k body (D.q.init fn.ntmps x) (endK X some) (fun _ _ => none) some = some z := by rw [← hXn]; exact hz
   have hno : (boOwn (.box D.q.e (fAts 2 D.q.fs x) :: fObs D.q.fs x) R 1).ov.length = X.no := by
    have := hLe.len
    simp only[boOwn,List.length_map,List.length_take,hXno]
    simp at this
    omega
   refine calls_of_wp hf hb (Code.wp_mono (fun e a' w' hq=> ?_) (Z9C hT hG hno hL h' hz2))
   have fin : ∀ (st1 : St) (μ1 : List ORec) (b : FD D.q.fs × Bool), Rel w (boOwn (.box D.q.e (fAts 2 D.q.fs x) :: fObs D.q.fs x) R 1) st1 μ1 a' w' → X.res st1 = some b → some b = some z → ∃ v, (results fn a'.tmps).run P w' = .ok v w' ∧ ∃ st' μ', Rel w0 S0 st' μ' (a.put dst v) w' ∧ K st' = some r := by
    intro st1 μ1 b r1 hb2 hmk
    injection hmk with hmk
    subst hmk
    rw [hX] at hb2
    unfold BSig.res at hb2
    split at hb2
    ·rename_i e cs1 ho1
     split at hb2
     ·rename_i he
      subst he
      split at hb2
      ·rename_i y ms hf1
       split at hb2
       ·rename_i hd
        split at hb2
        ·rename_i hrv
         injection hb2 with hb2
         subst hb2
         obtain ⟨μ2,r2⟩:=BSig.back_sound h hob hfr hLe r1 ho1 hf1 hd
         rw[hrv]at hrs hk
         refine ⟨.tuple #[],Ze0 (us:=[]) (by rw[hrs];rfl),_,μ2,r2.put dst (x:= .tup []) (v:= .tuple #[]) ⟨[],rfl,rfl,fun j x u hx=>by simp at hx⟩,hk⟩
        ·rename_i t hrv
         split at hb2
         ·rename_i bb ht
          injection hb2 with hb2
          subst hb2
          obtain ⟨μ2,r2⟩:=BSig.back_sound h hob hfr hLe r1 ho1 hf1 hd
          rw[hrv]at hrs hk
          have hv:a'.tmps.getD t undef= .bool bb:=(r1.tv t _ ht).1
          refine ⟨.bool bb,?_,_,μ2,r2.put dst (x:= .sv (.at (.bool bb))) (v:= .bool bb) ⟨rfl,.inr rfl⟩,hk⟩
          refine Ze0 (us:=[.bool bb]) ?_
          rw[hrs,←hv]
          rfl
         ·cases hb2
       ·cases hb2
      ·cases hb2
     ·cases hb2
    ·cases hb2
   cases e with
   |normal=>
    obtain ⟨st1,μ1,r1,hr1⟩:=hq
    unfold endK at hr1
    split at hr1
    ·rename_i b hb2
     obtain ⟨v,g1,g2⟩:=fin st1 μ1 b r1 hb2 hr1
     exact ⟨r1.df,v,g1,g2⟩
    ·cases hr1
   |ret=>
    obtain ⟨st1,μ1,b,r1,hb2,hr1⟩:=hq
    obtain ⟨v,g1,g2⟩:=fin st1 μ1 b r1 hb2 hr1
    exact ⟨r1.df,v,g1,g2⟩
   |exit id=>obtain ⟨st1,μ1,r1,hr1⟩:=hq;cases hr1
   |goto l=>exact False.elim hq
   |panic ch=>exact False.elim hq
   |outgrown=>exact False.elim hq
  ·cases hk
 ·cases hk
theorem BDef.zero{D:BDef}{f:FuncId}(he: ∀vs w,(callFunc f vs).run P w= .ok (.enter f vs) w)(h0: ∀x,D.f 0 x=none):ClSound P 0 f D.E:=
 ⟨he, fun dst xs vs h hl hT hk => by
  simp only[BDef.E]at hk
  split at hk
  ·split at hk
   ·rename_i z hz
    exact nomatch (h0 _).symm.trans hz
   ·cases hk
  ·cases hk⟩
theorem ZVr{D:BDef}{X:Ctx (FD D.q.fs×Bool)}{f:FuncId}{fn:Func}{body:Code}(hX:X.res=D.q.res D.rv)(hXno:X.no=1)(hXn:X.n=fn.ntmps)(hn0:decide (0<fn.ntmps)=true)(hf:P.funcs[f]? =some fn)(hb:fn.body=some body)(hrs:fn.results.toList=(D.rv.map ResultVar.tmp).toList)
  (hn:(fn.name== "runtime.NumGoroutine")=false) (hT:TTok P X.T) (hG: ∀k,EnvOK P k X.G) (hL: ∀k,LOK P X k body) (h0: ∀x,D.f 0 x=none) (hs: ∀k x,D.f (k+1) x=fnKB D X body k x): ∀k,ClSound P k f D.E
 |0=>BDef.zero (Z4a hf hn (by rw[hb];rfl)) h0
 |k+1=>ZWu hX hXno hXn (of_decide_eq_true hn0) hf hb hrs hn hT (hG k) (hL k) (hs k)
end
structure PDef where
 ps:List KP
 q:BSig
 rt:Tmp
 f:Nat→KTup ps→Option (FD q.fs)
def BSig.out(q:BSig)(rt:Tmp)(st:St):Option (FD q.fs):=match st.tmps[rt]? with
 |some (.sv (.at (.ptr i 0)))=>match st.objs[i]? with
  |some (.box e cs)=>if e=q.e then match fRead st q.fs cs with
    |some (y,ms)=>if distinct ms=true then some y else none
    |none=>none
   else none
  |_=>none
 |_=>none
def BSig.give(q:BSig)(st:St)(y:FD q.fs):St:={st with objs:=st.objs++fObs q.fs y++[.box q.e (fAts st.objs.length q.fs y)]}
def PDef.E(D:PDef):CloE where
 act:=fun k st dst xs K=>match readKs st [] D.ps xs with
  |some x=>match D.f k x with
   |some y=>K ((D.q.give st y).put dst (.sv (.at (.ptr (st.objs.length+(fObs D.q.fs y).length) 0))))
   |none=>none
  |none=>none
noncomputable def fnKP(D:PDef)(X:Ctx (FD D.q.fs))(body:Code)(k:Nat)(x:KTup D.ps):Option (FD D.q.fs):=
 exec X k body (initKS D.ps X.n x) (endK X some) (fun _ _=>none) some
section
variable {P:Program} {w w1 w0 w':World} {S0:Own} {st st1:St} {μ μ1 μ':List ORec} {a a1 a':Act}
theorem BSig.give_sound{q:BSig}{rt:Tmp}{y:FD q.fs}(h:Rel w0 S0 st μ a w)(r1:Rel w {ok:=fun _=>False,ov:=[]} st1 μ1 a1 w1)(ho:q.out rt st1=some y): ∃v μ',a1.tmps.getD rt undef=v∧ ∀dst,Rel w0 S0 ((q.give st y).put dst (.sv (.at (.ptr (st.objs.length+(fObs q.fs y).length) 0)))) μ' (a.put dst v) w1:=by
 unfold BSig.out at ho
 split at ho
 ·rename_i i ht
  split at ho
  ·rename_i e cs hob
   split at ho
   ·rename_i he
    subst he
    split at ho
    ·rename_i y' ms hf1
     split at ho
     ·rename_i hd
      injection ho with ho
      subst ho
      obtain ⟨k1,k2⟩:=Zlk hf1
      obtain ⟨cb,hcb⟩:=r1.some_rec hob
      obtain ⟨okb,us,hheap,hA,hone⟩:=r1.ob i _ cb hob hcb
      have hs:=h.kp.size
      obtain ⟨C,hC⟩: ∃C:List ORec,C=ms.map fun m=>(μ1[m]?).getD noRec:=⟨_,rfl⟩
      have hCl:C.length=ms.length:=by rw[hC];simp
      have hCg: ∀(t:Nat) c,C[t]? =some c→ ∃m e ty xs,ms[t]? =some m∧μ1[m]? =some c∧(fObs q.fs y')[t]? =some (.row true e ty xs)∧st1.objs[m]? =some (.row true e ty xs):=by
       intro t c hc
       have hlt:=(List.getElem?_eq_some_iff.1 hc).1
       rw[hCl]at hlt
       obtain ⟨m,hm⟩: ∃m,ms[t]? =some m:=⟨_,List.getElem?_eq_getElem hlt⟩
       obtain ⟨e,ty,xs,e1,e2⟩:=k2 t m hm
       obtain ⟨c0,hc0⟩:=r1.some_rec e2
       rw[hC,List.getElem?_map,hm]at hc
       injection hc with hc
       have hc2:(μ1[m]?).getD noRec=c:=hc
       rw[hc0]at hc2
       have hc3:c0=c:=hc2
       subst hc3
       exact ⟨m,e,ty,xs,hm,hc0,e1,e2⟩
      have hnew: ∀(t:Nat) c,C[t]? =some c→ ∀k,c.ok k→w.heap.size≤k∧k<w1.heap.size:=fun t c hc k hk=>by
       obtain ⟨m,e,ty,xs,_,hmc,_,e2⟩:=hCg t c hc
       exact ⟨(r1.wr m _ c e2 hmc rfl k hk).resolve_left (fun hf=>hf),r1.lt m c hmc k hk⟩
      have hnb: ∀k,cb.ok k→w.heap.size≤k∧k<w1.heap.size:=fun k hk=>⟨(r1.wr i _ cb hob hcb rfl k hk).resolve_left (fun hf=>hf),r1.lt i cb hcb k hk⟩
      have h1:=h.world r1.kp (fun _ _ _ _ _ hf=>hf) (fun _ hf=>hf.elim)
      have h3:=h1.pushL (O:=fObs q.fs y') (C:=C) (by rw[k1,hCl]) (fun t o c ho hc=>by
        obtain ⟨m,e,ty,xs,_,hmc,e1,e2⟩:=hCg t c hc
        rw[ho]at e1
        injection e1 with e1
        exact ⟨e,ty,xs,e1,r1.ob m _ c e2 hmc⟩) (fun t s c d hts hc hd2 k hk=>by
        obtain ⟨m,e,ty,xs,hm,hmc,_,e2⟩:=hCg t c hc
        obtain ⟨m',e',ty',xs',hm',hmd,_,_⟩:=hCg s d hd2
        have hne:m≠m':=by
         intro he
         subst he
         exact hts ((List.getElem?_inj (List.getElem?_eq_some_iff.1 hm).1 (ZiE hd)).1 (hm.trans hm'.symm))
        exact r1.dj m m' _ c d hne e2 rfl hmc hmd k hk) (fun t c hc j r hj k hk hk2=>by
        have:=hnew t c hc k hk
        have:=h.lt j r hj k hk2
        omega) (fun t c hc k hk=>by
        have:=hnew t c hc k hk
        exact ⟨.inr (by omega),.inr (by omega),this.2⟩)
      have h4:=h3.push (o:= .box q.e (fAts st.objs.length q.fs y')) (r:=cb) ⟨okb,us,hheap,Zta hf1 _ us hA (fun t m r hm hmr=>by
        have hlt:=(List.getElem?_eq_some_iff.1 hm).1
        obtain ⟨c,hc⟩: ∃c,C[t]? =some c:=⟨_,List.getElem?_eq_getElem (by rw[hCl];exact hlt)⟩
        obtain ⟨m',_,_,_,hm',hmc,_,_⟩:=hCg t c hc
        rw[hm]at hm'
        injection hm' with hm'
        subst hm'
        rw[hmr]at hmc
        injection hmc with hmc
        subst hmc
        refine ⟨⟨r.v,0,r.ok⟩,?_,rfl⟩
        rw[List.append_assoc,←h.len,List.getElem?_append_right (by omega),show μ.length+t-μ.length=t by omega,List.getElem?_append_left (by simp[hCl];exact hlt),List.getElem?_map,hc]
        rfl),hone⟩ (fun _ j r hj k hk hk2=>by
        have h5:=hnb k hk
        rw[List.getElem?_append]at hj
        split at hj
        ·have := h.lt j r hj k hk2; omega
        ·rw [List.getElem?_map] at hj
         obtain ⟨c,hc,rfl⟩:=Option.map_eq_some_iff.1 hj
         obtain ⟨m,e,ty,xs,_,hmc,_,e2⟩:=hCg _ c hc
         have hne:m≠i:=by intro he;subst he;rw[hob]at e2;injection e2 with e2;cases e2
         exact r1.dj m i _ c cb hne e2 rfl hmc hcb k hk2 hk) (fun j o r ho hw hj k hk hk2=>by
        have h5:=hnb k hk2
        rw[List.getElem?_append]at hj
        split at hj
        ·have := h.lt j r hj k hk; omega
        ·rw [List.getElem?_map] at hj
         obtain ⟨c,hc,rfl⟩:=Option.map_eq_some_iff.1 hj
         obtain ⟨m,e,ty,xs,_,hmc,_,e2⟩:=hCg _ c hc
         have hne:m≠i:=by intro he;subst he;rw[hob]at e2;injection e2 with e2;cases e2
         exact r1.dj m i _ c cb hne e2 rfl hmc hcb k hk hk2) (fun _ k hk=> .inr (by have:=hnb k hk;omega)) (fun _ _ _ he=>by cases he) (fun k hk=>(hnb k hk).2)
      obtain ⟨⟨r,hr,hv⟩,_⟩:=r1.tv rt _ ht
      rw[hcb]at hr
      injection hr with hr
      subst hr
      refine ⟨_,_,hv,fun dst=>h4.put dst (x:= .sv (.at (.ptr (st.objs.length+(fObs q.fs y').length) 0))) ⟨⟨cb,?_,rfl⟩,.inr rfl⟩⟩
      have hlen:(μ++C.map fun c=>(⟨c.v,0,c.ok⟩:ORec)).length=st.objs.length+(fObs q.fs y').length:=by simp[h.len,hCl,k1]
      rw[←hlen]
      exact ZfY _ _
     ·cases ho
    ·cases ho
   ·cases ho
  ·cases ho
 ·cases ho
theorem ZVw{D:PDef}{X:Ctx (FD D.q.fs)}{f:FuncId}{fn:Func}{body:Code}{k:Nat}(hX:X.res=D.q.out D.rt)(hXno:X.no=0)(hXn:X.n=fn.ntmps)(hf:P.funcs[f]? =some fn)(hb:fn.body=some body)(hrs:fn.results.toList=[.tmp D.rt])
  (hn : (fn.name == "runtime.NumGoroutine") = false) (hT : TTok P X.T) (hG : EnvOK P k X.G) (hL : LOK P X k body) (hs : ∀ x, D.f (k + 1) x = fnKP D X body k x) : ClSound P (k + 1) f D.E := by
 refine ⟨Z4a hf hn (by rw[hb];rfl),fun {γ K r w w0 S0 st μ a} dst xs vs h hl hTr hk=> ?_⟩
 simp only[PDef.E]at hk
 split at hk
 ·rename_i x hx
  split at hk
  ·rename_i z hz
   obtain ⟨μ',h'⟩:=ZS7 (n:=X.n) (ZEv h hl hTr hx) (fun k ⟨i,q,_,hq,hk⟩=>h.lt i q hq k hk) (h.glob (fun _ hf=>hf.elim))
   have hz:=(hs x).symm.trans hz
   rw[hXn]at h'
   have hz2:exec X k body (initKS D.ps fn.ntmps x) (endK X some) (fun _ _=>none) some=some z:=by rw[←hXn];exact hz
   refine calls_of_wp hf hb (Code.wp_mono (fun e a' w' hq=> ?_) (Z9C (S0:={ok:=fun _=>False,ov:=[]}) hT hG (by rw[hXno];rfl) hL h' hz2))
   have fin: ∀(st1:St) (μ1:List ORec) (b:FD D.q.fs),Rel w {ok:=fun _=>False,ov:=[]} st1 μ1 a' w'→X.res st1=some b→some b=some z→ ∃v,(results fn a'.tmps).run P w'= .ok v w'∧ ∃st' μ',Rel w0 S0 st' μ' (a.put dst v) w'∧K st'=some r:=by
    intro st1 μ1 b r1 hb2 hmk
    injection hmk with hmk
    subst hmk
    rw[hX]at hb2
    obtain ⟨v,μ2,hv,r2⟩:=BSig.give_sound h r1 hb2
    refine ⟨v,Ze0 (us:=[v]) ?_,_,μ2,r2 dst,hk⟩
    rw[hrs,←hv]
    rfl
   cases e with
   |normal=>
    obtain ⟨st1,μ1,r1,hr1⟩:=hq
    unfold endK at hr1
    split at hr1
    ·rename_i b hb2
     obtain ⟨v,g1,g2⟩:=fin st1 μ1 b r1 hb2 hr1
     exact ⟨r1.df,v,g1,g2⟩
    ·cases hr1
   |ret=>
    obtain ⟨st1,μ1,b,r1,hb2,hr1⟩:=hq
    obtain ⟨v,g1,g2⟩:=fin st1 μ1 b r1 hb2 hr1
    exact ⟨r1.df,v,g1,g2⟩
   |exit id=>obtain ⟨st1,μ1,r1,hr1⟩:=hq;cases hr1
   |goto l=>exact False.elim hq
   |panic ch=>exact False.elim hq
   |outgrown=>exact False.elim hq
  ·cases hk
 ·cases hk
theorem PDef.zero{D:PDef}{f:FuncId}(he: ∀vs w,(callFunc f vs).run P w= .ok (.enter f vs) w)(h0: ∀x,D.f 0 x=none):ClSound P 0 f D.E:=
 ⟨he, fun dst xs vs h hl hT hk => by
  simp only[PDef.E]at hk
  split at hk
  ·split at hk
   ·rename_i z hz
    exact nomatch (h0 _).symm.trans hz
   ·cases hk
  ·cases hk⟩
theorem ZX7{D:PDef}{X:Ctx (FD D.q.fs)}{f:FuncId}{fn:Func}{body:Code}(hX:X.res=D.q.out D.rt)(hXno:X.no=0)(hXn:X.n=fn.ntmps)(hf:P.funcs[f]? =some fn)(hb:fn.body=some body)(hrs:fn.results.toList=[.tmp D.rt])
  (hn:(fn.name== "runtime.NumGoroutine")=false) (hT:TTok P X.T) (hG: ∀k,EnvOK P k X.G) (hL: ∀k,LOK P X k body) (h0: ∀x,D.f 0 x=none) (hs: ∀k x,D.f (k+1) x=fnKP D X body k x): ∀k,ClSound P k f D.E
 |0=>PDef.zero (Z4a hf hn (by rw[hb];rfl)) h0
 |k+1=>ZVw hX hXno hXn hf hb hrs hn hT (hG k) (hL k) (hs k)
end
end
end Go.Proofs.YtmhfhiofcoggbaaGreat.Vs
