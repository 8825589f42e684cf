/- The proof, part 2. -/
import Derived.Test.YtmhfhiofcoggbaaGreatqT2m0
import Derived.Great.BuildSlice
import Derived.Laws.BytesString
import Derived.Laws.Strings
set_option linter.unusedVariables false
set_option linter.unusedSimpArgs false
namespace Go.Proofs.YtmhfhiofcoggbaaGreat.Vs
open Go.RowKit
section
section
variable {P:Program} {w w1 w0:World} {S0:Own} {st:St} {μ:List ORec} {a:Act} {t:TypeId} {i:TI}
variable {o:Oper} {next:Act→World→Prop} {Q:Exit→Act→World→Prop} {v:Value} {β:Type} {K:St→Option β} {r:β}
theorem Zio(k:IntKind)(n:Int):wrapK k n=k.wrap n:=by
 cases k<;>try rfl
 show wrap64 n=_
 rw[IntKind.wrap_i64]
 simp only[wrap64]
def Fits(x:At)(v:Value):Prop:=(∀(μ:List ORec) (w:World),AR μ w x v)∧v.cells= #[v]
theorem Z8z(k:IntKind)(n:Int):Fits (.int k n) (.int k n):=⟨fun _ _=>rfl,rfl⟩
theorem Z6R(b:Bool):Fits (.bool b) (.bool b):=⟨fun _ _=>rfl,rfl⟩
theorem ZVj(s:ByteArray):Fits (.str s) (.string s):=⟨fun _ _=>rfl,rfl⟩
theorem ZUD{op:BinOp}{k:IntKind}{x y:Int}{K:At→Option β}(h:opInt op k x y K=some r)(P:Program)(t:TypeId): ∃z v,(∀w,(binOp op t (.int k x) (.int k y)).run P w= .ok v w)∧Fits z v∧K z=some r:=by
 cases op<;>simp only[opInt]at h<;>try (cases h;done)
 case add=>exact ⟨_,_,by intro w;simp[binOp,Op.intArith];rfl,by rw[←Zio];exact Z8z _ _,h⟩
 case sub=>exact ⟨_,_,by intro w;simp[binOp,Op.intArith];rfl,by rw[←Zio];exact Z8z _ _,h⟩
 case mul=>exact ⟨_,_,by intro w;simp[binOp,Op.intArith];rfl,by rw[←Zio];exact Z8z _ _,h⟩
 case quo=>
  split at h
  ·cases h
  ·rename_i hy
   exact ⟨_,_,by intro w;simp[binOp,Op.intDiv,hy];rfl,by rw[←Zio];exact Z8z _ _,h⟩
 case rem=>
  split at h
  ·cases h
  ·rename_i hy
   exact ⟨_,_,by intro w;simp[binOp,Op.intDiv,hy]<;>rfl,Z8z _ _,h⟩
 case and=>exact ⟨_,_,by intro w;rw[binOp_and];rfl,Z8z _ _,h⟩
 case or=>exact ⟨_,_,by intro w;rw[binOp_or];rfl,Z8z _ _,h⟩
 case xor=>exact ⟨_,_,by intro w;rw[binOp_xor];rfl,Z8z _ _,h⟩
 case andNot=>exact ⟨_,_,by intro w;rw[binOp_andNot];rfl,Z8z _ _,h⟩
 case eql=>exact ⟨_,.bool (decide (x=y)),by intro w;rw[binOp_eql];(by_cases e:x=y<;>simp[e]),Z6R _,h⟩
 case neq=>exact ⟨_,.bool (decide (x≠y)),by intro w;rw[binOp_neq];(by_cases e:x=y<;>simp[e]),Z6R _,h⟩
 case lss=>exact ⟨_,_,by intro w;rw[binOp_lss];rfl,Z6R _,h⟩
 case leq=>exact ⟨_,_,by intro w;rw[binOp_leq];rfl,Z6R _,h⟩
 case gtr=>exact ⟨_,_,by intro w;rw[binOp_gtr];rfl,Z6R _,h⟩
 case geq=>exact ⟨_,_,by intro w;rw[binOp_geq];rfl,Z6R _,h⟩
theorem ZT8{op:BinOp}{k k':IntKind}{x y:Int}{K:At→Option β}(h:opShift op k x y K=some r)(P:Program)(t:TypeId): ∃z v,(∀w,(binOp op t (.int k x) (.int k' y)).run P w= .ok v w)∧Fits z v∧K z=some r:=by
 cases op<;>simp only[opShift]at h<;>try (cases h;done)
 case shl=>
  split at h
  ·cases h
  ·rename_i hy
   cases k with
   |i64=>exact ⟨_,_,by intro w;rw[binOp_shl];simp[Op.shift,hy];rfl,by rw[←Zio];show Fits (.int .i64 (shlS x y)) (.int .i64 (wrap64 (x*2^(min y.toNat 64))));rw[←ZTP];exact Z8z _ _,h⟩
   |_=>exact ⟨_,_,by intro w;rw[binOp_shl];simp[Op.shift,hy];rfl,by rw[←Zio];exact Z8z _ _,h⟩
 case shr=>
  split at h
  ·cases h
  ·rename_i hy
   exact ⟨_,_,by intro w;rw[binOp_shr];simp[Op.shift,hy]<;>rfl,Z8z _ _,h⟩
theorem ZBQ: ∀{l l':List At} {vs vs':List Value} {b:Bool},AL μ w l vs→AL μ w l' vs'→eqAtoms l l'=some b→
  ∃xs ys:List Int,vs=xs.map (Value.int .i64)∧vs'=ys.map (Value.int .i64)∧xs.length=l.length∧ys.length=l.length∧b=decide (xs=ys)
 | [], l', vs, vs', b, h, h', he => by
  cases l' with
  |nil=>
   simp only[eqAtoms]at he
   injection he with he
   have e1:vs=[]:=List.eq_nil_of_length_eq_zero h.1
   have e2:vs'=[]:=List.eq_nil_of_length_eq_zero h'.1
   exact ⟨[],[],by simp[e1],by simp[e2],rfl,rfl,by simp[←he]⟩
  |cons c l'=>simp[eqAtoms]at he
 |c::l,l',vs,vs',b,h,h',he=>by
  unfold eqAtoms at he
  split at he
  ·exact absurd ‹c :: l = []› (by simp)
  ·rename_i n l1 m l2 h1
   cases h1
   obtain ⟨b',hb',rfl⟩:=Option.map_eq_some_iff.1 he
   match vs,vs',h,h' with
   |[],_,h,_=>exact absurd h.1 (by simp)
   |_,[],_,h'=>exact absurd h'.1 (by simp)
   |v::vs,v'::vs',h,h'=>
    have e1:v= .int .i64 n:=h.2 0 _ v rfl rfl
    have e2:v'= .int .i64 m:=h'.2 0 _ v' rfl rfl
    obtain ⟨xs,ys,g1,g2,g3,g4,g5⟩:=ZBQ (vs:=vs) (vs':=vs') ⟨by simpa using h.1,fun j x u hx hu=>h.2 (j+1) x u hx hu⟩ ⟨by simpa using h'.1,fun j x u hx hu=>h'.2 (j+1) x u hx hu⟩ hb'
    refine ⟨n::xs,m::ys,by simp[e1,g1],by simp[e2,g2],by simp[g3],by simp[g4],?_⟩
    rw[g5]
    by_cases q1:n=m<;>by_cases q2:xs=ys<;>simp[q1,q2]
  ·cases he
theorem ZRJ{op:BinOp}{x y:Operand}{yt:TypeId}{K:At→Option β}{K':St→Option β}(T:TT)(hT:TTok P T)(h:Rel w0 S0 st μ a w)(ho:o.op= .binOp op t x y yt)(hk:opBin T op t (st.ev x) (st.ev y) K=some r)(hK: ∀x,K x=some r→K' (st.put o.dst (.sv (.at x)))=some r):Went P o a w (Nx w0 S0 K' r):=by
 have fin : ∀ {z : At} {v : Value}, (∀ w', ((do eqGuard op t x y (a.eval x) (a.eval y); binOp op t (a.eval x) (a.eval y)) : Sem Value).run P w' = .ok v w') → Fits z v → K z = some r → Went P o a w (Nx w0 S0 K' r) := by
  intro z v hr hf hk
  have hrun: ∀w',(isLoad o.op=true→Same w w')→(execOp a.eval o).run P w'= .ok (.value v) w':=by
   intro w' hw
   unfold execOp
   simp only[ho]
   rw [Sem.run_bind, hr w']
   rfl
  exact Z3o h hrun (x:= .sv (.at z)) ⟨hf.1 _ _,.inr hf.2⟩ (hK _ hk)
 have hx := h.ev x
 have hy := h.ev y
 unfold opBin at hk
 split at hk
 ·rename_i k m k' n ex ey
  rw [ex] at hx; rw [ey] at hy
  have e1:a.eval x= .int k m:=hx.1
  have e2:a.eval y= .int k' n:=hy.1
  rw [e1, e2] at fin
  split at hk
  ·obtain ⟨z, v, hr, hf, hk⟩ := ZT8 hk P t (k' := k')
   exact fin (fun w'=>by rw[eqGuard_at_int];exact hr w') hf hk
  ·split at hk
   ·rename_i hkk
    subst hkk
    obtain ⟨z,v,hr,hf,hk⟩:=ZUD hk P t
    exact fin (fun w'=>by rw[eqGuard_at_int];exact hr w') hf hk
   ·cases hk
 ·rename_i m n ex ey
  rw [ex] at hx; rw [ey] at hy
  have e1:a.eval x= .bool m:=hx.1
  have e2:a.eval y= .bool n:=hy.1
  rw [e1, e2] at fin
  split at hk
  ·rename_i i hi
   split at hk
   ·rename_i hb
    have ok:=hT.1 t i hi
    have hd:=ok.desc
    have hu:P.underlying t=some .bool:=by
     have h1:=hb.1
     unfold TI.isScal at h1
     cases hid:i.d with
     |scal=>
      rw[hid]at hd
      obtain ⟨d,g1,g2⟩:=hd
      rw[hb.2]at g1
      injection g1 with g1
      rw[g2,←g1]
     |slice e=>rw[hid]at h1;cases h1
     |arr n e=>rw[hid]at h1;cases h1
     |struct fs=>rw[hid]at h1;cases h1
     |map k e ag q=>rw[hid]at h1;cases h1
     |fn=>rw[hid]at h1;cases h1
    have he: ∀w',(Op.equal t (.bool m) (.bool n)).run P w'= .ok (m==n) w':=by
     intro w'
     show (Op.equalIn (9999+1) t (.bool m) (.bool n)).run P w'=_
     rw[Op.equalIn,Sem.run_bind,run_underlying hu]
     rfl
    split at hk
    ·exact fin (z := .bool (m == n)) (v := .bool (m == n)) (fun w' => by rw [eqGuard_at_bool]; simp [binOp, he w']) (Z6R _) hk
    ·exact fin (z := .bool (!(m == n))) (v := .bool (!(m == n))) (fun w' => by rw [eqGuard_at_bool]; simp [binOp, he w']) (Z6R _) hk
    ·cases hk
   ·cases hk
  ·cases hk
 ·rename_i m n ex ey
  rw [ex] at hx; rw [ey] at hy
  have e1:a.eval x= .string m:=hx.1
  have e2:a.eval y= .string n:=hy.1
  rw [e1, e2] at fin
  split at hk
  ·split at hk
   ·rename_i hs
    refine fin (z:= .str (m++n)) (v:= .string (m++n)) ?_ (ZVj _) hk
    intro w'
    rw[eqGuard_at_string]
    have: ¬((m.size+n.size:Nat):Int)>IntKind.i64.max:=by simp[IntKind.max,IntKind.signed,IntKind.bits];omega
    simp only[binOp,Op.stringOp,Sem.run_bind,Sem.run_pure,Result.andThen_ok,if_neg this]
   ·cases hk
  ·exact fin (z := .bool (m.toList == n.toList)) (v := .bool (m.toList == n.toList)) (fun w' => by rw [eqGuard_at_string]; simp [binOp, Op.stringOp]) (Z6R _) hk
  ·exact fin (z := .bool (!(m.toList == n.toList))) (v := .bool (!(m.toList == n.toList))) (fun w' => by rw [eqGuard_at_string]; simp [binOp, Op.stringOp]) (Z6R _) hk
  ·cases hk
 ·rename_i l l' ex ey
  rw [ex] at hx; rw [ey] at hy
  split at hk
  ·rename_i i hi
   split at hk
   ·rename_i hc
    split at hk
    ·rename_i b hb
     obtain ⟨vs,e1,hA⟩:=hx
     obtain ⟨vs',e2,hA'⟩:=hy
     have ok:=hT.1 t i hi
     simp only[Bool.and_eq_true,beq_iff_eq]at hc
     obtain ⟨xs,ys,rfl,rfl,g3,g4,rfl⟩:=ZBQ hA hA' hb
     rw[e1,e2]at fin
     split at hk
     ·refine fin (z := .bool (decide (xs = ys))) (v := .bool (decide (xs = ys))) ?_ (Z6R _) hk
      intro w'
      have:=ok.eqs hc.1 xs ys (by rw[g3,hc.2]) (by rw[g4,hc.2]) x y .eql (.inl rfl) w'
      simpa using this
     ·refine fin (z := .bool (!decide (xs = ys))) (v := .bool (!decide (xs = ys))) ?_ (Z6R _) hk
      intro w'
      have:=ok.eqs hc.1 xs ys (by rw[g3,hc.2]) (by rw[g4,hc.2]) x y .neq (.inr rfl) w'
      simpa using this
     ·cases hk
    ·cases hk
   ·cases hk
  ·cases hk
 ·cases hk
theorem ZX0{op:UnOp}{x:Operand}{K:At→Option β}{K':St→Option β}(h:Rel w0 S0 st μ a w)(ho:o.op= .unOp op t x)(hk:opUn op (st.ev x) K=some r)(hK: ∀x,K x=some r→K' (st.put o.dst (.sv (.at x)))=some r):Went P o a w (Nx w0 S0 K' r):=by
 have hx:=h.ev x
 have fin: ∀{z:At} {v:Value},(∀w',(Op.unary op (a.eval x)).run P w'= .ok v w')→Fits z v→K z=some r→Went P o a w (Nx w0 S0 K' r):=by
  intro z v hr hf hk
  have hrun: ∀w',(isLoad o.op=true→Same w w')→(execOp a.eval o).run P w'= .ok (.value v) w':=by
   intro w' hw
   unfold execOp
   simp only[ho]
   rw[Sem.run_bind,hr w']
   rfl
  exact Z3o h hrun (x:= .sv (.at z)) ⟨hf.1 _ _,.inr hf.2⟩ (hK _ hk)
 unfold opUn at hk
 split at hk
 ·rename_i b ex
  rw[ex]at hx
  rw[show a.eval x= .bool b from hx.1]at fin
  exact fin (z:= .bool (!b)) (v:= .bool (!b)) (fun _=>rfl) (Z6R _) hk
 ·rename_i k n ex
  rw[ex]at hx
  rw[show a.eval x= .int k n from hx.1]at fin
  exact fin (z:= .int k (wrapK k (0-n))) (v:= .int k (wrapK k (0-n))) (fun w'=>by rw[Zio];rfl) (Z8z _ _) hk
 ·cases hk
theorem Zj4{e:TypeId}{u:Ty}{S:Nat→Prop}{xs:List u.D}(h:RowRep (Rep u) u.sz e w S xs v): ∃A c,v= .slice A xs.length c∧xs.length≤c∧xs.length≤9223372036854775807∧(0<xs.length→ ∃ad,A=some ad):=by
 obtain ⟨A,c,hv,hl,hm,ha⟩:=h.rd
 exact ⟨A,c,hv,hl,hm,fun h0=>let ⟨ad,h1,_⟩:=ha h0;⟨ad,h1⟩⟩
theorem ZoS{j:Int}{n:Nat}{K:Option β}(h:inRange j n K=some r):0≤j∧j<n∧K=some r:=by
 unfold inRange at h
 split at h
 ·rename_i h0
  split at h
  ·rename_i h1
   exact ⟨h0,h1,h⟩
  ·cases h
 ·cases h
theorem ZRg{x y:Operand}{e:TypeId}{ti:TI}{k:IntKind}{n:Int}{K:At→Option β}{K':St→Option β}(T:TT)(hT:TTok P T)(h:Rel w0 S0 st μ a w)(ho:o.op= .indexAddr t x y)(hi:T.get t=some i)(hie:i.d= .slice e)(hte:T.get e=some ti)
  (hn : st.ev y = .sv (.at (.int k n))) (hk : opIndexAddr ti st (st.ev x).atom n K = some r) (hK : ∀ x, K x = some r → K' (st.put o.dst (.sv (.at x))) = some r) : Went P o a w (Nx w0 S0 K' r) := by
 have ok := hT.1 t i hi
 have oke := hT.1 e ti hte
 have hu : P.underlying t = some (.slice e) := by have := ok.desc; rw [hie] at this; exact this
 have hy : a.eval y = .int k n := h.at hn
 have ha := h.atom x
 have run : ∀ (ad : Addr) (len c : Nat), a.eval x = .slice (some ad) len c → 0 ≤ n → n < len → ∀ w', (isLoad o.op = true → Same w w') → (execOp a.eval o).run P w' = .ok (.value (.pointer (some (ad.add (n.toNat * ti.ty.sz))))) w' := by
  intro ad len c hx h0 h1 w' hw
  unfold execOp
  simp only[ho,hx,hy,Instr.indexAt,asIntOf,Sem.run_bind,Sem.run_pure,Result.andThen_ok,run_underlying hu]
  rw [Sem.run_ite, if_pos ⟨h0, h1⟩, Sem.run_bind, Zrc oke]
  rfl
 cases hx:(st.ev x).atom with
 |sl j=>
  rw [hx] at hk ha
  simp only[opIndexAddr]at hk
  split at hk
  ·rename_i fr e' t' xs hob
   split at hk
   ·rename_i ht
    subst ht
    obtain ⟨h0,h1,hk⟩:=ZoS hk
    obtain ⟨rec,hrec,hv,_⟩:=ha
    obtain ⟨A,c,hv2,_,_,hA⟩:=Zj4 (h.ob j _ rec hob hrec)
    obtain ⟨ad,rfl⟩:=hA (by omega)
    have hr:=run ad xs.length c (by rw[hv,hv2]) h0 h1
    exact Z3o h hr (x:= .sv (.at (.ep j ti.ty n 0))) ⟨⟨rec,ad,_,c,hrec,hv2,h0,h1,by simp⟩,.inr rfl⟩ (hK _ hk)
   ·cases hk
  ·rename_i t' xs hob
   split at hk
   ·rename_i ht
    subst ht
    obtain ⟨h0,h1,hk⟩:=ZoS hk
    obtain ⟨rec,hrec,hv,_⟩:=ha
    obtain ⟨⟨A,c,hv2,hl,hm,hA⟩,_⟩:=h.ob j _ rec hob hrec
    obtain ⟨ad,rfl,hs,hel⟩:=hA (by omega)
    have hr:=run ad xs.length c (by rw[hv,hv2]) h0 h1
    have hj:n.toNat<xs.length:=by omega
    obtain ⟨cs,hcl,hcell,hrd⟩:=hel n.toNat xs[n.toNat] (List.getElem?_eq_getElem hj)
    have hg:List.getD xs n.toNat ti.ty.zero=xs[n.toNat]:=by simp[List.getD,List.getElem?_eq_getElem hj]
    rw[hg]at hk
    exact Z3o h hr (x:= .sv (.at (.es j ti.ty xs[n.toNat] 0))) ⟨⟨rec,ad.add (n.toNat*ti.ty.sz),cs,hrec,by rw[Z9U];exact hs,by rw[ZbQ,Nat.add_zero],hcl,fun m u hu=>by rw[ZbQ];exact hcell m u hu,hrd⟩,.inr rfl⟩ (hK _ hk)
   ·cases hk
  ·cases hk
 |snap j t' xs=>
  rw [hx] at hk ha
  simp only[opIndexAddr]at hk
  split at hk
  ·rename_i ht
   subst ht
   obtain ⟨h0,h1,hk⟩:=ZoS hk
   obtain ⟨rec,hrec,A,c,hv,hl,hm,hA⟩:=ha
   obtain ⟨ad,rfl,hs,hel⟩:=hA (by omega)
   have hr:=run ad xs.length c hv h0 h1
   have hj:n.toNat<xs.length:=by omega
   obtain ⟨cs,hcl,hcell,hrd⟩:=hel n.toNat xs[n.toNat] (List.getElem?_eq_getElem hj)
   have hg:List.getD xs n.toNat ti.ty.zero=xs[n.toNat]:=by simp[List.getD,List.getElem?_eq_getElem hj]
   rw [hg] at hk
   exact Z3o h hr (x:= .sv (.at (.es j ti.ty xs[n.toNat] 0))) ⟨⟨rec,ad.add (n.toNat*ti.ty.sz),cs,hrec,by rw[Z9U];exact hs,by rw[ZbQ,Nat.add_zero],hcl,fun m u hu=>by rw[ZbQ];exact hcell m u hu,hrd⟩,.inr rfl⟩ (hK _ hk)
  ·cases hk
 |inn j q=>
  rw [hx] at hk ha
  simp only[opIndexAddr]at hk
  split at hk
  ·rename_i fr e' e2 t' xs hob
   split at hk
   ·rename_i ht
    subst ht
    obtain ⟨h0,h1,hk⟩:=ZoS hk
    have hrow:=Zfe h (ex:=[]) (t:=ti.ty) (xs:=xs.getD q.toNat []) ha (by simp only[readSl,hob];simp)
    obtain ⟨rec,ad0,n0,c0,hrec,hv0,hq0,hq1,hok0,hcell0,_⟩:=ha
    have hin:RowRd (Rd ti.ty) ti.ty.sz w rec.ok (xs.getD q.toNat []) (a.eval x):=by
     have hR:RowRep (Rep (.slice e2 ti.ty)) (Ty.slice e2 ti.ty).sz e' w rec.ok xs rec.v:=h.ob j _ rec hob hrec
     have hlen:n0=xs.length:=by
      obtain ⟨inner,hqr,_⟩:=hR
      obtain ⟨A',c',hv',_⟩:=ZaL hqr
      rw[hv0]at hv'
      injection hv'
     have hjx:q.toNat<xs.length:=by omega
     obtain ⟨A,c',cs,hv',hs,hl,hcell,hrep⟩:=hR.elem hjx
     rw[hv0]at hv'
     injection hv' with hA2 _ _
     injection hA2 with hA2
     subst hA2
     obtain ⟨u,rfl,hrow2⟩:=hrep
     have hu2:=hcell 0 u rfl
     simp only[Ty.sz,Nat.mul_one,Nat.add_zero]at hu2
     rw[hcell0]at hu2
     injection hu2 with hu2
     have hg:List.getD xs q.toNat []=xs[q.toNat]:=by simp[List.getD,List.getElem?_eq_getElem hjx]
     rw[hg,hu2]
     exact hrow2.rd
    obtain ⟨A,c,hv,hl,hm,hA⟩:=hin
    obtain ⟨ad,rfl,hs,hel⟩:=hA (by omega)
    have hr:=run ad _ c hv h0 h1
    have hj:n.toNat<(xs.getD q.toNat []).length:=by omega
    obtain ⟨cs,hcl,hcell,hrd⟩:=hel n.toNat (xs.getD q.toNat [])[n.toNat] (List.getElem?_eq_getElem hj)
    have hg:List.getD (xs.getD q.toNat []) n.toNat ti.ty.zero=(xs.getD q.toNat [])[n.toNat]:=by rw[List.getD,List.getElem?_eq_getElem hj];rfl
    rw[hg]at hk
    exact Z3o h hr (x:= .sv (.at (.es j ti.ty (xs.getD q.toNat [])[n.toNat] 0))) ⟨⟨rec,ad.add (n.toNat*ti.ty.sz),cs,hrec,by rw[Z9U];exact hs,by rw[ZbQ,Nat.add_zero],hcl,fun m u hu=>by rw[ZbQ];exact hcell m u hu,hrd⟩,.inr rfl⟩ (hK _ hk)
   ·cases hk
  ·cases hk
 |_=>rw[hx]at hk;simp[opIndexAddr]at hk
theorem ZQx{x:Operand}{f:Nat}{fs:List (Nat×TypeId)}{z:At}(T:TT)(hT:TTok P T)(h:Rel w0 S0 st μ a w)(ho:o.op= .fieldAddr t x f)(hi:T.get t=some i)(hif:i.d= .struct fs)(hz:opFieldAddr fs (st.ev x).atom f=some z)(hk:K (st.put o.dst (.sv (.at z)))=some r):Went P o a w (Nx w0 S0 K r):=by
 have ok:=hT.1 t i hi
 have ha:=h.atom x
 have hd:=ok.desc
 rw [hif] at hd
 obtain ⟨d,hu,hfs⟩:=Option.bind_eq_some_iff.1 hd.1
 cases d with
 |struct flds=>
  simp only[fieldsOf]at hfs
  injection hfs with hfs
  unfold opFieldAddr at hz
  split at hz
  ·rename_i off tf hf
   have hmem:=List.mem_of_getElem? hf
   obtain ⟨xi,hxi,hsz⟩:=hd.2 _ hmem
   rw[←hfs,List.getElem?_map]at hf
   obtain ⟨fd,hfd,he⟩:=Option.map_eq_some_iff.1 hf
   injection he with he1 he2
   have run: ∀ad:Addr,a.eval x= .pointer (some ad)→ ∀w',(isLoad o.op=true→Same w w')→(execOp a.eval o).run P w'= .ok (.value (.pointer (some (ad.add off)))) w':=by
    intro ad hx w' hw
    have hfd':flds[f]? =some fd:=by rw[←Array.getElem?_toList];exact hfd
    have hs:(sizeOf fd.type).run P w'= .ok xi.size w':=by rw[he2];simp[sizeOf,typeInfo,hxi]
    unfold execOp
    simp only[ho,hx,Instr.fieldAt,Sem.run_bind,run_underlying hu,Result.andThen_ok,hfd',Instr.sureAddr,Sem.run_pure,fieldPlace,hs]
    rw[if_neg hsz]
    simp[he1]
   split at hz
   ·rename_i j g hx
    injection hz with hz
    subst hz
    rw[hx]at ha
    obtain ⟨q,hq,hp⟩:=ha
    exact Z3o h (run _ hp) (x:= .sv (.at (.ptr j (g+off)))) ⟨⟨q,hq,by rw[ZgF]⟩,.inr rfl⟩ hk
   ·rename_i j u q g hx
    injection hz with hz
    subst hz
    rw[hx]at ha
    obtain ⟨rec,ad,n,c,hrec,hv,h0,h1,hp⟩:=ha
    exact Z3o h (run _ hp) (x:= .sv (.at (.ep j u q (g+off)))) ⟨⟨rec,ad,n,c,hrec,hv,h0,h1,by rw[ZbQ,Nat.add_assoc]⟩,.inr rfl⟩ hk
   ·rename_i j u y g hx
    injection hz with hz
    subst hz
    rw[hx]at ha
    obtain ⟨rec,ad,cs,hrec,hok,hp,hl,hc,hrd⟩:=ha
    exact Z3o h (run _ hp) (x:= .sv (.at (.es j u y (g+off)))) ⟨⟨rec,ad,cs,hrec,hok,by rw[ZbQ],hl,hc,hrd⟩,.inr rfl⟩ hk
   ·cases hz
  ·cases hz
 |_=>simp[fieldsOf]at hfs
theorem ZUh{x:Operand}{j:Nat}{l:List SV}{z:SV}(h:Rel w0 S0 st μ a w)(ho:o.op= .extract x j)(hx:st.ev x= .tup l)(hz:l[j]? =some z)(hk:K (st.put o.dst (.sv z))=some r):Went P o a w (Nx w0 S0 K r):=by
 have ha:=h.ev x
 rw[hx]at ha
 obtain ⟨vs,hv,hl,hA⟩:=ha
 have hj:j<vs.length:=by rw[hl];exact (List.getElem?_eq_some_iff.1 hz).1
 have hrun: ∀w',(isLoad o.op=true→Same w w')→(execOp a.eval o).run P w'= .ok (.value vs[j]) w':=by
  intro w' hw
  unfold execOp
  simp[ho,hv,Instr.extract,List.getElem?_eq_getElem hj]
 exact Z3o h hrun (x:= .sv z) (hA j z vs[j] hz (List.getElem?_eq_getElem hj)) hk
theorem ZTk(h:Rel w0 S0 st μ a w){x:At}{n:Int}(hx:AR μ w x v)(hn:lenOf st x=some n): ∃A m c,v= .slice A m c∧n=m∧m≤9223372036854775807:=by
 cases x with
 |nils=>simp only[lenOf]at hn;injection hn with hn;exact ⟨none,0,0,hx,by omega,by omega⟩
 |sl j=>
  simp only[lenOf]at hn
  split at hn
  ·rename_i fr e t xs hob
   injection hn with hn
   obtain ⟨rec,hrec,hv,_⟩:=hx
   obtain ⟨A,c,hv2,_,hm,_⟩:=Zj4 (h.ob j _ rec hob hrec)
   exact ⟨A,_,c,by rw[hv,hv2],hn.symm,hm⟩
  ·rename_i t xs hob
   injection hn with hn
   obtain ⟨rec,hrec,hv,_⟩:=hx
   obtain ⟨⟨A,c,hv2,_,hm,_⟩,_⟩:=h.ob j _ rec hob hrec
   exact ⟨A,_,c,by rw[hv,hv2],hn.symm,hm⟩
  ·cases hn
 |snap j t xs=>
  simp only[lenOf]at hn
  injection hn with hn
  obtain ⟨rec,hrec,A,c,hv,_,hm,_⟩:=hx
  exact ⟨A,_,c,hv,hn.symm,hm⟩
 |inn j q=>
  simp only[lenOf]at hn
  split at hn
  ·rename_i fr e e2 t xs hob
   injection hn with hn
   obtain ⟨A,c,hv,_,hm,_⟩:=Zfe h (ex:=[]) (t:=t) (xs:=xs.getD q.toNat []) hx (by simp only[readSl,hob];simp)
   exact ⟨A,_,c,hv,hn.symm,hm⟩
  ·cases hn
 |_=>simp[lenOf]at hn
theorem ZWG{x:Operand}{n:Int}(T:TT)(hT:TTok P T)(h:Rel w0 S0 st μ a w)(ho:o.op= .call {callee:= .builtin .len,args:= #[x],argTypes:= #[t]})(hi:T.get t=some i)(hn:opLen i st (st.ev x).atom=some n)
  (hk : K (st.put o.dst (.sv (.at (.int .i64 n)))) = some r) : Went P o a w (Nx w0 S0 K r) := by
 have ok:=hT.1 t i hi
 have ha:=h.atom x
 have hrun: ∀w',(isLoad o.op=true→Same w w')→(execOp a.eval o).run P w'= .ok (.value (.int .i64 n)) w':=by
  intro w' hw
  have hd2:=ok.desc
  unfold execOp
  simp only[ho,resolve,invoke,builtin,Sem.run_bind,Sem.run_pure,Result.andThen_ok,List.map_toArray,List.map_cons,List.map_nil]
  unfold opLen at hn
  cases hd:i.d with
  |slice e=>
   rw[hd]at hd2 hn
   obtain ⟨A,m,c,hv,rfl,_⟩:=ZTk h ha hn
   simp[Builtin.len_,run_underlying hd2,hv,goInt]
  |scal=>
   rw[hd]at hd2 hn
   simp only at hn
   split at hn
   ·rename_i s hx
    split at hn
    ·rename_i hty
     injection hn with hn
     rw[hx]at ha
     obtain ⟨d,h1,h2⟩:=hd2
     rw[hty]at h1
     injection h1 with h1
     subst h1
     simp[Builtin.len_,run_underlying h2,show a.eval x=_ from ha,goInt,←hn]
    ·cases hn
   ·cases hn
  |arr n e=>rw[hd]at hn;cases hn
  |struct fs=>rw[hd]at hn;cases hn
  |map k e ag q=>rw[hd]at hn;cases hn
  |fn=>rw[hd]at hn;cases hn
 exact Z3o h hrun (x:= .sv (.at (.int .i64 n))) ⟨rfl,.inr rfl⟩ hk
end
end
section
section
variable {P:Program} {w w1 w0:World} {S0:Own} {st:St} {μ:List ORec} {a:Act} {t:TypeId} {i:TI}
variable {o:Oper} {next:Act→World→Prop} {Q:Exit→Act→World→Prop} {v:Value} {β:Type} {K:St→Option β} {r:β}
theorem Rel.pushRow(h:Rel w0 S0 st μ a w){Tk R:Nat→Prop}{fr:Bool}{e:TypeId}{u:Ty}{xs:List u.D}(hA: ∀(j:Nat) q,μ[j]? =some q→ ∀k,Tk k→ ¬q.ok k)(hS: ∀k,Tk k→S0 k∨w0.heap.size≤k)(hc:Chg w w1 Tk)
  (hR : ∀ k, R k → (Tk k ∨ w.heap.size ≤ k) ∧ k < w1.heap.size) (hrow : RowRep (Rep u) u.sz e w1 R xs v) (hf : fr = true → ∀ k, Tk k → S0.gv k ∨ w0.heap.size ≤ k) (dst : Option Tmp) :
  Rel w0 S0 (st.mk1 dst (.row fr e u xs) (.sl st.objs.length)) (μ++[⟨v,0,R⟩]) (a.put dst v) w1:=by
 have h1:=h.world hc (fun j q hq k hk ht=>hA j q hq k ht hk) hS
 have hs:=h.kp.size
 obtain ⟨A,c,hv,_⟩:=Zj4 hrow
 have h2:Rel w0 S0 (st.push (.row fr e u xs)) (μ++[⟨v,0,R⟩]) a w1:=by
  refine h1.push (o:= .row fr e u xs) hrow (fun _ j q hq k hk1 hk2=> ?_) (fun j oj q _ _ hq k hk1 hk2=> ?_) (fun _ k hk=> ?_) (fun e t xs he k hk=> ?_) (fun k hk=>(hR k hk).2)
  ·rcases (hR k hk1).1 with h3 | h3
   ·exact hA j q hq k h3 hk2
   ·have:=h.lt j q hq k hk2;omega
  ·rcases (hR k hk2).1 with h3 | h3
   ·exact hA j q hq k h3 hk1
   ·have:=h.lt j q hq k hk1;omega
  ·rcases (hR k hk).1 with h3 | h3
   ·exact hS k h3
   ·right;omega
  ·have hfr : fr = true := by cases he; rfl
   rcases (hR k hk).1 with h3|h3
   ·exact hf hfr k h3
   ·omega
 refine h2.put dst (x:= .sv (.at (.sl st.objs.length))) ⟨⟨⟨v,0,R⟩,?_,rfl,A,_,c,hv⟩,.inr (by rw[hv];rfl)⟩
 rw[←h.len]
 exact ZfY _ _
def opMake(e:TypeId)(ti:TI)(st:St)(dst:Option Tmp)(n:Int)(K:St→Option β):Option β:=
 if 0≤n then if n.toNat*ti.bytes≤281474976710656 then K (st.mk1 dst (.row true e ti.ty (List.replicate n.toNat ti.ty.zero)) (.sl st.objs.length)) else none else none
theorem ZVg{sz n j:Nat}{z:Array Value}(hz:z.size=sz)(hsz:0<sz)(hj:j<n):seg (madeCells z (n*sz)).toList sz j=z.toList:=by
 apply List.ext_getElem?
 intro q
 have h1:(j+1)*sz≤n*sz:=Nat.mul_le_mul_right _ hj
 rw[Nat.succ_mul]at h1
 simp only[seg,List.getElem?_take,List.getElem?_drop]
 by_cases hq:q<sz
 ·rw [if_pos hq]
  have:j*sz+q<n*sz:=by omega
  have hm:(j*sz+q)%sz=q:=by rw[Nat.mul_comm,Nat.mul_add_mod];exact Nat.mod_eq_of_lt hq
  simp[madeCells,this,hz,hm,hq]
 ·rw[if_neg hq,List.getElem?_eq_none (by simp[hz];omega)]
theorem ZVx{x y:Operand}{e:TypeId}{ti:TI}{k:IntKind}{n:Int}{K':St→Option β}(T:TT)(hT:TTok P T)(h:Rel w0 S0 st μ a w)(ho:o.op= .makeSlice t x x)(hi:T.get t=some i)(hie:i.d= .slice e)(hte:T.get e=some ti)
  (hn : st.ev x = .sv (.at (.int k n))) (hk : opMake e ti st o.dst n K' = some r) : o.wp P a w (Nxs w0 S0 w K' r) Q := by
 have ok:=hT.1 t i hi
 have oke:=hT.1 e ti hte
 have hu:P.underlying t=some (.slice e):=by have:=ok.desc;rw[hie]at this;exact this
 have hx:a.eval x= .int k n:=h.at hn
 unfold opMake at hk
 split at hk
 ·rename_i h0
  split at hk
  ·rename_i hb
   obtain ⟨xi,hxi,hz,hsz,hby⟩:=oke.get
   have hpos:=oke.pos
   have hn63:n.toNat≤maxLen:=by
    have:n.toNat≤n.toNat*ti.bytes:=Nat.le_mul_of_pos_right _ hpos
    simp only[maxLen];omega
   have hnn:((n.toNat:Nat):Int)=n:=Int.toNat_of_nonneg h0
   have hcz:n.toNat*ti.ty.sz≤16777216∨True:= .inr trivial
   obtain ⟨w',hr,hown,hg⟩:=run_make_full (P:=P) w 0 t e xi (zval ti) ti.ty.sz hu hxi hz hsz k k n.toNat (by rw[hby,Nat.mul_comm];exact hb) hn63 (Nat.zero_le _)
   rw[hnn]at hr
   have hq:=ZJm hown
   have hzs:(zval ti).cells.size=ti.ty.sz:=by rw[←Array.length_toList,oke.zcell,ZlV]
   have hlt:=q_lt hq w.heap.size rfl
   have hrow:RowRep (Rep ti.ty) ti.ty.sz e w' (fun k=>k=w.heap.size) (List.replicate n.toNat ti.ty.zero) (.slice (some ⟨w.heap.size,0,none⟩) n.toNat n.toNat):=by
    refine ⟨_,by rw[List.length_replicate];exact hq,fun k hk=>by simpa[Value.ownBlock]using hk.symm,fun _=>0,fun j y hj=> ?_⟩
    have hjl:j<n.toNat:=by have:=(List.getElem?_eq_some_iff.1 hj).1;simpa using this
    rw[List.getElem?_replicate,if_pos hjl]at hj
    injection hj with hj
    subst hj
    rw[ZVg hzs ti.ty.sz_pos hjl,oke.zcell]
    exact (Rep.zero ti.ty w').wide (fun _ hf=>hf.elim)
   have hrun:(execOp a.eval o).run P w= .ok (.value (.slice (some ⟨w.heap.size,0,none⟩) n.toNat n.toNat)) w':=by
    unfold execOp
    simp only[ho,hx]
    rw[Sem.run_bind,hr]
    rfl
   exact ZmM hrun ⟨⟨_,_,h.pushRow (fr:=true) (Tk:=fun _=>False) (fun _ _ _ _ hf=>hf.elim) (fun _ hf=>hf.elim) (.of_grown hg (fun k hk=>by cases hk)) (fun k hk=>by rw[hk];exact ⟨.inr (Nat.le_refl _),hlt⟩) hrow (fun _ _ hf=>hf.elim) o.dst,hk⟩,.of_grown hg (fun k hk=>by cases hk)⟩
  ·cases hk
 ·cases hk
theorem ZfD: ∀{u:Ty} {x:u.D} {S:Nat→Prop} {cs:List Value},u.flat=true→Rd u w S x cs→Rep u w (fun _=>False) x cs
 | .int _,_,_,_,_,h=>h
 | .bool,_,_,_,_,h=>h
 | .str,_,_,_,_,h=>h
 | .pair p q,_,_,_,hf,h=>by
  simp only[Ty.flat,Bool.and_eq_true]at hf
  obtain ⟨c0,c1,rfl,h0,h1⟩:=h
  exact ⟨c0,c1,_,_,rfl,ZfD hf.1 h0,ZfD hf.2 h1,fun _ hf=>hf.elim,fun _ hf=>hf.elim⟩
 | .slice _ _,_,_,_,hf,_=>by cases hf
open Classical in
theorem ZTf{e ty:TypeId}{ti:TI}(hu:P.underlying t=some (.slice e))(oke:TyOK P e ti){S Sy:Nat→Prop}{xs ys:List ti.ty.D}{vx:Value}(hx:RowRep (Rep ti.ty) ti.ty.sz e w S xs vx)(hSl: ∀k,S k→k<w.heap.size)
  {ad:Addr} {c:Nat} {news:List Value} {fy:Nat→Nat} (hne:0<ys.length) (hnl:news.length=ys.length*ti.ty.sz) (hnc: ∀j u,news[j]? =some u→w.cell? (ad.add j)=some u)
  (hny : ∀ m y, ys[m]? = some y → Rep ti.ty w (fun k => Sy k ∧ fy k = m) y (seg news ti.ty.sz m)) (hd : ∀ k, Sy k → ¬ S k) (hSyl : ∀ k, Sy k → k < w.heap.size) (hl : xs.length + ys.length ≤ lim ti.bytes) :
  ∃v1 w1,(Builtin.append_ #[t,t] ty #[vx,.slice (some ad) ys.length c]).run P w= .ok v1 w1∧w.grownBy w1 vx.ownBlock∧(∀k,vx.ownBlock=some k→S k)∧
   RowRep (Rep ti.ty) ti.ty.sz e w1 (fun k=>(S k∨Sy k∨w.heap.size≤k)∧k<w1.heap.size) (xs++ys) v1∧RowRep (Rep ti.ty) ti.ty.sz e w1 S xs vx:=by
 obtain ⟨inner,hq,hb,f,hr⟩:=hx
 obtain ⟨xi,hxi,hz,hsz,hby⟩:=oke.get
 have hzs:(zval ti).cells.size=ti.ty.sz:=by rw[←Array.length_toList,oke.zcell,ZlV]
 have hpos:=oke.pos
 have hbytes:(xs.length+ys.length)*ti.bytes≤140737488355328:=Nat.le_trans (Nat.mul_le_mul_right _ hl) (Nat.div_mul_le_self _ _)
 have h63:xs.length+ys.length≤maxLen:=by
  have:xs.length+ys.length≤(xs.length+ys.length)*ti.bytes:=Nat.le_mul_of_pos_right _ hpos
  simp only[maxLen];omega
 have h1n: ∀u∈news,u.oneCell'=true:=by
  intro u hu2
  obtain ⟨j,hj⟩:=List.getElem?_of_mem hu2
  have hjl:=(List.getElem?_eq_some_iff.1 hj).1
  have hp:=ti.ty.sz_pos
  have hm:j/ti.ty.sz<ys.length:=by rw[Nat.div_lt_iff_lt_mul hp];omega
  have h2:=(hny (j/ti.ty.sz) _ (List.getElem?_eq_getElem hm)).one
  refine h2 u (List.mem_of_getElem? (i:=j%ti.ty.sz) ?_)
  simp only[seg,List.getElem?_take,List.getElem?_drop]
  rw[if_pos (Nat.mod_lt _ hp),Nat.mul_comm,Nat.div_add_mod]
  exact hj
 obtain ⟨v1,w1,hrun,hq1,hg,hat,hqo⟩:=ZVh (P:=P) w t ty e xi (zval ti) ti.ty.sz ti.bytes hu hxi hz hsz hby hzs ti.ty.sz_pos vx xs.length inner hq ad ys.length c news hnl hnc h1n hne h63 hbytes
 refine ⟨v1,w1,hrun,hg,hb,?_,inner,hqo,hb,f,fun j x hj=>(hr j x hj).bound.move (fun k hk=>hk.1) (fun k hk=>hg.block k hk.2 (fun he=>hk.1.2.1 he.symm))⟩
 refine ⟨inner++news,by rw[List.length_append];exact hq1,fun k hk=>⟨?_,q_lt hq1 k hk⟩,fun k=>if Sy k then xs.length+fy k else f k,fun j x hj=> ?_⟩
 ·rcases hat with hat | ⟨b, hat, hbb⟩
  ·exact .inl (hb k (by rw [← hat]; exact hk))
  ·rw [hat] at hk; injection hk with hk; exact .inr (.inr (by omega))
 ·have hgs := hg.size
  rw[List.getElem?_append]at hj
  split at hj
  ·rename_i hjl
   have h2:=(hr j x hj).bound
   have hseg:seg (inner++news) ti.ty.sz j=seg inner ti.ty.sz j:=by
    have h3:(j+1)*ti.ty.sz≤xs.length*ti.ty.sz:=Nat.mul_le_mul_right _ hjl
    rw[Nat.succ_mul,←hq.1]at h3
    unfold seg
    rw[List.drop_append_of_le_length (by omega),List.take_append_of_le_length (by rw[List.length_drop];omega)]
   rw[hseg]
   refine h2.move (fun k hk=>⟨⟨.inl hk.1.1,by have:=hk.2;omega⟩,fun he=> ?_,?_⟩) (fun k hk=>hg.block k hk.2 (fun he=>hk.1.2.1 he.symm))
   ·rcases hat with hat | ⟨b, hat, hbb⟩
    ·exact hk.1.2.1 (by rw[←hat];exact he)
    ·rw[hat]at he;injection he with he;have:=hk.2;omega
   ·show (if Sy k then xs.length + fy k else f k) = j
    rw[if_neg (fun h4=>hd k h4 hk.1.1)];exact hk.1.2.2
  ·rename_i hjl
   have hjm:j-xs.length<ys.length:=(List.getElem?_eq_some_iff.1 hj).1
   have h2:=(hny _ x hj).bound
   have hseg:seg (inner++news) ti.ty.sz j=seg news ti.ty.sz (j-xs.length):=by
    unfold seg
    have h3:j*ti.ty.sz=inner.length+(j-xs.length)*ti.ty.sz:=by rw[hq.1,←Nat.add_mul];congr 1;omega
    rw[h3,List.drop_append,List.drop_of_length_le (by omega),List.nil_append]
    congr 2
    omega
   rw[hseg]
   refine h2.move (fun k hk=>⟨⟨.inr (.inl hk.1.1),by have:=hk.2;omega⟩,fun he=> ?_,?_⟩) (fun k hk=>hg.block k hk.2 (fun he=>hd k hk.1.1 (hb k he.symm)))
   ·rcases hat with hat | ⟨b, hat, hbb⟩
    ·exact hd k hk.1.1 (hb k (by rw[←hat];exact he))
    ·rw[hat]at he;injection he with he;have:=hk.2;omega
   ·show (if Sy k then xs.length + fy k else f k) = j
    rw[if_pos hk.1.1,hk.1.2];omega
theorem ZNE{e ty:TypeId}{ti:TI}(hu:P.underlying t=some (.slice e))(oke:TyOK P e ti){A B:Option Addr}{n c d:Nat}(hc:n≤c):
  (Builtin.append_ #[t,t] ty #[.slice A n c,.slice B 0 d]).run P w= .ok (.slice A n c) w:=by
 obtain ⟨xi,hxi,hz,hsz,hby⟩:=oke.get
 cases A<;>cases B<;>simp[Builtin.append_,run_underlying hu,sizeOf,typeInfo,hxi,Builtin.lenOf,Builtin.firstCells,loadCells,loadCellsFrom,hc,storeCells]
end
end
section
section
variable {P:Program} {w w1 w0:World} {S0:Own} {st:St} {μ:List ORec} {a:Act} {t:TypeId} {i:TI}
variable {o:Oper} {next:Act→World→Prop} {Q:Exit→Act→World→Prop} {v:Value} {β:Type} {K:St→Option β} {r:β}
def News(w:World)(ty:Ty)(Sy:Nat→Prop)(ys:List ty.D)(vy:Value):Prop:=
 (ys = [] ∧ ∃ B d, vy = .slice B 0 d) ∨
 (0 < ys.length ∧ ∃ (ad : Addr) (c : Nat) (news : List Value) (fy : Nat → Nat), vy = .slice (some ad) ys.length c ∧ news.length = ys.length * ty.sz ∧ (∀ j u, news[j]? = some u → w.cell? (ad.add j) = some u) ∧
  ∀m y,ys[m]? =some y→Rep ty w (fun k=>Sy k∧fy k=m) y (seg news ty.sz m))
theorem News.of_flat{ty:Ty}{S:Nat→Prop}{ys:List ty.D}{vy:Value}(hf:ty.flat=true)(h:RowRd (Rd ty) ty.sz w S ys vy):News w ty (fun _=>False) ys vy:=by
 obtain ⟨A,c,hv,hl,hm,hA⟩:=h
 by_cases h0 : ys = []
 ·subst h0
  exact .inl ⟨rfl,A,c,hv⟩
 ·have hp : 0 < ys.length := List.length_pos_iff.2 h0
  obtain ⟨ad,rfl,hs,hel⟩:=hA hp
  have hsz:=ty.sz_pos
  refine .inr ⟨hp,ad,c,(List.range (ys.length*ty.sz)).map (fun q=>(w.cell? (ad.add q)).getD undef),fun _=>0,hv,by simp,fun j u hj=> ?_,fun m y hy=> ?_⟩
  ·rw [List.getElem?_map] at hj
   obtain ⟨q,hq,rfl⟩:=Option.map_eq_some_iff.1 hj
   have hjl:j<ys.length*ty.sz:=by have:=(List.getElem?_eq_some_iff.1 hq).1;simpa using this
   rw[List.getElem?_range hjl]at hq
   injection hq with hq
   subst hq
   have hmj:j/ty.sz<ys.length:=by rw[Nat.div_lt_iff_lt_mul hsz];exact hjl
   obtain ⟨cs,hcl,hcell,_⟩:=hel (j/ty.sz) _ (List.getElem?_eq_getElem hmj)
   have hlt:j%ty.sz<cs.length:=by rw[hcl];exact Nat.mod_lt _ hsz
   have h3:=hcell (j%ty.sz) _ (List.getElem?_eq_getElem hlt)
   rw[Nat.mul_comm,Nat.div_add_mod]at h3
   rw[h3]
   rfl
  ·obtain ⟨cs, hcl, hcell, hrd⟩ := hel m y hy
   have hml:m<ys.length:=(List.getElem?_eq_some_iff.1 hy).1
   have h3:(m+1)*ty.sz≤ys.length*ty.sz:=Nat.mul_le_mul_right _ hml
   rw[Nat.succ_mul]at h3
   have hseg:seg ((List.range (ys.length*ty.sz)).map (fun q=>(w.cell? (ad.add q)).getD undef)) ty.sz m=cs:=by
    apply List.ext_getElem?
    intro q
    simp only[seg,List.getElem?_take,List.getElem?_drop]
    by_cases hq:q<ty.sz
    ·rw [if_pos hq, List.getElem?_map, List.getElem?_range (by omega), List.getElem?_eq_getElem (show q < cs.length by omega)]
     have:=hcell q _ (List.getElem?_eq_getElem (show q<cs.length by omega))
     simp[this]
    ·rw[if_neg hq,List.getElem?_eq_none (by omega)]
   rw[hseg]
   exact (ZfD hf hrd).wide (fun _ hf=>hf.elim)
theorem News.of_row{ty:Ty}{e:TypeId}{S:Nat→Prop}{ys:List ty.D}{vy:Value}(h:RowRep (Rep ty) ty.sz e w S ys vy):News w ty (fun k=>S k∧vy.ownBlock≠some k) ys vy:=by
 obtain ⟨inner,hq,hb,f,hr⟩:=h
 obtain ⟨A,c,hv,_⟩:=ZaL hq
 by_cases h0:ys=[]
 ·subst h0
  exact .inl ⟨rfl,A,c,hv⟩
 ·have hp : 0 < ys.length := List.length_pos_iff.2 h0
  subst hv
  obtain ⟨ad,rfl,hcell⟩:=ZrL hq hp
  exact .inr ⟨hp,ad,c,inner,f,rfl,hq.1,hcell,fun m y hy=>(hr m y hy).wide (fun k hk=>⟨⟨hk.1,hk.2.1⟩,hk.2.2⟩)⟩
theorem ZAK{e ty:TypeId}{ti:TI}(hu:P.underlying t=some (.slice e))(oke:TyOK P e ti){S Sy:Nat→Prop}{xs ys:List ti.ty.D}{vx vy:Value}(hx:RowRep (Rep ti.ty) ti.ty.sz e w S xs vx)(hSl: ∀k,S k→k<w.heap.size)
  (hy:News w ti.ty Sy ys vy) (hd: ∀k,Sy k→ ¬S k) (hSyl: ∀k,Sy k→k<w.heap.size) (hl:xs.length+ys.length≤lim ti.bytes):
  ∃v1 w1 R,(Builtin.append_ #[t,t] ty #[vx,vy]).run P w= .ok v1 w1∧Chg w w1 S∧RowRep (Rep ti.ty) ti.ty.sz e w1 R (xs++ys) v1∧(∀k,R k→(S k∨Sy k∨w.heap.size≤k)∧k<w1.heap.size)∧RowRep (Rep ti.ty) ti.ty.sz e w1 S xs vx:=by
 rcases hy with ⟨rfl,B,d,rfl⟩|⟨hne,ad,c,news,fy,rfl,hnl,hnc,hny⟩
 ·obtain ⟨A, c, rfl, hc, _⟩ := Zj4 hx
  exact ⟨_,w,S,ZNE hu oke hc,.refl w S,by rw[List.append_nil];exact hx,fun k hk=>⟨.inl hk,hSl k hk⟩,hx⟩
 ·obtain ⟨v1, w1, hrun, hg, hb, hrow, hold⟩ := ZTf hu oke hx hSl hne hnl hnc hny hd hSyl hl (ty := ty)
  exact ⟨v1,w1,_,hrun,.of_grown hg hb,hrow,fun k hk=>hk,hold⟩
theorem ZUi{x y:Operand}{e:TypeId}{ti:TI}{K':St→Option β}(T:TT)(hT:TTok P T)(h:Rel w0 S0 st μ a w)(ho:o.op= .call {callee:= .builtin .append,args:= #[x,y],argTypes:= #[t,t]})(hi:T.get t=some i)(hie:i.d= .slice e)(hte:T.get e=some ti)
  (hk : opAppend0 e ti st o.dst (st.ev x).atom (st.ev y).atom K' = some r) : o.wp P a w (Nx w0 S0 K' r) Q := by
 have ok := hT.1 t i hi
 have oke := hT.1 e ti hte
 have hu : P.underlying t = some (.slice e) := by have := ok.desc; rw [hie] at this; exact this
 have hx := h.atom x
 have hy := h.atom y
 have fin : ∀ {st2 : St} {μ2 : List ORec} {Tk R : Nat → Prop} {fr : Bool} {zs : List ti.ty.D} {v1 : Value} {w1 : World}, Rel w0 S0 st2 μ2 a w → (Builtin.append_ #[t, t] o.type #[a.eval x, a.eval y]).run P w = .ok v1 w1 →
   (∀ (j : Nat) q, μ2[j]? = some q → ∀ k, Tk k → ¬ q.ok k) → (∀ k, Tk k → S0 k ∨ w0.heap.size ≤ k) → Chg w w1 Tk → (∀ k, R k → (Tk k ∨ w.heap.size ≤ k) ∧ k < w1.heap.size) → RowRep (Rep ti.ty) ti.ty.sz e w1 R zs v1 → (fr = true → ∀ k, Tk k → S0.gv k ∨ w0.heap.size ≤ k) →
   K' (st2.mk1 o.dst (.row fr e ti.ty zs) (.sl st2.objs.length)) = some r → o.wp P a w (Nx w0 S0 K' r) Q := by
  intro st2 μ2 Tk R fr zs v1 w1 h2 hrun hA hS hc hR hrow hf hk
  have hrun2 : (execOp a.eval o).run P w = .ok (.value v1) w1 := by
   unfold execOp
   simp only[ho,resolve,invoke,builtin,Sem.run_bind,Sem.run_pure,Result.andThen_ok,List.map_toArray,List.map_cons,List.map_nil,hrun]
  exact ZmM hrun2 ⟨_,_,h2.pushRow hA hS hc hR hrow hf o.dst,hk⟩
 have news : ∀ {ys : List ti.ty.D} {st1 : St}, (if ti.ty.flat then (readSl st [] ti.ty (st.ev y).atom).map (fun ys => (ys, st)) else takeTree (.slice e ti.ty) st [(st.ev y).atom]) = some (ys, st1) →
   ∃μ1 Sy,Rel w0 S0 st1 μ1 a w∧Less μ μ1∧Taken S0 w0 w μ1 Sy∧News w ti.ty Sy ys (a.eval y):=by
  intro ys st1 he
  split at he
  ·rename_i hf
   obtain ⟨zs,hz,he⟩:=Option.map_eq_some_iff.1 he
   injection he with h1 h2
   subst h1 h2
   exact ⟨μ,_,h,.refl μ,.none _ _ _ _,.of_flat hf (Zfe h hy hz)⟩
  ·obtain ⟨μ1, S, h1, hl1, ht1, _, hrep⟩ := Z9b h (AL.one hy).al0 he
   obtain ⟨u,hu2,hrow⟩:=hrep
   injection hu2 with hu2 _
   subst hu2
   exact ⟨μ1,_,h1,hl1,⟨fun k hk=>ht1.new k hk.1,fun k hk=>ht1.lt k hk.1,fun j q hq k hk=>ht1.apart j q hq k hk.1⟩,.of_row hrow⟩
 unfold opAppend0 at hk
 split at hk
 ·rename_i ys st1 he
  obtain ⟨μ1,Sy,h1,hl1,ht1,hN⟩:=news he
  split at hk
  ·rename_i hxa
   rw [hxa] at hx
   split at hk
   ·rename_i hle
    obtain ⟨v1,w1,R,hrun,hc,hrow,hR,_⟩:=ZAK (P:=P) (ty:=o.type) hu oke (S:=fun _=>False) (xs:=[]) (vx:=a.eval x) (by rw[show a.eval x=_ from hx];exact Rep.nils _ _ _ _ _) (fun _ hf=>hf.elim) hN (fun _ _ hf=>hf) ht1.lt (by simpa using hle)
    rw [List.nil_append] at hrow
    exact fin (Tk:=Sy) h1 hrun ht1.apart (fun k hk2=>((ht1.new k hk2).imp (S0.go k) id)) (hc.wide (fun _ hf=>hf.elim)) (fun k hk2=>⟨(hR k hk2).1.elim (fun hf=>False.elim hf) (fun h3=>h3),(hR k hk2).2⟩) hrow (fun _=>ht1.new) hk
   ·cases hk
  ·rename_i j hxa
   rw [hxa] at hx
   split at hk
   ·rename_i fr e' t' xs hob
    split at hk
    ·rename_i ht
     subst ht
     split at hk
     ·rename_i hee
      subst hee
      split at hk
      ·rename_i hle
       obtain ⟨rec,hrec,hv,_⟩:=hl1.dep (.sl j) _ w rfl hx
       have hrow0:RowRep (Rep ti.ty) ti.ty.sz e' w rec.ok xs rec.v:=h1.ob j _ rec hob hrec
       obtain ⟨v1,w1,R,hrun,hc,hrow,hR,_⟩:=ZAK (P:=P) (ty:=o.type) hu oke (S:=rec.ok) (xs:=xs) (vx:=a.eval x) (by rw[hv];exact hrow0) (h1.lt j rec hrec) hN (fun k hk hk2=>ht1.apart j rec hrec k hk hk2) ht1.lt hle
       have hlen:(st1.die j).objs.length=st1.objs.length:=by simp[St.die]
       rw[←hlen]at hk
       refine fin (Tk:=fun k=>rec.ok k∨Sy k) (h1.die j) hrun (fun m q hq k hk hqk=> ?_) (fun k hk=>hk.elim (h1.wr j _ rec hob hrec rfl k) (fun h3=>((ht1.new k h3).imp (S0.go k) id))) (hc.wide (fun k hk=> .inl hk)) (fun k hk=>⟨?_,(hR k hk).2⟩) hrow (fun hfr k hk2=> ?_) hk
       ·obtain ⟨q0, g0, _, _, g3⟩ := Z5G hq
        rcases g3 with ⟨_,g3⟩|⟨hm,rfl⟩
        ·exact g3 k hqk
        ·rcases hk with hk | hk
         ·exact h1.dj j m _ rec q (Ne.symm hm) hob rfl hrec g0 k hk hqk
         ·exact ht1.apart m q g0 k hk hqk
       ·rcases (hR k hk).1 with h3 | h3 | h3
        ·exact .inl (.inl h3)
        ·exact .inl (.inr h3)
        ·exact .inr h3
       ·subst hfr
        exact hk2.elim (h1.fr j _ _ _ rec hob hrec k) (ht1.new k)
      ·cases hk
     ·cases hk
    ·cases hk
   ·cases hk
  ·cases hk
 ·cases hk
theorem ZS5{x y:Operand}{e:TypeId}{ti:TI}{K':St→Option β}{i0:Nat}{j:Int}(T:TT)(hT:TTok P T)(h:Rel w0 S0 st μ a w)(ho:o.op= .call {callee:= .builtin .append,args:= #[x,y],argTypes:= #[t,t]})(hi:T.get t=some i)(hie:i.d= .slice e)(hte:T.get e=some ti)
  (hxa : (st.ev x).atom = .inn i0 j) (hk : opAppendIn e ti st o.dst i0 j (st.ev y).atom K' = some r) : o.wp P a w (Nx w0 S0 K' r) Q := by
 have ok := hT.1 t i hi
 have oke := hT.1 e ti hte
 have hu : P.underlying t = some (.slice e) := by have := ok.desc; rw [hie] at this; exact this
 have hx := h.atom x
 have hy := h.atom y
 rw [hxa] at hx
 unfold opAppendIn at hk
 split at hk
 ·rename_i hf
  split at hk
  ·rename_i ys hys
   split at hk
   ·rename_i fr e1 e' t' zs hob
    split at hk
    ·rename_i ht
     subst ht
     split at hk
     ·rename_i hee
      subst hee
      split at hk
      ·rename_i hle
       simp only at hk
       obtain ⟨rec,ad,n,c,hrec,hrv,h0,hjn,hokad,hcell,A0,m0,c0,hxv⟩:=hx
       have hrow0:RowRep (Rep (.slice e' ti.ty)) (Ty.slice e' ti.ty).sz e1 w rec.ok zs rec.v:=h.ob i0 _ rec hob hrec
       obtain ⟨inner,hq,hb,f,hr⟩:=hrow0
       obtain ⟨A,c2,hv2,_⟩:=ZaL hq
       have hn:n=zs.length:=by
        rw[hrv]at hv2
        injection hv2
       have hj:j.toNat<zs.length:=by omega
       have hxz:zs[j.toNat]? =some (List.getD zs j.toNat []):=by simp[List.getD,List.getElem?_eq_getElem hj]
       obtain ⟨hv,hseg,hin⟩:=hr j.toNat _ hxz
       have hinner:inner[j.toNat]? =some hv:=by
        have:=ZFu (i:=0) (u:=hv) (show (seg inner (Ty.slice e' ti.ty).sz j.toNat)[0]? =some hv by rw[hseg];rfl)
        simpa[Ty.sz]using this
       obtain ⟨ad2,hA,hcells⟩:=ZrL (by rw[←hv2];exact hq) (show 0<zs.length by omega)
       have had:ad2=ad:=by
        rw[hrv,hA]at hv2
        injection hv2 with h3 _ _
        injection h3 with h3
        exact h3.symm
       subst had
       have hvv:a.eval x=hv:=by
        have h3:=hcells j.toNat hv hinner
        rw[hcell]at h3
        injection h3
       have hlt:=h.lt i0 rec hrec
       have hN:=News.of_flat hf (Zfe h hy hys)
       obtain ⟨v1,w1,R,hrun,hc,hrow,hR,hold⟩:=ZAK (P:=P) (ty:=o.type) hu oke (S:=fun k=>rec.ok k∧rec.v.ownBlock≠some k∧f k=j.toNat) (xs:=List.getD zs j.toNat []) (vx:=a.eval x) (by rw[hvv];exact hin) (fun k hk=>hlt k hk.1) hN (fun _ hf _=>hf) (fun _ hf=>hf.elim) hle
       have hrun2:(execOp a.eval o).run P w= .ok (.value v1) w1:=by
        unfold execOp
        simp only[ho,resolve,invoke,builtin,Sem.run_bind,Sem.run_pure,Result.andThen_ok,List.map_toArray,List.map_cons,List.map_nil,hrun]
       have hRk: ∀k,R k→(rec.ok k∧rec.v.ownBlock≠some k∧f k=j.toNat)∨w.heap.size≤k:=fun k hk2=>(hR k hk2).1.elim .inl (fun h3=>h3.elim (fun h4=>h4.elim) .inr)
       have hkeep: ∀k,rec.ok k→ ¬(rec.v.ownBlock≠some k∧f k=j.toNat)→w1.heap[k]? =w.heap[k]? :=fun k hk2 hn2=>hc.block k (hlt k hk2) (fun h3=>hn2 h3.2)
       have hq1:QRow w1 e1 (Ty.slice e' ti.ty).sz rec.v zs.length inner:=ZEM hq (fun k hk2=>hkeep k (hb k hk2) (fun h3=>h3.1 hk2))
       have hr1: ∀m z,zs[m]? =some z→Rep (.slice e' ti.ty) w1 (fun k=>rec.ok k∧rec.v.ownBlock≠some k∧f k=m) z (seg inner (Ty.slice e' ti.ty).sz m):=by
        intro m z hm
        by_cases hmj : m = j.toNat
        ·subst hmj
         rw[hxz]at hm
         injection hm with hm
         subst hm
         rw[hseg]
         rw[hvv]at hold
         exact ⟨hv,rfl,hold⟩
        ·exact (hr m z hm).move (fun _ hk2 => hk2) (fun k hk2 => hkeep k hk2.1 (fun h3 => hmj (hk2.2.2.symm.trans h3.2)))
       have hnew:Rep (.slice e' ti.ty) w1 R (List.getD zs j.toNat []++ys) [v1]:=⟨v1,rfl,hrow⟩
       obtain ⟨g,cap,off,cur,s1,s2,s3,s4,s5⟩:=RowRep.store3 hq1 hb hr1 hj (new:=[v1]) rfl hnew (fun k hk2=>by
        rcases hRk k hk2 with h3|h3
        ·exact .inr h3.2
        ·exact .inl (fun h4 => by have := hlt k h4; omega))
       obtain ⟨A3,m3,hv3,_⟩:=Zj4 hrow
       have hs:=h.kp.size
       have hcs:=hc.size
       have hdis: ∀(m:Nat) q,(offAt μ i0)[m]? =some q→ ∀k,q.ok k→ ¬rec.ok k∧k<w.heap.size:=by
        intro m q hq2 k hqk
        obtain ⟨q0,g0,_,_,g3⟩:=Z5G hq2
        rcases g3 with ⟨_,g3⟩|⟨hm,rfl⟩
        ·exact absurd hqk (g3 k)
        ·exact ⟨fun hk2 => h.dj i0 m _ rec q (Ne.symm hm) hob rfl hrec g0 k hk2 hqk, h.lt m q g0 k hqk⟩
       have h1:=(h.die i0).world hc (fun m q hq2 k hqk hk2=>(hdis m q hq2 k hqk).1 hk2.1) (fun k hk2=>h.wr i0 _ rec hob hrec rfl k hk2.1)
       have hir:(offAt μ i0)[i0]? =some rec.off:=by rw[ZdP,hrec];rfl
       have hlen:i0<(st.die i0).objs.length:=by simp[St.die];exact (List.getElem?_eq_some_iff.1 hob).1
       have hrowO:RowRep (Rep (.slice e' ti.ty)) (Ty.slice e' ti.ty).sz e1 w1 (fun k=>rec.ok k∨R k) zs rec.v:=by
        have h9:RowRep (Rep (.slice e' ti.ty)) (Ty.slice e' ti.ty).sz e1 w1 rec.ok zs rec.v:=⟨inner,hq1,hb,f,hr1⟩
        exact h9.imp (fun k hk2=> .inl hk2) (fun _ _=>rfl) (fun _ _ _ _ _ hT2 h3=>h3.wide hT2)
       have h2:=h1.revive (o':= .row fr e1 (.slice e' ti.ty) zs) (r':=⟨rec.v,rec.blk,fun k=>rec.ok k∨R k⟩) hir rfl rfl hlen (fun _ _ _=>hrowO)
        (fun m q hm hq2 k hk2 hqk=>by
         have hd:=hdis m q hq2 k hqk
         rcases hk2 with h3|h3
         ·exact hd.1 h3
         ·rcases hRk k h3 with h4 | h4
          ·exact hd.1 h4.1
          ·have:=hd.2;omega)
        (fun k hk2=>by
         rcases hk2 with h3|h3
         ·exact h.wr i0 _ rec hob hrec rfl k h3
         ·rcases hRk k h3 with h4 | h4
          ·exact h.wr i0 _ rec hob hrec rfl k h4.1
          ·right;omega)
        (fun e2 t2 xs2 he2 k hk2=>by
         have hfr:fr=true:=by cases he2;rfl
         subst hfr
         rcases hk2 with h3|h3
         ·exact h.fr i0 _ _ _ rec hob hrec k h3
         ·rcases hRk k h3 with h4 | h4
          ·exact h.fr i0 _ _ _ rec hob hrec k h4.1
          ·right;omega)
        (fun k hk2=>by
         rcases hk2 with h3|h3
         ·have:=hlt k h3;omega
         ·exact (hR k h3).2)
       have hset:((offAt μ i0).set i0 ⟨rec.v,rec.blk,fun k=>rec.ok k∨R k⟩)[i0]? =some ⟨rec.v,rec.blk,fun k=>rec.ok k∨R k⟩:=by
        have:i0<(offAt μ i0).length:=(List.getElem?_eq_some_iff.1 hir).1
        rw[List.getElem?_set_self this]
       have h3:=h2.put o.dst (x:= .sv (.at (.app i0 j (.slice e' ti.ty) (List.set (α:=(Ty.slice e' ti.ty).D) zs j.toNat (List.getD zs j.toNat []++ys))))) (v:=v1)
        ⟨⟨_,hset,g,off,zs.length,cap,e1,cur,s1,h0,by omega,.inl s3,s2,by simpa using s4,⟨A3,_,m3,hv3⟩,s5⟩,.inr (by rw[hv3];rfl)⟩
       exact ZmM hrun2 ⟨_,_,h3,hk⟩
      ·cases hk
     ·cases hk
    ·cases hk
   ·cases hk
  ·cases hk
 ·cases hk
theorem ZUH{x y:Operand}{e:TypeId}{ti:TI}{K':St→Option β}(T:TT)(hT:TTok P T)(h:Rel w0 S0 st μ a w)(ho:o.op= .call {callee:= .builtin .append,args:= #[x,y],argTypes:= #[t,t]})(hi:T.get t=some i)(hie:i.d= .slice e)(hte:T.get e=some ti)
  (hk : opAppend e ti st o.dst (st.ev x).atom (st.ev y).atom K' = some r) : o.wp P a w (Nx w0 S0 K' r) Q := by
 unfold opAppend at hk
 split at hk
 ·rename_i i0 j hin
  have hxa:(st.ev x).atom= .inn i0 j:=by
   unfold innOf at hin
   split at hin
   ·rename_i h1
    injection hin with h2
    injection h2 with h2 h3
    subst h2 h3
    exact h1
   ·cases hin
  exact ZS5 T hT h ho hi hie hte hxa hk
 ·exact ZUi T hT h ho hi hie hte hk
def opBuildSlice(e:TypeId)(ti:TI)(st:St)(dst:Option Tmp)(len:Nat)(ps:List (Nat×Operand))(K:St→Option β):Option β:=
 if ps.length=len∧len*ti.ty.sz≤16777216 then match fillElems ti.ty 0 st ps with
  |some (ys,st1)=>K (st1.mk1 dst (.row true e ti.ty ys) (.sl st1.objs.length))
  |none=>none
 else none
theorem ZUk(sz:Nat): ∀(vs:List Value) (off:Nat) (cs:Array Value),off+vs.length≤cs.size→
  ((vs.zipIdx.foldl (fun (cs : Array Value) (p : Value × Nat) => cs.setIfInBounds (off + p.2) p.1) cs).toList = setw cs.toList off vs) := by
 have gen: ∀(vs:List Value) (off n:Nat) (cs:Array Value),off+n+vs.length≤cs.size→
   ((vs.zipIdx n).foldl (fun (cs:Array Value) (p:Value×Nat)=>cs.setIfInBounds (off+p.2) p.1) cs).toList=setw cs.toList (off+n) vs:=by
  intro vs
  induction vs with
  |nil=>intro off n cs _;simp[setw]
  |cons v vs ih=>
   intro off n cs h
   simp only[List.length_cons]at h
   simp only[List.zipIdx_cons,List.foldl_cons]
   rw[ih off (n+1) _ (by simp;omega),Array.toList_setIfInBounds,←Zvl _ _ _ (by simp;omega),←Zvl _ _ _ (by simp;omega)]
   rfl
 intro vs off cs h
 exact gen vs off 0 cs h
end
end
section
section
variable {P:Program} {w w1 w0:World} {S0:Own} {st:St} {μ:List ORec} {a:Act} {t:TypeId} {i:TI}
variable {o:Oper} {next:Act→World→Prop} {Q:Exit→Act→World→Prop} {v:Value} {β:Type} {K:St→Option β} {r:β}
theorem ZTC{x:Operand}(h:Rel w0 S0 st μ a w)(ho:o.op= .move x∨o.op= .assign x)(hk:K (st.put o.dst (st.ev x))=some r):Went P o a w (Nx w0 S0 K r):=by
 refine Z3o h (v:=a.eval x) ?_ (h.ev x) hk
 intro w' hw
 unfold execOp
 rcases ho with ho|ho<;>simp[ho]
theorem ZW3{c x y:Operand}{b:Bool}(h:Rel w0 S0 st μ a w)(ho:o.op= .pick c x y)(hc:st.ev c= .sv (.at (.bool b)))(hk:K (st.put o.dst (if b=true then st.ev x else st.ev y))=some r):Went P o a w (Nx w0 S0 K r):=by
 have hb:a.eval c= .bool b:=h.at hc
 cases b with
 |true=>
  refine Z3o h (v:=a.eval x) ?_ (h.ev x) hk
  intro w' hw
  unfold execOp
  simp[ho,hb,asBool]
 |false=>
  refine Z3o h (v:=a.eval y) ?_ (h.ev y) hk
  intro w' hw
  unfold execOp
  simp[ho,hb,asBool]
theorem ZTY(off:Nat)(v:Value)(cs:Array Value)(h:off+v.cells.size≤cs.size):(v.cells.zipIdx.foldl (fun cs (c,j)=>cs.setIfInBounds (off+j) c) cs).toList=setw cs.toList off v.cells.toList:=by
 rw[←ZUk 0 v.cells.toList off cs (by simpa using h),←Array.foldl_toList,Array.toList_zipIdx]
theorem Zvm{T:TT}{fs:List (Nat×TypeId)}{place:Nat→Option (Nat×Nat)}(h:Rel w0 S0 st μ a w)(hp: ∀i off t ti,fs[i]? =some (off,t)→T.get t=some ti→place i=some (off,ti.ty.sz)):
  ∀{ps:List (Nat×Operand)} {acc l:List At} {cs:Array Value},AL μ w acc cs.toList→fillParts T fs st ps acc=some l→
   ∃cs',Instr.fill place cs (ps.map fun p=>(p.1,a.eval p.2))=some cs'∧AL μ w l cs'.toList
 | [], acc, l, cs, hA, hf => by
  simp only[fillParts]at hf
  injection hf with hf
  subst hf
  exact ⟨cs,rfl,hA⟩
 | (i, x) :: ps, acc, l, cs, hA, hf => by
  simp only[fillParts]at hf
  split at hf
  ·rename_i off t hfi
   split at hf
   ·rename_i ti l' hti hl'
    split at hf
    ·rename_i hle
     have hB:=(h.ev x).cells_sound hl'
     have hsz:(a.eval x).cells.size=ti.ty.sz:=by rw[←hle.1,←hB.1,Array.length_toList]
     have hcl:cs.size=acc.length:=by rw[←hA.1,Array.length_toList]
     have hA2:=AL.setw (f:=off) hA hB
     rw[←ZTY off (a.eval x) cs (by rw[hsz,hcl,←hle.1];exact hle.2)]at hA2
     obtain ⟨cs',h1,h2⟩:=Zvm h hp hA2 hf
     refine ⟨cs',?_,h2⟩
     simp only[List.map_cons,Instr.fill,hp i off t ti hfi hti]
     rw[if_neg (by simp[hsz,hcl];omega)]
     exact h1
    ·cases hf
   ·cases hf
  ·cases hf
theorem ZJ4{P:Program}: ∀{fs:List Field},(∀f∈fs,∃x,P.info? f.type=some x∧x.size≠0)→ ∃places,fs.mapM (fun f=>(P.info? f.type).map fun i=>(f.offset,i.size))=some places∧
  ∀(i:Nat) f x,fs[i]? =some f→P.info? f.type=some x→places[i]? =some (f.offset,x.size)
 | [], _ => ⟨[], rfl, fun i f x h => by simp at h⟩
 |f::fs,h=>by
  obtain ⟨x,hx,_⟩:=h f (by simp)
  obtain ⟨pl,h1,h2⟩:=ZJ4 (fs:=fs) (fun g hg=>h g (by simp[hg]))
  refine ⟨(f.offset,x.size)::pl,by simp[List.mapM_cons,hx,h1],fun i g y hg hy=> ?_⟩
  cases i with
  |zero=>
   obtain rfl:f=g:=by simpa using hg
   rw[hx]at hy
   injection hy with hy
   subst hy
   rfl
  |succ i=>exact h2 i g y (by simpa using hg) hy
theorem ZV7{ps:Array (Nat×Operand)}{fs:List (Nat×TypeId)}{l:List At}(T:TT)(hT:TTok P T)(h:Rel w0 S0 st μ a w)(ho:o.op= .build t ps)(hi:T.get t=some i)(hif:i.d= .struct fs)
  (hl : fillParts T fs st ps.toList (zatoms i.ty) = some l) (hk : K (st.put o.dst (.sv (.agg l))) = some r) : Went P o a w (Nx w0 S0 K r) := by
 have ok:=hT.1 t i hi
 have hd:=ok.desc
 rw[hif]at hd
 obtain ⟨d,hu,hfs⟩:=Option.bind_eq_some_iff.1 hd.1
 obtain ⟨xi,hxi,hz,hsz,hby⟩:=ok.get
 cases d with
 |struct flds=>
  simp only[fieldsOf]at hfs
  injection hfs with hfs
  obtain ⟨places,hp1,hp2⟩:=ZJ4 (P:=P) (fs:=flds.toList) (fun f hf=>by
   have:=hd.2 (f.offset,f.type) (by rw[←hfs];exact List.mem_map.2 ⟨f,hf,rfl⟩)
   exact this)
  have hplace: ∀(j off:Nat) u ti,fs[j]? =some (off,u)→T.get u=some ti→places.toArray[j]? =some (off,ti.ty.sz):=by
   intro j off u ti hj hti
   rw[←hfs,List.getElem?_map]at hj
   obtain ⟨fd,hfd,he⟩:=Option.map_eq_some_iff.1 hj
   injection he with he1 he2
   obtain ⟨x,hx,_,hs,_⟩:=(hT.1 u ti hti).get
   rw[List.getElem?_toArray,hp2 j fd x hfd (by rw[he2];exact hx),hs,he1]
  have hA:AL μ w (zatoms i.ty) (zval i).cells.toList:=by rw[ok.zcell];exact AL.zero i.ty
  obtain ⟨cs',h1,h2⟩:=Zvm h hplace hA hl
  have hb:P.built t (ps.map fun (i,x)=>(i,a.eval x)).toList=some cs':=by
   unfold Program.built
   simp only[hxi,hu,hz,hp1]
   rw[Array.toList_map]
   exact h1
  refine Z3o h (v:= .agg cs') (x:= .sv (.agg l)) ?_ ⟨cs'.toList,rfl,h2⟩ hk
  intro w' hw
  unfold execOp
  simp only[ho,Sem.run_bind,run_build w' t _ cs' hb,Result.andThen_ok,Sem.run_pure]
 |_=>simp[fieldsOf]at hfs
theorem ZUy{α:Type}{l new:List α}{f n:Nat}(h:f+new.length≤l.length)(hn:n≤f):(setw l f new).take n=l.take n:=by
 apply List.ext_getElem?
 intro j
 rw[List.getElem?_take,List.getElem?_take,Z8P h]
 split
 ·rw[if_pos (by omega)]
 ·rfl
theorem ZVl{α:Type}{l new:List α}{f:Nat}(h:f+new.length≤l.length):((setw l f new).drop f).take new.length=new:=by
 apply List.ext_getElem?
 intro j
 rw[List.getElem?_take,List.getElem?_drop,Z8P h]
 split
 ·rw[if_neg (by omega),if_pos (by omega)];congr 1;omega
 ·rw[List.getElem?_eq_none (by omega)]
open Classical in
theorem ZvJ{sz:Nat}{u:Ty}(hsz:u.sz=sz): ∀{ps:List (Nat×Operand)} {n:Nat} {st st':St} {μ:List ORec} {cs:Array Value} {ys:List u.D},Rel w0 S0 st μ a w→fillElems u n st ps=some (ys,st')→(n+ps.length)*sz≤cs.size→
  ∃cs' μ' S,∃f:Nat→Nat,Instr.fill (fun i=>some (i*sz,sz)) cs (ps.map fun p=>(p.1,a.eval p.2))=some cs'∧cs'.size=cs.size∧cs'.toList.take (n*sz)=cs.toList.take (n*sz)∧Rel w0 S0 st' μ' a w∧Less μ μ'∧Taken S0 w0 w μ' S∧
   (∀ k, S k → ∃ (i : Nat) (r : ORec), μ[i]? = some r ∧ r.ok k) ∧ ys.length = ps.length ∧ ∀ (m : Nat) y, ys[m]? = some y → Rep u w (fun k => S k ∧ f k = n + m) y (seg cs'.toList sz (n + m))
 | [], n, st, st', μ, cs, ys, h, hf, hs => by
  simp only[fillElems]at hf
  injection hf with hf
  injection hf with h1 h2
  subst h1 h2
  exact ⟨cs, μ, fun _ => False, fun _ => 0, rfl, rfl, rfl, h, .refl μ, .none _ _ _ _, fun _ hf => hf.elim, rfl, fun m y hm => by simp at hm⟩
 | (i, x) :: ps, n, st, st', μ, cs, ys, h, hf, hs => by
  simp only[fillElems]at hf
  split at hf
  ·rename_i hin
   subst hin
   split at hf
   ·rename_i l hl
    split at hf
    ·rename_i y st1 hy
     split at hf
     ·rename_i ys' st2 hys
      injection hf with hf
      injection hf with g1 g2
      subst g1 g2
      have hB:=(h.ev x).cells_sound hl
      obtain ⟨μ1,S1,h1,hl1,ht1,hi1,hr1⟩:=Z9b h hB.al0 hy
      have hlen:(a.eval x).cells.toList.length=sz:=by rw[←hsz];exact hr1.len
      have hfit:i*sz+(a.eval x).cells.size≤cs.size:=by
       rw [← Array.length_toList (xs := (a.eval x).cells), hlen]
       simp only[List.length_cons]at hs
       have:(i+1)*sz≤(i+(ps.length+1))*sz:=Nat.mul_le_mul_right _ (by omega)
       rw [Nat.succ_mul] at this
       omega
      generalize hcs1:(a.eval x).cells.zipIdx.foldl (fun cs (c,j)=>cs.setIfInBounds (i*sz+j) c) cs=cs1
      have hcl:cs1.toList=setw cs.toList (i*sz) (a.eval x).cells.toList:=by rw[←hcs1];exact ZTY _ _ _ hfit
      have hfit2:i*sz+(a.eval x).cells.toList.length≤cs.toList.length:=by rw[Array.length_toList,Array.length_toList];exact hfit
      have hsize:cs1.size=cs.size:=by rw[←Array.length_toList,hcl,Zsp hfit2,Array.length_toList]
      obtain ⟨cs',μ2,S2,f,e1,e2,e3,h2,hl2,ht2,hi2,hlen2,hr2⟩:=ZvJ hsz (cs:=cs1) h1 hys (by rw[hsize];simp only[List.length_cons]at hs;rw[show i+1+ps.length=i+(ps.length+1) by omega];exact hs)
      have hmul:(i+1)*sz=i*sz+sz:=Nat.succ_mul _ _
      refine ⟨cs',μ2,fun k=>S1 k∨S2 k,fun k=>if S1 k then i else f k,?_,e2.trans hsize,?_,h2,hl1.trans hl2,⟨fun k hk=>hk.elim (ht1.new k) (ht2.new k),fun k hk=>hk.elim (ht1.lt k) (ht2.lt k),fun j q hq k hk=>hk.elim ((ht1.less hl2).apart j q hq k) (ht2.apart j q hq k)⟩,?_,by simp[hlen2],?_⟩
      ·simp only [List.map_cons, Instr.fill]
       rw [← Array.length_toList (xs := (a.eval x).cells), hlen, if_neg (by rw [← Array.length_toList (xs := (a.eval x).cells), hlen] at hfit; simp; omega), hcs1]
       exact e1
      ·have h3 : cs'.toList.take (i * sz) = (cs'.toList.take ((i + 1) * sz)).take (i * sz) := by rw [List.take_take, Nat.min_eq_left (by omega)]
       rw [h3, e3, List.take_take, Nat.min_eq_left (by omega), hcl, ZUy hfit2 (Nat.le_refl _)]
      ·intro k hk
       rcases hk with hk|hk
       ·exact hi1 k hk
       ·obtain ⟨j, q, hq, hqk⟩ := hi2 k hk
        obtain ⟨q0,g0,_,_,g3⟩:=hl1.at_ j q hq
        exact ⟨j,q0,g0,g3 k hqk⟩
      ·intro m y' hm
       have hdis: ∀k,S2 k→ ¬S1 k:=by
        intro k hk hk1
        obtain ⟨j,q,hq,hqk⟩:=hi2 k hk
        exact ht1.apart j q hq k hk1 hqk
       cases m with
       |zero=>
        obtain rfl:y=y':=by simpa using hm
        have hseg:seg cs'.toList sz i=(a.eval x).cells.toList:=by
         unfold seg
         have h3:(cs'.toList.drop (i*sz)).take sz=((cs'.toList.take ((i+1)*sz)).drop (i*sz)).take sz:=by
          rw[List.drop_take,List.take_take,hmul];congr 1;omega
         rw[h3,e3,List.drop_take,List.take_take,hcl,hmul,show min sz (i*sz+sz-i*sz)=sz by omega]
         have:=ZVl hfit2
         rw[hlen]at this
         exact this
        rw[Nat.add_zero,hseg]
        exact hr1.wide (fun k hk=>⟨.inl hk,by show (if S1 k then i else f k)=i;rw[if_pos hk]⟩)
       |succ m=>
        have:=hr2 m y' (by simpa using hm)
        rw[show i+1+m=i+(m+1) by omega]at this
        exact this.wide (fun k hk=>⟨.inr hk.1,by show (if S1 k then i else f k)=_;rw[if_neg (hdis k hk.1)];exact hk.2⟩)
     ·cases hf
    ·cases hf
   ·cases hf
  ·cases hf
theorem ZOd{len:Nat}{ps:Array (Nat×Operand)}{e:TypeId}{ti:TI}{K':St→Option β}(T:TT)(hT:TTok P T)(h:Rel w0 S0 st μ a w)(ho:o.op= .buildSlice t len ps)(hi:T.get t=some i)(hie:i.d= .slice e)(hte:T.get e=some ti)
  (hk : opBuildSlice e ti st o.dst len ps.toList K' = some r) (h0 : len ≠ 0) : o.wp P a w (Nxs w0 S0 w K' r) Q := by
 have ok:=hT.1 t i hi
 have oke:=hT.1 e ti hte
 have hu:P.underlying t=some (.slice e):=by have:=ok.desc;rw[hie]at this;exact this
 obtain ⟨xi,hxi,hz,hsz,hby⟩:=oke.get
 have hpos:=ti.ty.sz_pos
 unfold opBuildSlice at hk
 split at hk
 ·rename_i hle
  obtain ⟨hpl,hsm⟩:=hle
  split at hk
  ·rename_i ys st1 hf
   generalize hz0:((Array.range (len*ti.ty.sz)).map ((zval ti).cells[· %(zval ti).cells.size]!))=z0
   have hz0s:z0.size=len*ti.ty.sz:=by rw[←hz0];simp
   obtain ⟨cs',μ1,S,f,e1,e2,_,h1,hl1,ht1,_,hyl,hr1⟩:=ZvJ (sz:=ti.ty.sz) rfl (cs:=z0) h hf (by rw[hz0s,Nat.zero_add,hpl];exact Nat.le_refl _)
   have hne: ¬len*ti.ty.sz=0:=by
    intro h3
    rcases Nat.mul_eq_zero.1 h3 with h3|h3
    ·exact h0 h3
    ·omega
   have hrun:(execOp a.eval o).run P w= .ok (.value (.slice (some ⟨w.heap.size,0,none⟩) len len)) (w.alloc (.cells cs' e)):=by
    unfold execOp
    simp only[ho,Sem.run_bind,run_buildSlice (P:=P) w t e len (ps.map fun (i,x)=>(i,a.eval x)) cs' xi (zval ti) hu hxi hz (by rw[hsz];omega) (by rw[hsz];exact hne) (by rw[hsz,hz0,Array.toList_map];exact e1),Result.andThen_ok,Sem.run_pure]
   have hlen1:len≤16777216:=Nat.le_trans (Nat.le_mul_of_pos_right _ hpos) hsm
   have hheap:(w.alloc (.cells cs' e)).heap[w.heap.size]? =some (.cells cs' e (0,0)):=ZK2 w _
   have hrow:RowRep (Rep ti.ty) ti.ty.sz e (w.alloc (.cells cs' e)) (fun k=>S k∨k=w.heap.size) ys (.slice (some ⟨w.heap.size,0,none⟩) len len):=by
    have hyl2:ys.length=len:=hyl.trans hpl
    refine ⟨cs'.toList,⟨by rw[hyl2,Array.length_toList,e2,hz0s],.inr ⟨w.heap.size,0,len,cs',by rw[hyl2,Nat.zero_mul],hheap,by omega,by simp only[maxLen];omega,by rw[e2,hz0s,Nat.zero_add],?_⟩⟩,fun k hk=> .inr (by simpa[Value.ownBlock]using hk.symm),f,fun j y hj=> ?_⟩
    ·rw [Nat.zero_mul, List.drop_zero, List.take_of_length_le (by rw [Array.length_toList, e2, hz0s, hyl2]; exact Nat.le_refl _)]
    ·have := hr1 j y hj
     rw[Nat.zero_add]at this
     refine this.move (fun k hk=>⟨.inl hk.1,?_,hk.2⟩) (fun k hk=>heap_alloc_old w _ (ht1.lt k hk.1))
     have:=ht1.lt k hk.1
     simp[Value.ownBlock]
     omega
   refine ZmM hrun ⟨⟨_,_,h1.pushRow (fr:=true) (Tk:=S) ht1.apart (fun k hk=>((ht1.new k hk).imp (S0.go k) id)) (.alloc w _ _) (fun k hk=> ?_) hrow (fun _=>ht1.new) o.dst,hk⟩,.alloc w _ _⟩
   rcases hk with hk|hk
   ·exact ⟨.inl hk, by have := ht1.lt k hk; rw [Zr6]; omega⟩
   ·subst hk
    exact ⟨.inr (Nat.le_refl _),by rw[Zr6];omega⟩
  ·cases hk
 ·cases hk
theorem ZLr{ps:Array (Nat×Operand)}{e:TypeId}{ti:TI}{K':St→Option β}(T:TT)(hT:TTok P T)(h:Rel w0 S0 st μ a w)(ho:o.op= .buildSlice t 0 ps)(hi:T.get t=some i)(hie:i.d= .slice e)(hte:T.get e=some ti)
  (hk : opBuildSlice e ti st o.dst 0 ps.toList K' = some r) : o.wp P a w (Nxs w0 S0 w K' r) Q := by
 have ok:=hT.1 t i hi
 have oke:=hT.1 e ti hte
 have hu:P.underlying t=some (.slice e):=by have:=ok.desc;rw[hie]at this;exact this
 obtain ⟨xi,hxi,hz,hsz,hby⟩:=oke.get
 unfold opBuildSlice at hk
 split at hk
 ·rename_i hle
  obtain ⟨hpl,_⟩:=hle
  have hps:ps.toList=[]:=List.eq_nil_of_length_eq_zero hpl
  have hps2:ps= #[]:=by apply Array.ext';simpa using hps
  subst hps2
  simp only[fillElems]at hk
  have hrun:(execOp a.eval o).run P w= .ok (.value (.slice (some ⟨w.heap.size,0,none⟩) 0 0)) (w.alloc (.cells #[] e)):=by
   unfold execOp
   simp[ho,Instr.buildSlice,run_underlying hu,sizeOf,typeInfo,hxi,newRow,Instr.fill]
   congr 2
   apply Array.ext'
   simp[Array.range]
  have hheap:(w.alloc (.cells #[] e)).heap[w.heap.size]? =some (.cells #[] e (0,0)):=ZK2 w _
  have hrow:RowRep (Rep ti.ty) ti.ty.sz e (w.alloc (.cells #[] e)) (fun k=>k=w.heap.size) [] (.slice (some ⟨w.heap.size,0,none⟩) 0 0):=
   ⟨[],⟨by simp,.inl ⟨rfl,_,rfl,fun ad had=>by injection had with had;subst had;exact ⟨_,hheap⟩⟩⟩,fun k hk=>by simpa[Value.ownBlock]using hk.symm,fun _=>0,fun j y hj=>by simp at hj⟩
  exact ZmM hrun ⟨⟨_,_,h.pushRow (fr:=true) (Tk:=fun _=>False) (fun _ _ _ _ hf=>hf.elim) (fun _ hf=>hf.elim) (.alloc w _ _) (fun k hk=>by rw[hk];exact ⟨.inr (Nat.le_refl _),by rw[Zr6];omega⟩) hrow (fun _ _ hf=>hf.elim) o.dst,hk⟩,.alloc w _ _⟩
 ·cases hk
theorem Zuz{lo hi:Option TV}{n:Nat}{K:Nat→Nat→Option β}(h:cutAt lo hi n K=some r): ∃x y:Nat,x≤y∧y≤n∧K x y=some r∧
  (lo = none ∧ x = 0 ∨ ∃ k, lo = some (.sv (.at (.int k x)))) ∧ (hi = none ∧ y = n ∨ ∃ k, hi = some (.sv (.at (.int k y)))) := by
 unfold cutAt at h
 simp only at h
 split at h
 ·rename_i l h2 hl hh
  split at h
  ·rename_i h0
   split at h
   ·rename_i h1
    split at h
    ·rename_i h3
     refine ⟨l.toNat,h2.toNat,by omega,by omega,h,?_,?_⟩
     ·split at hl
      ·injection hl with hl;subst hl;exact .inl ⟨rfl,rfl⟩
      ·rename_i k z;injection hl with hl;subst hl;exact .inr ⟨k,by rw[Int.toNat_of_nonneg h0]⟩
      ·cases hl
     ·split at hh
      ·injection hh with hh;subst hh;exact .inl ⟨rfl,by simp⟩
      ·rename_i k z;injection hh with hh;subst hh;exact .inr ⟨k,by rw[Int.toNat_of_nonneg (by omega)]⟩
      ·cases hh
    ·cases h
   ·cases h
  ·cases h
 ·cases h
theorem ZGD{e:TypeId}{ti:TI}{x:Operand}{lo hi:Option Operand}(hu:P.underlying t=some (.slice e))(oke:TyOK P e ti)(h:Rel w0 S0 st μ a w)(ho:o.op= .slice t x lo hi none){A:Option Addr}{n c p q:Nat}(hv:a.eval x= .slice A n c)(hnc:n≤c)
  (hpq : p ≤ q) (hqn : q ≤ n) (hl : lo.map st.ev = none ∧ p = 0 ∨ ∃ k, lo.map st.ev = some (.sv (.at (.int k p)))) (hh : hi.map st.ev = none ∧ q = n ∨ ∃ k, hi.map st.ev = some (.sv (.at (.int k q)))) :
  ∀w',(isLoad o.op=true→Same w w')→(execOp a.eval o).run P w'= .ok (.value (.slice (if c=p then A else A.map (·.add (p*ti.ty.sz))) (q-p) (c-p))) w':=by
 intro w' hw
 have he:P.elem t=e:=by simp[Program.elem,hu]
 have hu2:P.underlying t=some (.slice (P.elem t)):=by rw[he];exact hu
 have hs:(sizeOf (P.elem t)).run P w'= .ok ti.ty.sz w':=by rw[he];exact Zrc oke w'
 have hlo:lo=none∧p=0∨ ∃k x',lo=some x'∧a.eval x'= .int k p:=by
  rcases hl with ⟨hl,hp⟩|⟨k,hl⟩
  ·exact .inl ⟨by simpa using hl, hp⟩
  ·obtain ⟨x', hx, hx2⟩ := Option.map_eq_some_iff.1 hl
   exact .inr ⟨k,x',hx,h.at hx2⟩
 have hhi:hi=none∧q=n∨ ∃k x',hi=some x'∧a.eval x'= .int k q:=by
  rcases hh with ⟨hl,hp⟩|⟨k,hl⟩
  ·exact .inl ⟨by simpa using hl, hp⟩
  ·obtain ⟨x', hx, hx2⟩ := Option.map_eq_some_iff.1 hl
   exact .inr ⟨k,x',hx,h.at hx2⟩
 unfold execOp
 simp only[ho,hv,Option.map_none,Sem.run_bind]
 rcases hlo with ⟨rfl,rfl⟩|⟨k,x',rfl,hx'⟩<;>rcases hhi with ⟨rfl,rfl⟩|⟨k2,y',rfl,hy'⟩<;>simp only[Option.map_none,Option.map_some, *]
 ·rw[run_sliceAt_slice w' t _ _ _ _ hu2,run_slice_all w' t A q c hu2,hs];rfl
 ·rw[run_sliceAt_slice w' t _ _ _ _ hu2,run_slice_h w' t A n c hu2 k2 (q:Int) (by omega) (by omega),hs];rfl
 ·rw[run_sliceAt_slice w' t _ _ _ _ hu2,run_slice_l w' t A q c hu2 k (p:Int) (by omega) (by omega),hs];rfl
 ·rw[run_sliceAt_slice w' t _ _ _ _ hu2,run_slice_lh w' t A n c hu2 k k2 (p:Int) (q:Int) (by omega) (by omega) (by omega),hs];rfl
theorem RowRd.cut{u:Ty}{S:Nat→Prop}{xs:List u.D}{A:Option Addr}{n c p q:Nat}(h:RowRd (Rd u) u.sz w S xs (.slice A n c))(hpq:p≤q)(hq:q≤n):RowRd (Rd u) u.sz w S ((xs.drop p).take (q-p)) (.slice (if c=p then A else A.map (·.add (p*u.sz))) (q-p) (c-p)):=by
 obtain ⟨A',c',hv,hl,hm,hA⟩:=h
 injection hv with h1 h2 h3
 subst h1 h2 h3
 have hlen:((xs.drop p).take (q-p)).length=q-p:=by simp;omega
 refine ⟨_,c-p,by rw[hlen],by rw[hlen];omega,by rw[hlen];omega,fun h0=> ?_⟩
 rw[hlen]at h0
 obtain ⟨ad,rfl,hs,hel⟩:=hA (by omega)
 rw[if_neg (by omega)]
 refine ⟨ad.add (p*u.sz),rfl,by rw[Z9U];exact hs,fun j x hj=> ?_⟩
 have hj2:xs[p+j]? =some x:=by
  rw[List.getElem?_take,List.getElem?_drop]at hj
  split at hj
  ·exact hj
  ·cases hj
 obtain ⟨cs,hcl,hcell,hrd⟩:=hel (p+j) x hj2
 exact ⟨cs,hcl,fun m v hm=>by rw[ZbQ,show p*u.sz+(j*u.sz+m)=(p+j)*u.sz+m by rw[Nat.add_mul];omega];exact hcell m v hm,hrd⟩
theorem RowRep.drop{u:Ty}{e:TypeId}{S:Nat→Prop}{xs:List u.D}{A:Option Addr}{n c p:Nat}(h:RowRep (Rep u) u.sz e w S xs (.slice A n c))(hp:p≤n)(hnx:n=xs.length):
  RowRep (Rep u) u.sz e w S (xs.drop p) (.slice (if c=p then A else A.map (·.add (p*u.sz))) (n-p) (c-p)):=by
 obtain ⟨inner,hq,hb,f,hr⟩:=h
 subst hnx
 have hob: ∀k,(Value.slice (if c=p then A else A.map (·.add (p*u.sz))) (xs.length-p) (c-p)).ownBlock=some k↔(Value.slice A xs.length c).ownBlock=some k:=by
  intro k
  cases A with
  |none=>split<;>simp[Value.ownBlock]
  |some ad=>split<;>simp[Value.ownBlock,Z9U]
 refine ⟨inner.drop (p*u.sz),by rw[List.length_drop];exact ZWz hq hp,fun k hk=>hb k ((hob k).1 hk),fun k=>f k-p,fun j x hj=> ?_⟩
 rw[List.getElem?_drop]at hj
 have h2:=hr (p+j) x hj
 have hseg:seg (inner.drop (p*u.sz)) u.sz j=seg inner u.sz (p+j):=by
  unfold seg
  rw[List.drop_drop,Nat.add_mul]
 rw[hseg]
 exact h2.wide (fun k hk=>⟨hk.1,fun he=>hk.2.1 ((hob k).1 he),by show f k-p=j;rw[hk.2.2];omega⟩)
theorem RowRep.take{u:Ty}{e:TypeId}{S:Nat→Prop}{xs:List u.D}{A:Option Addr}{n c m:Nat}(h:RowRep (Rep u) u.sz e w S xs (.slice A n c))(hm:m≤n)(hnx:n=xs.length):
  RowRep (Rep u) u.sz e w S (xs.take m) (.slice A m c):=by
 obtain ⟨inner,hq,hb,f,hr⟩:=h
 subst hnx
 have hob:(Value.slice A m c).ownBlock=(Value.slice A xs.length c).ownBlock:=by cases A<;>rfl
 refine ⟨inner.take (m*u.sz),by rw[List.length_take,Nat.min_eq_left hm];exact ZWM hq hm,fun k hk=>hb k (by rw[←hob];exact hk),f,fun j x hj=> ?_⟩
 rw[List.getElem?_take]at hj
 split at hj
 ·rename_i hjm
  have h2:=hr j x hj
  have hseg:seg (inner.take (m*u.sz)) u.sz j=seg inner u.sz j:=by
   unfold seg
   have hle:(j+1)*u.sz≤m*u.sz:=Nat.mul_le_mul_right _ hjm
   rw[Nat.add_mul,Nat.one_mul]at hle
   rw[List.drop_take,List.take_take,Nat.min_eq_left (by omega)]
  rw[hseg,hob]
  exact h2
 ·cases hj
theorem ZVk{mv:Bool}{x:Operand}{lo hi:Option Operand}{e:TypeId}{ti:TI}{K':St→Option β}(T:TT)(hT:TTok P T)(h:Rel w0 S0 st μ a w)(ho:o.op= .slice t x lo hi none)(hi':T.get t=some i)(hie:i.d= .slice e)(hte:T.get e=some ti)
  (hk : opSlice mv e ti st o.dst (st.ev x).atom (lo.map st.ev) (hi.map st.ev) K' = some r) : Went P o a w (Nx w0 S0 K' r) := by
 have ok := hT.1 t i hi'
 have oke := hT.1 e ti hte
 have hu : P.underlying t = some (.slice e) := by have := ok.desc; rw [hie] at this; exact this
 have hx := h.atom x
 unfold opSlice at hk
 split at hk
 ·rename_i hxa
  rw [hxa] at hx
  obtain ⟨p,q,h1,h2,hk,hl,hh⟩:=Zuz hk
  have hr := ZGD hu oke h ho (show a.eval x = .slice none 0 0 from hx) (Nat.le_refl _) h1 h2 hl hh
  obtain rfl:q=0:=by omega
  obtain rfl:p=0:=by omega
  exact Z3o h hr (x:= .sv (.at .nils)) ⟨rfl,.inr rfl⟩ hk
 ·rename_i j hxa
  rw [hxa] at hx
  split at hk
  ·rename_i fr e' u xs hob
   split at hk
   ·rename_i hu2
    subst hu2
    obtain ⟨p,q,h1,h2,hk3,hl,hh⟩:=Zuz hk
    clear hk
    have hk:=hk3
    clear hk3
    obtain ⟨rec,hrec,hv,_⟩:=hx
    have hrow:RowRep (Rep ti.ty) ti.ty.sz e' w rec.ok xs rec.v:=h.ob j _ rec hob hrec
    obtain ⟨A,c,hrv,hc,_⟩:=Zj4 hrow
    have hr:=ZGD hu oke h ho (hv.trans hrv) hc h1 h2 hl hh
    cases mv with
    |false=>
     simp only[Bool.false_eq_true,if_false]at hk
     have hrd:=hrow.rd
     rw[hrv]at hrd
     exact Z3o h hr (x:= .sv (.at (.snap j ti.ty ((xs.drop p).take (q-p))))) ⟨⟨rec,hrec,hrd.cut h1 h2⟩,.inr rfl⟩ hk
    |true=>
     simp only[if_true]at hk
     split at hk
     ·rename_i hc2
      have hhn:hi.map st.ev=none:=by simpa using hc2.1
      have hee:=hc2.2
      subst hee
      have hk3:=hk
      have hq:q=xs.length:=by
       rcases hh with ⟨_,hh⟩|⟨k,hh⟩
       ·exact hh
       ·rw[hhn]at hh;cases hh
      subst hq
      rw[hrv]at hrow
      have hrow2:=hrow.drop h1 rfl
      have hlen:(st.die j).objs.length=st.objs.length:=by simp[St.die]
      rw[←hlen]at hk3
      refine ⟨_,hr,_,_,(h.die j).pushRow (fr:=fr) (Tk:=rec.ok) (R:=rec.ok) (fun m q hq k hk hqk=> ?_) (h.wr j _ rec hob hrec rfl) (.refl w _) (fun k hk=>⟨.inl hk,h.lt j rec hrec k hk⟩) hrow2 (fun hfr=>by subst hfr;exact h.fr j _ _ _ rec hob hrec) o.dst,hk3⟩
      obtain ⟨q0,g0,_,_,g3⟩:=Z5G hq
      rcases g3 with ⟨_,g3⟩|⟨hm,rfl⟩
      ·exact g3 k hqk
      ·exact h.dj j m _ rec q (Ne.symm hm) hob rfl hrec g0 k hk hqk
     ·split at hk
      ·rename_i hee
       subst hee
       have hk3:=hk
       rw[hrv]at hrow
       have hrow2:=(hrow.drop (Nat.le_trans h1 h2) rfl).take (m:=q-p) (by omega) (by rw[List.length_drop])
       have hlen:(st.die j).objs.length=st.objs.length:=by simp[St.die]
       rw[←hlen]at hk3
       refine ⟨_,hr,_,_,(h.die j).pushRow (fr:=fr) (Tk:=rec.ok) (R:=rec.ok) (fun m q hq k hk hqk=> ?_) (h.wr j _ rec hob hrec rfl) (.refl w _) (fun k hk=>⟨.inl hk,h.lt j rec hrec k hk⟩) hrow2 (fun hfr=>by subst hfr;exact h.fr j _ _ _ rec hob hrec) o.dst,hk3⟩
       obtain ⟨q0,g0,_,_,g3⟩:=Z5G hq
       rcases g3 with ⟨_,g3⟩|⟨hm,rfl⟩
       ·exact g3 k hqk
       ·exact h.dj j m _ rec q (Ne.symm hm) hob rfl hrec g0 k hk hqk
      ·cases hk
   ·cases hk
  ·cases hk
 ·rename_i j u xs hxa
  rw [hxa] at hx
  split at hk
  ·rename_i hu2
   subst hu2
   obtain ⟨p,q,h1,h2,hk,hl,hh⟩:=Zuz hk
   obtain ⟨rec,hrec,hrd⟩:=hx
   obtain ⟨A,c,hv,hc,_⟩:=id hrd
   rw[hv]at hrd
   exact Z3o h (ZGD hu oke h ho hv hc h1 h2 hl hh) (x:= .sv (.at (.snap j ti.ty ((xs.drop p).take (q-p))))) ⟨⟨rec,hrec,hrd.cut h1 h2⟩,.inr rfl⟩ hk
  ·cases hk
 ·rename_i j m hxa
  split at hk
  ·rename_i fr e1 e2 u xs hob
   split at hk
   ·rename_i hu2
    subst hu2
    obtain ⟨p,q,h1,h2,hk,hl,hh⟩:=Zuz hk
    rw[hxa]at hx
    obtain ⟨rec,ad,n,c0,hrec,hrv,h0,hmn,hok,hcell,hsl⟩:=hx
    have hrow:RowRep (Rep (.slice e2 ti.ty)) (Ty.slice e2 ti.ty).sz e1 w rec.ok xs rec.v:=h.ob j _ rec hob hrec
    have hn:n=xs.length:=by
     obtain ⟨A',c',hv',_⟩:=Zj4 hrow
     rw[hrv]at hv'
     injection hv'
    have hj:m.toNat<xs.length:=by omega
    obtain ⟨A,c',cs,hv',hs,hl2,hcell2,hrep⟩:=hrow.elem hj
    rw[hrv]at hv'
    injection hv' with ha _ _
    injection ha with ha
    subst ha
    obtain ⟨u,rfl,hrow2⟩:=hrep
    have hu3:=hcell2 0 u rfl
    simp only[Ty.sz,Nat.mul_one,Nat.add_zero]at hu3
    rw[hcell]at hu3
    injection hu3 with hu3
    subst hu3
    have hg:List.getD xs m.toNat []=xs[m.toNat]:=by simp[List.getD,List.getElem?_eq_getElem hj]
    rw[←hg]at hrow2
    have hrd:=hrow2.rd
    obtain ⟨A2,c2,hv2,hc2,_⟩:=id hrd
    rw[hv2]at hrd
    exact Z3o h (ZGD hu oke h ho hv2 hc2 h1 h2 hl hh) (x:= .sv (.at (.snap j ti.ty (((xs.getD m.toNat []).drop p).take (q-p))))) ⟨⟨rec,hrec,hrd.cut h1 h2⟩,.inr rfl⟩ hk
   ·cases hk
  ·cases hk
 ·cases hk
end
end
section
section
variable {P:Program} {w w1 w0:World} {S0:Own} {st:St} {μ:List ORec} {a:Act} {t:TypeId} {i:TI}
variable {o:Oper} {next:Act→World→Prop} {Q:Exit→Act→World→Prop} {v:Value} {β:Type} {K:St→Option β} {r:β}
def opConv(T:TT)(src dst:TypeId)(x:At)(K:At→Option β):Option β:=
 match T.get src,T.get dst with
 |some i,some j=>match i.d,j.d,j.ty,x with
  | .scal,.scal,.int k,.int _ n=>K (.int k (wrapK k n))
  |_,_,_,_=>none
 |_,_=>none
theorem ZUm{src dst:TypeId}{x:Operand}{T:TT}{K:At→Option β}{K':St→Option β}(hT:TTok P T)(h:Rel w0 S0 st μ a w)(ho:o.op= .convert src dst x)
  (hk : opConv T src dst (st.ev x).atom K = some r) (hK : ∀ x, K x = some r → K' (st.put o.dst (.sv (.at x))) = some r) : Went P o a w (Nx w0 S0 K' r) := by
 have hx:=h.atom x
 unfold opConv at hk
 split at hk
 ·rename_i i j hi hj
  have ti:=hT.1 _ _ hi
  have tj:=hT.1 _ _ hj
  split at hk
  ·rename_i k k' n hid hjd hty hxa
   rw[hxa]at hx
   have h1:=ti.desc
   rw[hid]at h1
   obtain ⟨d1,_,hu1⟩:=h1
   have h2:=tj.desc
   rw[hjd]at h2
   obtain ⟨d2,hs2,hu2⟩:=h2
   rw[hty]at hs2
   obtain rfl:d2= .int k:=by simp only[scalDesc]at hs2;injection hs2 with hs2;exact hs2.symm
   refine Z3o h (v:= .int k (wrapK k n)) (fun w' hw=> ?_) (x:= .sv (.at (.int k (wrapK k n)))) ⟨rfl,.inr rfl⟩ (hK _ hk)
   rw[Zio]
   unfold execOp
   simp only[ho,show a.eval x=_ from hx]
   cases d1<;>simp[convert,run_underlying hu1,run_underlying hu2,Conv.intToInt,Result.andThen]
  ·cases hk
 ·cases hk
def opNil(x:At)(K:At→Option β):Option β:=
 match x with
 | .ptr i f=>K (.ptr i f)
 | .ep i t j f=>K (.ep i t j f)
 | .es i t y f=>K (.es i t y f)
 | .ip i q t n f=>K (.ip i q t n f)
 |_=>none
theorem ZWA{x:Operand}{K:At→Option β}{K':St→Option β}(h:Rel w0 S0 st μ a w)(ho:o.op= .nilCheck x)
  (hk:opNil (st.ev x).atom K=some r) (hK: ∀x,K x=some r→K' (st.put o.dst (.sv (.at x)))=some r):Went P o a w (Nx w0 S0 K' r):=by
 have hx:=h.atom x
 have fin: ∀(y:At) (ad:Addr),AR μ w y (a.eval x)→a.eval x= .pointer (some ad)→K y=some r→Went P o a w (Nx w0 S0 K' r):=by
  intro y ad hy hv hk
  refine Z3o h (v:= .pointer (some ad)) (fun w' _=> ?_) (x:= .sv (.at y)) ⟨by rw[←hv];exact hy,.inr rfl⟩ (hK _ hk)
  unfold execOp
  simp[ho,hv]
 cases hxa:(st.ev x).atom with
 |ptr i f=>
  rw[hxa]at hx hk
  exact fin _ _ hx hx.choose_spec.2 hk
 |ep i t j f=>
  rw[hxa]at hx hk
  obtain ⟨r1,ad,n,c,h1,h2,h3,h4,hv⟩:=id hx
  exact fin _ _ hx hv hk
 |es i t y f=>
  rw[hxa]at hx hk
  obtain ⟨r1,ad,cs,h1,h2,hv,_⟩:=id hx
  exact fin _ _ hx hv hk
 |ip i q t n f=>
  rw[hxa]at hx hk
  obtain ⟨r1,ad,m,c,b,m',c',h1,h2,h3,h4,h5,h6,h7,h8,hv⟩:=id hx
  exact fin _ _ hx hv hk
 |_=>rw[hxa]at hk;cases hk
end
end
section
def giveTree:(t:Ty)→t.D→St→List At×St
 | .int k,n,st=>([.int k n],st)
 | .bool,b,st=>([.bool b],st)
 | .str,s,st=>([.str s],st)
 | .pair a b,x,st=>((giveTree a x.1 st).1++(giveTree b x.2 (giveTree a x.1 st).2).1,(giveTree b x.2 (giveTree a x.1 st).2).2)
 | .slice e t,xs,st=>([.sl st.objs.length],st.push (.row true e t xs))
section
variable {P:Program} {w w1 w0:World} {S0:Own} {st:St} {μ:List ORec} {a:Act}
theorem Zot: ∀{t:Ty} {x:t.D} {st:St} {μ:List ORec} {S:Nat→Prop} {cs:List Value},Rel w0 S0 st μ a w→Rep t w S x cs→(∀k,S k→(S0.gv k∨w0.heap.size≤k)∧k<w.heap.size)→(∀(j:Nat) q,μ[j]? =some q→ ∀k,S k→ ¬q.ok k)→
  ∃μ',Rel w0 S0 (giveTree t x st).2 μ' a w∧AL μ' w (giveTree t x st).1 cs∧(∀(j:Nat) q,μ[j]? =some q→μ'[j]? =some q)∧(∀(j:Nat) q,μ'[j]? =some q→μ[j]? =some q∨ ∀k,q.ok k→S k)
 | .int k,n,st,μ,S,cs,h,hr,hS,hd=>⟨μ,h,by rw[show cs=[.int k n] from hr];exact AL.one (show AR μ w (.int k n) _ from rfl),fun _ _ hq=>hq,fun _ _ hq=> .inl hq⟩
 | .bool,b,st,μ,S,cs,h,hr,hS,hd=>⟨μ,h,by rw[show cs=[.bool b] from hr];exact AL.one (show AR μ w (.bool b) _ from rfl),fun _ _ hq=>hq,fun _ _ hq=> .inl hq⟩
 | .str,s,st,μ,S,cs,h,hr,hS,hd=>⟨μ,h,by rw[show cs=[.string s] from hr];exact AL.one (show AR μ w (.str s) _ from rfl),fun _ _ hq=>hq,fun _ _ hq=> .inl hq⟩
 | .pair ta tb,x,st,μ,S,cs,h,hr,hS,hd=>by
  obtain ⟨c0,c1,S0',S1',rfl,h0,h1,d0,d1⟩:=hr
  obtain ⟨μ1,r1,a1,m1,n1⟩:=Zot (t:=ta) h h0 (fun k hk=>hS k (d0 k hk).1) (fun j q hq k hk=>hd j q hq k (d0 k hk).1)
  obtain ⟨μ2,r2,a2,m2,n2⟩:=Zot (t:=tb) r1 h1 (fun k hk=>hS k (d1 k hk)) (fun j q hq k hk=>by
   rcases n1 j q hq with h3|h3
   ·exact hd j q h3 k (d1 k hk)
   ·exact fun hqk => (d0 k (h3 k hqk)).2 hk)
  refine ⟨μ2,r2,AL.append (a1.imp id (by simp) (fun y u _ hy=>hy.more m2)) a2,fun j q hq=>m2 j q (m1 j q hq),fun j q hq=> ?_⟩
  rcases n2 j q hq with h3|h3
  ·rcases n1 j q h3 with h4 | h4
   ·exact .inl h4
   ·exact .inr fun k hk => (d0 k (h4 k hk)).1
  ·exact .inr fun k hk => d1 k (h3 k hk)
 | .slice e t,xs,st,μ,S,cs,h,hr,hS,hd=>by
  obtain ⟨v,rfl,hrow⟩:=hr
  obtain ⟨A,c,hv,_⟩:=Zj4 hrow
  have hμ: ∀(j:Nat) q,μ[j]? =some q→(μ++[⟨v,0,S⟩])[j]? =some q:=fun j q hq=>by
   rw[List.getElem?_append_left (List.getElem?_eq_some_iff.1 hq).1];exact hq
  refine ⟨μ++[⟨v,0,S⟩],by simp only[giveTree];exact h.push (o:= .row true e t xs) (r:=⟨v,0,S⟩) hrow (fun _ j q hq k hk=>hd j q hq k hk) (fun j o q _ _ hq k hk hk2=>hd j q hq k hk2 hk) (fun _ k hk=>(hS k hk).1.imp (S0.go k) id) (fun _ _ _ _ k hk=>(hS k hk).1) (fun k hk=>(hS k hk).2),?_,hμ,fun j q hq=> ?_⟩
  ·simp only [giveTree]
   refine AL.one (show AR _ w (.sl st.objs.length) v from ⟨⟨v,0,S⟩,?_,rfl,A,_,c,hv⟩)
   rw[←h.len]
   exact ZfY _ _
  ·rcases Nat.lt_or_ge j μ.length with hlt | hge
   ·rw [List.getElem?_append_left hlt] at hq
    exact .inl hq
   ·rw [List.getElem?_append_right hge] at hq
    have h1:=(List.getElem?_eq_some_iff.1 hq).1
    simp at h1
    have:j=μ.length:=by omega
    subst this
    simp at hq
    subst hq
    exact .inr fun k hk=>hk
def oneLeaf:Ty→Nat→TypeId→Ty→Bool
 | .slice e' u',pos,e,u=>pos==0&&e'==e&&decide (u'=u)
 | .pair a b,pos,e,u=>if pos<a.sz then oneLeaf a pos e u&&b.flat else a.flat&&oneLeaf b (pos-a.sz) e u
 |_,_,_,_=>false
theorem ZJE(h:Rel w0 S0 st μ a w){i:Nat}{e:TypeId}{u:Ty}{fr:Bool}{zs:List u.D}{rec:ORec}(ho:st.objs[i]? =some (.row fr e u zs))(hrec:μ[i]? =some rec): ∀{t:Ty} {l:List At} {vs:List Value} {x:t.D} {pos:Nat},AL μ w l vs→readTree st [] t l=some x→oneLeaf t pos e u=true→l[pos]? =some (.sl i)→
  Rep t w rec.ok x vs∧vs[pos]? =some rec.v
 | .int _,l,vs,x,pos,hA,hr,h1,hl=>by cases h1
 | .bool,l,vs,x,pos,hA,hr,h1,hl=>by cases h1
 | .str,l,vs,x,pos,hA,hr,h1,hl=>by cases h1
 | .slice e' u',l,vs,x,pos,hA,hr,h1,hl=>by
  simp only[oneLeaf,Bool.and_eq_true,beq_iff_eq,decide_eq_true_eq]at h1
  obtain ⟨⟨rfl,rfl⟩,rfl⟩:=h1
  match l,hr,hl with
  | [y], hr, hl =>
   obtain rfl:y= .sl i:=by simpa using hl
   obtain ⟨v,rfl,hv⟩:=hA.single
   obtain ⟨q,hq,hqv,_⟩:=hv
   rw[hrec]at hq
   injection hq with hq
   subst hq
   simp only[readTree,readSl,ho]at hr
   simp at hr
   subst hr
   exact ⟨⟨v,rfl,by rw[hqv];exact h.ob i _ rec ho hrec⟩,by rw[hqv];rfl⟩
 | .pair ta tb,l,vs,x,pos,hA,hr,h1,hl=>by
  simp only[readTree]at hr
  split at hr
  ·rename_i xa xb ha hb
   injection hr with hr
   subst hr
   simp only[oneLeaf]at h1
   split at h1
   ·rename_i hp
    simp only[Bool.and_eq_true]at h1
    obtain ⟨hra,hva⟩:=ZJE h ho hrec (hA.take ta.sz) ha h1.1 (by rw[List.getElem?_take,if_pos hp];exact hl)
    have hrb:=ZfD (S:=okBut μ []) h1.2 (Z1w h (hA.drop ta.sz) hb)
    refine ⟨⟨_,_,rec.ok,fun _=>False,(List.take_append_drop ta.sz vs).symm,hra,hrb,fun k hk=>⟨hk,fun hf=>hf⟩,fun _ hf=>hf.elim⟩,?_⟩
    rw[List.getElem?_take,if_pos hp]at hva
    exact hva
   ·rename_i hp
    simp only[Bool.and_eq_true]at h1
    obtain ⟨hrb,hvb⟩:=ZJE h ho hrec (hA.drop ta.sz) hb h1.2 (by rw[List.getElem?_drop,show ta.sz+(pos-ta.sz)=pos by omega];exact hl)
    have hra:=ZfD (S:=okBut μ []) h1.1 (Z1w h (hA.take ta.sz) ha)
    refine ⟨⟨_,_,fun _=>False,rec.ok,(List.take_append_drop ta.sz vs).symm,hra,hrb,fun _ hf=>hf.elim,fun k hk=>hk⟩,?_⟩
    rw[List.getElem?_drop,show ta.sz+(pos-ta.sz)=pos by omega]at hvb
    exact hvb
  ·cases hr
end
end
section
def Shaped(agg:Bool)(v:Value):Prop:=if agg=true then∃cs,v= .agg cs else v.cells= #[v]
def ownI:List PK→Option (Nat×TypeId×Ty)
 |[]=>none
 |p::ps=>match p.own with|some q=>some q|none=>ownI ps
def giveI:List PK→Bool
 |[]=>false
 |p::ps=>match p.own with|some _=>p.give|none=>giveI ps
def ownV:List PK→List Value→Option Value
 |p::ps,v::vs=>match p.own with|some q=>v.cells.toList[q.1]? |none=>ownV ps vs
 |_,_=>none
def boxI:List PK→Option (TypeId×Ty)
 |[]=>none
 |p::ps=>match p.box with|some e=>some (e,p.t)|none=>boxI ps
def boxV:List PK→List Value→Option Nat
 |p::ps,v::vs=>match p.box with
  |some _=>match v with| .pointer (some a)=>some a.block|_=>none
  |none=>boxV ps vs
 |_,_=>none
def BoxT(w:World)(S:Nat→Prop):(t:Ty)→t.D→Value→List Value→Prop
 | .pair (.slice _ u) b,x,c,r=>b.flat=true∧RowRd (Rd u) u.sz w S x.1 c∧Rep b w (fun _=>False) x.2 r
 |_,_,_,_=>False
def BoxE(w:World):(t:Ty)→t.D→List Value→Prop
 | .pair (.slice _ _) b,x,r=>Rep b w (fun _=>False) x.2 r
 |_,_,_=>False
def BoxA(w:World)(Sro So:Nat→Prop)(e:TypeId)(t:Ty)(x:t.D)(v:Value):Prop:=
 ∃g c r,v= .pointer (some ⟨g,0,none⟩)∧So g∧w.heap[g]? =some (.cells (c::r).toArray e (0,0))∧BoxT w Sro t x c r
def ArgsR(w:World)(Sro So:Nat→Prop):(ps:List PK)→Tup ps→List Value→Prop
 |[],_,vs=>vs=[]
 |p::ps,x,vs=> ∃v vs',vs=v::vs'∧Shaped p.agg v∧(match p.own with|none=>(match p.box with|none=>Rd p.t w Sro x.1 v.cells.toList|some e=>BoxA w Sro So e p.t x.1 v)|some q=>oneLeaf p.t q.1 q.2.1 q.2.2=true∧Rep p.t w So x.1 v.cells.toList)∧ArgsR w Sro So ps x.2 vs'
def ResL(w:World):(rs:List PK)→(S:Nat→Prop)→Tup rs→List Value→Prop
 |[],_,_,vs=>vs=[]
 |p::rs,S,x,vs=> ∃v vs' S1 S2,vs=v::vs'∧Shaped p.agg v∧Rep p.t w S1 x.1 v.cells.toList∧(∀k,S1 k→S k∧ ¬S2 k)∧(∀k,S2 k→S k)∧ResL w rs S2 x.2 vs'
def packR:List Value→Value
 |[v]=>v
 |vs=> .tuple vs.toArray
def BoxOut(w w':World)(E:CallE)(vs:List Value)(out:OutD):Prop:= ∀e t,boxI E.ps=some (e,t)→ ∃(g:Nat) (c:Value) (r r':List Value) (y:t.D),out=some ⟨t,[y]⟩∧boxV E.ps vs=some g∧
 w.heap[g]? =some (.cells (c::r).toArray e (0,0))∧w'.heap[g]? =some (.cells (c::r').toArray e (0,0))∧BoxE w' t y r'
structure Fin (w w':World) (So:Nat→Prop) (E:CallE) (vs:List Value) (res:Tup E.rs) (out:OutD) (v:Value):Prop where
 chg:Chg w w' So
 box:BoxOut w w' E vs out
 res: ∃Sr us,(∀k,Sr k→((giveI E.ps=true∧So k)∨w.heap.size≤k)∧k<w'.heap.size)∧v=packR us∧ResL w' E.rs Sr res us∧
  ∀q,giveI E.ps=false→ownI E.ps=some q→ ∃(ys:List q.2.2.D) (hv:Value) (S':Nat→Prop),out=some ⟨q.2.2,ys⟩∧ownV E.ps vs=some hv∧RowRep (Rep q.2.2) q.2.2.sz q.2.1 w' S' ys hv∧ ∀k,S' k→(So k∨w.heap.size≤k)∧k<w'.heap.size∧ ¬Sr k
structure SoundAt (P:Program) (k:Nat) (f:FuncId) (E:CallE):Prop where
 enter: ∀vs w,(callFunc f vs).run P w= .ok (.enter f vs) w
 calls: ∀{γ:Type} {K:Tup E.rs→OutD→Option γ} {r:γ} (w:World) (Sro So:Nat→Prop) (x:Tup E.ps) (vs:List Value),ArgsR w Sro So E.ps x vs→(∀k,So k→ ¬Sro k)→(∀k,So k→k<w.heap.size)→(∀k,Sro k→k<w.heap.size)→
  (ownI E.ps = none → boxI E.ps = none → ∀ k, ¬ So k) → GlOK w So → E.fn k x K = some r → Calls P f vs.toArray w fun
   | .returned v,w'=> ∃res out,K res out=some r∧Fin w w' So E vs res out v
   |_,_=>False
def aggOK(agg:Bool):TV→Bool
 | .sv (.agg _)=>agg
 | .sv (.at _)=> !agg
 |_=>false
def readArgs (st : St) (ow : Option (Nat × TypeId × Ty)) : (ps : List PK) → List TV → Option (Tup ps)
  | [], [] => some ()
  | p :: ps, x :: xs => match x.cells with
    | some l => if (aggOK p.agg x && p.box.isNone) = true then
        match p.own with
        | none => match readTree st ((ow.map (·.1)).toList) p.t l with
          |some y=>match readArgs st ow ps xs with
            |some ys=>some (y,ys)
            |none=>none
          |none=>none
        |some q=>match ow with
          |some z=>if oneLeaf p.t q.1 q.2.1 q.2.2∧q.2.1=z.2.1∧q.2.2=z.2.2 then match l[q.1]? with
            |some (.sl j)=>if j=z.1 then match readTree st [] p.t l with
              |some y=>match readArgs st ow ps xs with
                |some ys=>some (y,ys)
                |none=>none
              |none=>none
              else none
            |_=>none
            else none
          |none=>none
      else none
    |none=>none
  |_,_=>none
def ownObj:List PK→List TV→Option Nat
 |p::ps,x::xs=>match p.own with
  |some q=>match x.cells with
   |some l=>match l[q.1]? with
    |some (.sl i)=>some i
    |_=>none
   |none=>none
  |none=>ownObj ps xs
 |_,_=>none
def giveList:(rs:List PK)→Tup rs→St→List SV×St
 |[],_,st=>([],st)
 |p::rs,x,st=>((if p.agg then .agg (giveTree p.t x.1 st).1 else .at ((giveTree p.t x.1 st).1.headD .un))::(giveList rs x.2 (giveTree p.t x.1 st).2).1,(giveList rs x.2 (giveTree p.t x.1 st).2).2)
def packTV:List SV→TV
 |[s]=> .sv s
 |l=> .tup l
def giveRes(dst:Option Tmp)(rs:List PK)(res:Tup rs)(st:St):St:=(giveList rs res st).2.put dst (packTV (giveList rs res st).1)
def ownInn:List PK→List TV→Option (Nat×Int)
 |p::ps,x::xs=>match p.own with
  |some q=>match x.cells with
   |some l=>match l[q.1]? with
    |some (.inn i j)=>some (i,j)
    |_=>none
   |none=>none
  |none=>ownInn ps xs
 |_,_=>none
def readArgsI (st : St) (i : Nat) (j : Int) (e : TypeId) (u : Ty) : (ps : List PK) → List TV → Option (Tup ps)
  | [], [] => some ()
  | p :: ps, x :: xs => match x.cells with
    | some l => if (aggOK p.agg x && p.box.isNone) = true then
        match p.own with
        | none => match readTree st [i] p.t l with
          |some y=>match readArgsI st i j e u ps xs with
            |some ys=>some (y,ys)
            |none=>none
          |none=>none
        |some q=>if oneLeaf p.t q.1 q.2.1 q.2.2∧q.2.1=e∧q.2.2=u then match l[q.1]? with
            |some (.inn i' j')=>if i'=i∧j'=j then match readTree st [] p.t l with
              |some y=>match readArgsI st i j e u ps xs with
                |some ys=>some (y,ys)
                |none=>none
              |none=>none
              else none
            |_=>none
            else none
      else none
    |none=>none
  |_,_=>none
section
variable {γ:Type}
def opCallIn(k:Nat)(E:CallE)(e:TypeId)(u:Ty)(st:St)(dst:Option Tmp)(xs:List TV)(K:St→Option γ):Option γ:=
 match ownInn E.ps xs with
 |some (i,j)=>match st.objs[i]? with
  |some (.row fr e' (.slice e2 u2) zs)=>if e2=e∧u2=u∧giveI E.ps=false then match readArgsI st i j e u E.ps xs with
    |some x=>E.fn k x fun res out=>match out with
     |some ⟨u3,ys⟩=>if h3:u3=u2 then K (giveRes dst E.rs res (backSt st i (.row fr e' (.slice e2 u2) (List.set (α:=(Ty.slice e2 u2).D) zs j.toNat (h3▸ys))))) else none
     |none=>none
    |none=>none
   else none
  |_=>none
 |none=>none
def opCall (k : Nat) (E : CallE) (st : St) (dst : Option Tmp) (xs : List TV) (K : St → Option γ) : Option γ :=
  match ownI E.ps with
  | none => match readArgs st none E.ps xs with
    |some x=>E.fn k x fun res _=>K (giveRes dst E.rs res st)
    | none => none
  | some (_, e, u) => match ownObj E.ps xs with
    |some i=>match st.objs[i]? with
      |some (.row fr e' u' _)=>if e'=e∧u'=u then match readArgs st (some (i,e,u)) E.ps xs with
          |some x=>E.fn k x fun res out=>if giveI E.ps=true then (if fr=true then K (giveRes dst E.rs res (st.die i)) else none) else match out with
            |some ⟨u2,ys⟩=>if u2=u then K (giveRes dst E.rs res (backSt st i (.row fr e u2 ys))) else none
            |none=>none
          |none=>none
        else none
      |_=>none
    |none=>opCallIn k E e u st dst xs K
end
section
variable {P:Program} {w w1 w0:World} {S0:Own} {st:St} {μ:List ORec} {a:Act}
theorem ZgR{agg:Bool}{x:TV}{v:Value}{l:List At}(h:TR μ w x v)(hc:x.cells=some l)(ha:aggOK agg x=true):Shaped agg v:=by
 unfold Shaped
 cases x with
 |tup l=>cases hc
 |sv s=>
  cases s with
  |agg l'=>
   obtain ⟨vs,hv,_⟩:=h
   rw[if_pos (by simpa[aggOK]using ha)]
   exact ⟨_,hv⟩
  |«at» y=>
   rw[if_neg (by simpa[aggOK]using ha)]
   rcases h.2 with rfl|h2
   ·simp[TV.cells,SV.cells,At.isUn]at hc
   ·exact h2
theorem Zfn(h:Rel w0 S0 st μ a w){ow:Option (Nat×TypeId×Ty)}{So:Nat→Prop}(how: ∀z,ow=some z→ ∃fr zs rec,st.objs[z.1]? =some (.row fr z.2.1 z.2.2 zs)∧μ[z.1]? =some rec∧So=rec.ok):
  ∀{ps:List PK} {xs:List Operand} {x:Tup ps},readArgs st ow ps (xs.map st.ev)=some x→ArgsR w (okBut μ ((ow.map (·.1)).toList)) So ps x (xs.map a.eval)
 | [], [], x, hr => rfl
 | [], y :: ys, x, hr => by simp [readArgs] at hr
 | p :: ps, [], x, hr => by simp [readArgs] at hr
 | p :: ps, y :: ys, x, hr => by
  simp only[List.map_cons,readArgs]at hr
  split at hr
  ·rename_i l hl
   split at hr
   ·rename_i ha
    simp only[Bool.and_eq_true,Option.isNone_iff_eq_none]at ha
    have hA := (h.ev y).cells_sound hl
    have hsh := ZgR (h.ev y) hl ha.1
    split at hr
    ·rename_i hown
     split at hr
     ·rename_i y1 hy1
      split at hr
      ·rename_i ys1 hys1
       injection hr with hr
       subst hr
       refine ⟨a.eval y,ys.map a.eval,rfl,hsh,?_,Zfn h how hys1⟩
       rw [hown, ha.2]
       exact Z1w h hA hy1
      ·cases hr
     ·cases hr
    ·rename_i q hown
     split at hr
     ·rename_i z
      split at hr
      ·rename_i hq
       obtain ⟨hq1,hq2,hq3⟩:=hq
       split at hr
       ·rename_i j hj
        split at hr
        ·rename_i hjz
         subst hjz
         split at hr
         ·rename_i y1 hy1
          split at hr
          ·rename_i ys1 hys1
           injection hr with hr
           subst hr
           refine ⟨a.eval y,ys.map a.eval,rfl,hsh,?_,Zfn h how hys1⟩
           rw[hown]
           obtain ⟨fr,zs,rec,h1,h2,h3⟩:=how z rfl
           rw[h3]
           exact ⟨hq1,(ZJE h h1 h2 hA hy1 (by rw[←hq2,←hq3];exact hq1) hj).1⟩
          ·cases hr
         ·cases hr
        ·cases hr
       ·cases hr
      ·cases hr
     ·cases hr
   ·cases hr
  ·cases hr
theorem ZE5(h:Rel w0 S0 st μ a w){i:Nat}{rec:ORec}(hrec:μ[i]? =some rec): ∀{ps:List PK} {xs:List Operand},ownObj ps (xs.map st.ev)=some i→ownV ps (xs.map a.eval)=some rec.v
 | [], xs, hr => by cases xs <;> simp [ownObj] at hr
 |p::ps,[],hr=>by simp[ownObj]at hr
 |p::ps,y::ys,hr=>by
  simp only[List.map_cons,ownObj]at hr
  simp only[List.map_cons,ownV]
  split at hr
  ·rename_i q hown
   split at hr
   ·rename_i l hl
    split at hr
    ·rename_i j hj
     injection hr with hr
     subst hr
     have hA:=(h.ev y).cells_sound hl
     have hlt:q.1<(a.eval y).cells.toList.length:=by rw[hA.1];exact (List.getElem?_eq_some_iff.1 hj).1
     have:=hA.2 q.1 _ _ hj (List.getElem?_eq_getElem hlt)
     obtain ⟨r,hr,hv,_⟩:=this
     rw[hrec]at hr
     injection hr with hr
     subst hr
     rw[List.getElem?_eq_getElem hlt,hv]
    ·cases hr
   ·cases hr
  ·exact ZE5 h hrec hr
theorem Zy5: ∀{rs:List PK} {x:Tup rs} {st:St} {μ:List ORec} {S:Nat→Prop} {us:List Value},Rel w0 S0 st μ a w→ResL w rs S x us→(∀k,S k→(S0.gv k∨w0.heap.size≤k)∧k<w.heap.size)→(∀(j:Nat) q,μ[j]? =some q→ ∀k,S k→ ¬q.ok k)→
  ∃μ',Rel w0 S0 (giveList rs x st).2 μ' a w∧us.length=(giveList rs x st).1.length∧(∀(j:Nat) s u,(giveList rs x st).1[j]? =some s→us[j]? =some u→SR μ' w s u)∧(∀(j:Nat) q,μ[j]? =some q→μ'[j]? =some q)
 | [], x, st, μ, S, us, h, hr, hS, hd => ⟨μ, h, by rw [show us = [] from hr]; rfl, fun j s u hs => by simp [giveList] at hs, fun _ _ hq => hq⟩
 |p::rs,x,st,μ,S,us,h,hr,hS,hd=>by
  obtain ⟨v,vs',S1,S2,rfl,hsh,hrep,d1,d2,hrest⟩:=hr
  obtain ⟨μ1,r1,a1,m1,n1⟩:=Zot h hrep (fun k hk=>hS k (d1 k hk).1) (fun j q hq k hk=>hd j q hq k (d1 k hk).1)
  obtain ⟨μ2,r2,l2,s2,m2⟩:=Zy5 (rs:=rs) (x:=x.2) r1 hrest (fun k hk=>hS k (d2 k hk)) (fun j q hq k hk=>by
   rcases n1 j q hq with h3|h3
   ·exact hd j q h3 k (d2 k hk)
   ·exact fun hqk => (d1 k (h3 k hqk)).2 hk)
  refine ⟨μ2,r2,by simp only[giveList,List.length_cons];rw[l2],fun j s u hs hu=> ?_,fun j q hq=>m2 j q (m1 j q hq)⟩
  simp only[giveList]at hs
  cases j with
  |zero=>
   obtain rfl:v=u:=by simpa using hu
   simp only[List.getElem?_cons_zero]at hs
   injection hs with hs
   subst hs
   have a1':AL μ2 w (giveTree p.t x.1 st).1 v.cells.toList:=a1.imp id (by simp) (fun y u _ hy=>hy.more m2)
   unfold Shaped at hsh
   split
   ·rename_i hag
    rw[if_pos hag]at hsh
    obtain ⟨cs,rfl⟩:=hsh
    exact ⟨cs.toList,by simp,a1'⟩
   ·rename_i hag
    rw[if_neg hag]at hsh
    rw[hsh]at a1'
    have hl:=a1'.1
    match hg:(giveTree p.t x.1 st).1,hl with
    |[y],_=>
     rw[hg]at a1'
     exact ⟨a1'.2 0 y v rfl rfl,.inr hsh⟩
  |succ j=>
   simp only[List.getElem?_cons_succ]at hs hu
   exact s2 j s u hs hu
theorem ZaQ{rs:List PK}{x:Tup rs}{S:Nat→Prop}{us:List Value}(h:Rel w0 S0 st μ a w)(hr:ResL w rs S x us)(hS: ∀k,S k→(S0.gv k∨w0.heap.size≤k)∧k<w.heap.size)(hd: ∀(j:Nat) q,μ[j]? =some q→ ∀k,S k→ ¬q.ok k)(dst:Option Tmp):
  ∃μ',Rel w0 S0 (giveRes dst rs x st) μ' (a.put dst (packR us)) w:=by
 obtain ⟨μ',r1,l1,s1,_⟩:=Zy5 h hr hS hd
 refine ⟨μ',r1.put dst ?_⟩
 generalize (giveList rs x st).1=l at*
 match l,us,l1 with
 |[],[],_=>exact ⟨[],rfl,rfl,fun j x u hx=>by simp at hx⟩
 |[s],[u],_=>exact s1 0 s u rfl rfl
 |s::s'::l,u::u'::us,l1=>exact ⟨u::u'::us,rfl,l1,s1⟩
open Classical in
theorem RowRep.lend{e e':TypeId}{u:Ty}{S:Nat→Prop}{zs:List (Ty.slice e u).D}{vr:Value}(h:RowRep (Rep (.slice e u)) (Ty.slice e u).sz e' w S zs vr){j:Nat}(hj:j<zs.length):
  ∃ (hv : Value) (So : Nat → Prop), (∀ k, So k → S k) ∧ RowRep (Rep u) u.sz e w So (List.getD zs j []) hv ∧
   (∃ a c, vr = .slice (some a) zs.length c ∧ w.cell? (a.add j) = some hv) ∧
   ∀(w':World) (S':Nat→Prop) (ys:List u.D),Chg w w' So→(∀k,S k→k<w.heap.size)→RowRep (Rep u) u.sz e w' S' ys hv→(∀k,S' k→So k∨w.heap.size≤k)→
    RowRep (Rep (.slice e u)) (Ty.slice e u).sz e' w' (fun k=>S k∨S' k) (List.set zs j ys) vr:=by
 obtain ⟨inner,hq,hb,f,hr⟩:=h
 have hx:zs[j]? =some (List.getD zs j []):=by simp[List.getD,List.getElem?_eq_getElem hj]
 obtain ⟨hv,hseg,hrow⟩:=hr j _ hx
 have hi:inner[j]? =some hv:=by
  have:=ZFu (i:=0) (u:=hv) (show (seg inner (Ty.slice e u).sz j)[0]? =some hv by rw[hseg];rfl)
  simpa[Ty.sz]using this
 obtain ⟨A,c,hvr,_⟩:=ZaL hq
 obtain ⟨ad,hA,hcell⟩:=ZrL (by rw[←hvr];exact hq) (show 0<zs.length by omega)
 refine ⟨hv,fun k=>S k∧vr.ownBlock≠some k∧f k=j,fun k hk=>hk.1,hrow,⟨ad,c,by rw[hvr,hA],hcell j hv hi⟩,?_⟩
 intro w' S' ys hc hlt hrow' hS'
 have hown: ∀k,vr.ownBlock=some k→k<w.heap.size∧w'.heap[k]? =w.heap[k]? :=fun k hk=>⟨hlt k (hb k hk),hc.block k (hlt k (hb k hk)) (fun h2=>h2.2.1 hk)⟩
 refine ⟨inner,?_,fun k hk=> .inl (hb k hk),fun k=>if S' k then j else f k,fun m x hm=> ?_⟩
 ·have := ZEM hq (fun k hk => (hown k hk).2)
  rw[List.length_set]
  exact this
 ·rw [List.getElem?_set] at hm
  by_cases hmj : j = m
  ·subst hmj
   rw[if_pos rfl,if_pos hj]at hm
   injection hm with hm
   subst hm
   rw[hseg]
   refine ⟨hv,rfl,hrow'.imp (fun k hk=>⟨.inr hk,fun he=> ?_,if_pos hk⟩) (fun _ _=>rfl) (fun T T' x cs _ hT h3=>h3.wide hT)⟩
   rcases hS' k hk with h4|h4
   ·exact h4.2.1 he
   ·have := (hown k he).1; omega
  ·rw [if_neg hmj] at hm
   refine (hr m x hm).move (fun k hk=>⟨.inl hk.1,hk.2.1,?_⟩) (fun k hk=>hc.block k (hlt k hk.1) (fun h2=>hmj (h2.2.2.symm.trans hk.2.2)))
   have hn: ¬S' k:=fun hs=> ?_
   ·exact (if_neg hn).trans hk.2.2
   ·rcases hS' k hs with h4 | h4
    ·exact hmj (h4.2.2.symm.trans hk.2.2)
    ·have:=hlt k hk.1;omega
theorem ZwW(h:Rel w0 S0 st μ a w){i:Nat}{j:Int}{e e':TypeId}{u:Ty}{fr:Bool}{zs:List (Ty.slice e u).D}(ho:st.objs[i]? =some (.row fr e' (.slice e u) zs)){So:Nat→Prop}{hv:Value}(hval: ∀v,AR μ w (.inn i j) v→v=hv)(hSo:RowRep (Rep u) u.sz e w So (List.getD zs j.toNat []) hv):
  ∀{t:Ty} {l:List At} {vs:List Value} {x:t.D} {pos:Nat},AL μ w l vs→readTree st [] t l=some x→oneLeaf t pos e u=true→l[pos]? =some (.inn i j)→Rep t w So x vs∧vs[pos]? =some hv
 | .int _,l,vs,x,pos,hA,hr,h1,hl=>by cases h1
 | .bool,l,vs,x,pos,hA,hr,h1,hl=>by cases h1
 | .str,l,vs,x,pos,hA,hr,h1,hl=>by cases h1
 | .slice e' u',l,vs,x,pos,hA,hr,h1,hl=>by
  simp only[oneLeaf,Bool.and_eq_true,beq_iff_eq,decide_eq_true_eq]at h1
  obtain ⟨⟨rfl,rfl⟩,rfl⟩:=h1
  match l,hr,hl with
  | [y], hr, hl =>
   obtain rfl:y= .inn i j:=by simpa using hl
   obtain ⟨v,rfl,hv'⟩:=hA.single
   obtain rfl:=hval v hv'
   simp only[readTree,readSl,ho]at hr
   simp at hr
   subst hr
   refine ⟨⟨v,rfl,?_⟩,rfl⟩
   simpa[List.getD]using hSo
 | .pair ta tb,l,vs,x,pos,hA,hr,h1,hl=>by
  simp only[readTree]at hr
  split at hr
  ·rename_i xa xb ha hb
   injection hr with hr
   subst hr
   simp only[oneLeaf]at h1
   split at h1
   ·rename_i hp
    simp only[Bool.and_eq_true]at h1
    obtain ⟨hra,hva⟩:=ZwW h ho hval hSo (hA.take ta.sz) ha h1.1 (by rw[List.getElem?_take,if_pos hp];exact hl)
    have hrb:=ZfD (S:=okBut μ []) h1.2 (Z1w h (hA.drop ta.sz) hb)
    refine ⟨⟨_,_,So,fun _=>False,(List.take_append_drop ta.sz vs).symm,hra,hrb,fun k hk=>⟨hk,fun hf=>hf⟩,fun _ hf=>hf.elim⟩,?_⟩
    rw[List.getElem?_take,if_pos hp]at hva
    exact hva
   ·rename_i hp
    simp only[Bool.and_eq_true]at h1
    obtain ⟨hrb,hvb⟩:=ZwW h ho hval hSo (hA.drop ta.sz) hb h1.2 (by rw[List.getElem?_drop,show ta.sz+(pos-ta.sz)=pos by omega];exact hl)
    have hra:=ZfD (S:=okBut μ []) h1.1 (Z1w h (hA.take ta.sz) ha)
    refine ⟨⟨_,_,fun _=>False,So,(List.take_append_drop ta.sz vs).symm,hra,hrb,fun _ hf=>hf.elim,fun k hk=>hk⟩,?_⟩
    rw[List.getElem?_drop,show ta.sz+(pos-ta.sz)=pos by omega]at hvb
    exact hvb
  ·cases hr
theorem Zmm(h:Rel w0 S0 st μ a w){i:Nat}{j:Int}{e e':TypeId}{u:Ty}{fr:Bool}{zs:List (Ty.slice e u).D}(ho:st.objs[i]? =some (.row fr e' (.slice e u) zs)){So:Nat→Prop}{hv:Value}(hval: ∀v,AR μ w (.inn i j) v→v=hv)(hSo:RowRep (Rep u) u.sz e w So (List.getD zs j.toNat []) hv):
  ∀{ps:List PK} {xs:List Operand} {x:Tup ps},readArgsI st i j e u ps (xs.map st.ev)=some x→ArgsR w (okBut μ [i]) So ps x (xs.map a.eval)
 | [], [], x, hr => rfl
 | [], y :: ys, x, hr => by simp [readArgsI] at hr
 | p :: ps, [], x, hr => by simp [readArgsI] at hr
 | p :: ps, y :: ys, x, hr => by
  simp only[List.map_cons,readArgsI]at hr
  split at hr
  ·rename_i l hl
   split at hr
   ·rename_i ha
    simp only[Bool.and_eq_true,Option.isNone_iff_eq_none]at ha
    have hA := (h.ev y).cells_sound hl
    have hsh := ZgR (h.ev y) hl ha.1
    split at hr
    ·rename_i hown
     split at hr
     ·rename_i y1 hy1
      split at hr
      ·rename_i ys1 hys1
       injection hr with hr
       subst hr
       refine ⟨a.eval y,ys.map a.eval,rfl,hsh,?_,Zmm h ho hval hSo hys1⟩
       rw [hown, ha.2]
       exact Z1w h hA hy1
      ·cases hr
     ·cases hr
    ·rename_i q hown
     split at hr
     ·rename_i hq
      obtain ⟨hq1,hq2,hq3⟩:=hq
      split at hr
      ·rename_i i' j' hj
       split at hr
       ·rename_i hij
        obtain ⟨rfl,rfl⟩:=hij
        split at hr
        ·rename_i y1 hy1
         split at hr
         ·rename_i ys1 hys1
          injection hr with hr
          subst hr
          refine ⟨a.eval y,ys.map a.eval,rfl,hsh,?_,Zmm h ho hval hSo hys1⟩
          rw[hown]
          exact ⟨hq1,(ZwW h ho hval hSo hA hy1 (by rw[←hq2,←hq3];exact hq1) hj).1⟩
         ·cases hr
        ·cases hr
       ·cases hr
      ·cases hr
     ·cases hr
   ·cases hr
  ·cases hr
theorem ZFJ(h:Rel w0 S0 st μ a w){i:Nat}{j:Int}{hv:Value}(hval: ∀v,AR μ w (.inn i j) v→v=hv): ∀{ps:List PK} {xs:List Operand},ownInn ps (xs.map st.ev)=some (i,j)→ownV ps (xs.map a.eval)=some hv
 | [], xs, hr => by cases xs <;> simp [ownInn] at hr
 |p::ps,[],hr=>by simp[ownInn]at hr
 |p::ps,y::ys,hr=>by
  simp only[List.map_cons,ownInn]at hr
  simp only[List.map_cons,ownV]
  split at hr
  ·rename_i q hown
   split at hr
   ·rename_i l hl
    split at hr
    ·rename_i i' j' hj
     injection hr with hr
     injection hr with hr1 hr2
     subst hr1 hr2
     have hA:=(h.ev y).cells_sound hl
     have hlt:q.1<(a.eval y).cells.toList.length:=by rw[hA.1];exact (List.getElem?_eq_some_iff.1 hj).1
     have:=hval _ (hA.2 q.1 _ _ hj (List.getElem?_eq_getElem hlt))
     rw[List.getElem?_eq_getElem hlt,this]
    ·cases hr
   ·cases hr
  ·exact ZFJ h hval hr
theorem ZIO(h:Rel w0 S0 st μ a w){i:Nat}{j:Int}: ∀{ps:List PK} {xs:List Operand},ownInn ps (xs.map st.ev)=some (i,j)→ ∃v,AR μ w (.inn i j) v
 | [], xs, hr => by cases xs <;> simp [ownInn] at hr
 |p::ps,[],hr=>by simp[ownInn]at hr
 |p::ps,y::ys,hr=>by
  simp only[List.map_cons,ownInn]at hr
  split at hr
  ·rename_i q hown
   split at hr
   ·rename_i l hl
    split at hr
    ·rename_i i' j' hj
     injection hr with hr
     injection hr with hr1 hr2
     subst hr1 hr2
     have hA:=(h.ev y).cells_sound hl
     have hlt:q.1<(a.eval y).cells.toList.length:=by rw[hA.1];exact (List.getElem?_eq_some_iff.1 hj).1
     exact ⟨_,hA.2 q.1 _ _ hj (List.getElem?_eq_getElem hlt)⟩
    ·cases hr
   ·cases hr
  ·exact ZIO h hr
theorem ZVW{γ:Type}{k:Nat}{f:FuncId}{E:CallE}{pos:Nat}{e:TypeId}{u:Ty}{dst:Option Tmp}{args:List Operand}{K:St→Option γ}{r:γ}(hE:SoundAt P k f E)(h:Rel w0 S0 st μ a w)
  (hown : ownI E.ps = some (pos, e, u)) (hk : opCallIn k E e u st dst (args.map st.ev) K = some r) :
  Calls P f (args.map a.eval).toArray w fun ed w'=>match ed with
   | .returned v=> ∃st' μ',Rel w0 S0 st' μ' (a.put dst v) w'∧K st'=some r
   | _ => False := by
 have okb : ∀ (ex : List Nat) k, okBut μ ex k → k < w.heap.size := fun ex k ⟨i, q, _, hq, hk⟩ => h.lt i q hq k hk
 unfold opCallIn at hk
 split at hk
 ·rename_i i j hij
  split at hk
  ·rename_i fr e' e2 u2 zs hob
   split at hk
   ·rename_i heu
    obtain ⟨rfl, rfl, hgv⟩ := heu
    split at hk
    ·rename_i x hx
     obtain ⟨rec,hrec⟩:=h.some_rec hob
     obtain ⟨v0,hv0⟩:=ZIO h hij
     have hrow0 : RowRep (Rep (.slice e2 u2)) (Ty.slice e2 u2).sz e' w rec.ok zs rec.v := h.ob i _ rec hob hrec
     have hpl : ∀ v, AR μ w (.inn i j) v → ∃ (ad : Addr) (n c : Nat), rec.v = .slice (some ad) n c ∧ 0 ≤ j ∧ j < n ∧ w.cell? (ad.add j.toNat) = some v := by
      intro v hv
      obtain ⟨r1,ad,n,c,hr1,h1,h2,h3,_,h5,_⟩:=hv
      rw [hrec] at hr1
      injection hr1 with hr1
      subst hr1
      exact ⟨ad,n,c,h1,h2,h3,h5⟩
     obtain ⟨ad0,n0,c0,p1,p2,p3,p4⟩:=hpl v0 hv0
     have hn : n0 = zs.length := by
      obtain ⟨inner,hq,_⟩:=hrow0
      obtain ⟨A',c',hv',_⟩:=ZaL hq
      rw [p1] at hv'
      injection hv'
     have hjl : j.toNat < zs.length := by omega
     obtain ⟨hv,So,hSo,hin,⟨ad,c,hvr,hcell⟩,hback⟩:=hrow0.lend hjl
     have hval : ∀ v, AR μ w (.inn i j) v → v = hv := by
      intro v hv1
      obtain ⟨ad1,n1,c1,q1,q2,q3,q4⟩:=hpl v hv1
      rw [hvr] at q1
      injection q1 with q1 _ _
      injection q1 with q1
      subst q1
      rw [hcell] at q4
      injection q4 with q4
      exact q4.symm
     have hA := Zmm h hob hval hin hx
     have hov := ZFJ h hval hij
     refine (hE.calls w _ _ x _ hA (fun k hk ⟨j',q,hj,hq,hqk⟩=> ?_) (fun k hk=>h.lt i rec hrec k (hSo k hk)) (okb _) (fun hn _=>by rw[hown]at hn;cases hn) (h.glob (fun k hk=>h.wr i _ rec hob hrec rfl k (hSo k hk))) hk).mono fun ed w' he=> ?_
     ·refine h.dj i j' _ rec q (fun hij => ?_) hob rfl hrec hq k (hSo k hk) hqk
      subst hij
      simp at hj
     ·cases ed with
      |returned v=>
       obtain ⟨res,out,hK,hF⟩:=he
       obtain ⟨Sr,us,hSr,rfl,hres,hout⟩:=hF.res
       obtain ⟨ys,hv2,S',rfl,hov2,hrow,hS'⟩:=hout _ hgv hown
       have hSr : ∀ k, Sr k → w.heap.size ≤ k ∧ k < w'.heap.size := fun k hk => ⟨(hSr k hk).1.elim (fun hf => by rw [hgv] at hf; cases hf.1) id, (hSr k hk).2⟩
       simp only at hK hrow
       rw [dif_pos trivial] at hK
       rw [hov] at hov2
       injection hov2 with hov2
       subst hov2
       have hs := h.kp.size
       have hS1 : ∀ k, S' k → rec.ok k ∨ w.heap.size ≤ k := fun k hk => (hS' k hk).1.imp (hSo k) id
       have hdis : ∀ (j : Nat) q, (offAt μ i)[j]? = some q → ∀ k, q.ok k → ¬ rec.ok k ∧ k < w.heap.size := by
        intro j q hq k hqk
        obtain ⟨q0,g0,_,_,g3⟩:=Z5G hq
        rcases g3 with ⟨_,g3⟩|⟨hj,rfl⟩
        ·exact absurd hqk (g3 k)
        ·exact ⟨fun hk => h.dj i j _ rec q (Ne.symm hj) hob rfl hrec g0 k hk hqk, h.lt j q g0 k hqk⟩
       have h1 := (h.die i).world hF.chg (fun j q hq k hqk hk => (hdis j q hq k hqk).1 (hSo k hk)) (fun k hk => h.wr i _ rec hob hrec rfl k (hSo k hk))
       have hir : (offAt μ i)[i]? = some rec.off := by rw [ZdP, hrec]; rfl
       have hlen : i < (st.die i).objs.length := by simp [St.die]; exact (List.getElem?_eq_some_iff.1 hob).1
       have hnew := hback w' S' ys hF.chg (h.lt i rec hrec) hrow (fun k hk => (hS' k hk).1)
       have h2 := h1.revive (o' := .row fr e' (.slice e2 u2) (List.set zs j.toNat ys)) (r' := ⟨rec.v, rec.blk, fun k => rec.ok k ∨ S' k⟩) hir rfl rfl hlen (fun _ _ _ => hnew) (fun j q hj hq k hk hqk => by
         have hd:=hdis j q hq k hqk
         rcases hk with h3|h3
         ·exact hd.1 h3
         ·rcases hS1 k h3 with h4 | h4
          ·exact hd.1 h4
          ·have := hd.2; omega)
        (fun k hk=>by
         rcases hk with h3|h3
         ·exact h.wr i _ rec hob hrec rfl k h3
         ·rcases hS1 k h3 with h4 | h4
          ·exact h.wr i _ rec hob hrec rfl k h4
          ·right; omega)
        (fun e2 t2 xs2 he2 k hk9=>by
         have hfr:fr=true:=by cases he2;rfl
         subst hfr
         rcases hk9 with h3|h3
         ·exact h.fr i _ _ _ rec hob hrec k h3
         ·rcases hS1 k h3 with h4 | h4
          ·exact h.fr i _ _ _ rec hob hrec k h4
          ·right; omega)
        (fun k hk=>by
         rcases hk with h3|h3
         ·have := h.lt i rec hrec k h3
          have:=hF.chg.size
          omega
         ·exact (hS' k h3).2.1)
       obtain ⟨μ',h3⟩:=ZaQ h2 hres (fun k hk=>⟨.inr (by have:=(hSr k hk).1;omega),(hSr k hk).2⟩) (fun j q hq k hk hqk=>by
         rw [List.getElem?_set] at hq
         split at hq
         ·split at hq
          ·injection hq with hq
           subst hq
           rcases hqk with h3|h3
           ·have := h.lt i rec hrec k h3
            have:=(hSr k hk).1
            omega
           ·exact (hS' k h3).2.2 hk
          ·cases hq
         ·have := (hSr k hk).1
          have:=(hdis j q hq k hqk).2
          omega) dst
       exact ⟨_,μ',h3,hK⟩
      |panicked c=>exact False.elim he
      |outgrown=>exact False.elim he
    ·cases hk
   ·cases hk
  ·cases hk
 ·cases hk
theorem ZWt{γ:Type}{k:Nat}{f:FuncId}{E:CallE}{o:Oper}{args:Array Operand}{ats:Array TypeId}{K:St→Option γ}{r:γ}{Q:Exit→Act→World→Prop}(hE:SoundAt P k f E)(h:Rel w0 S0 st μ a w)
    (ho : o.op = .call { callee := .value (.func f), args := args, argTypes := ats }) (hk : opCall k E st o.dst (args.toList.map st.ev) K = some r) : o.wp P a w (Nx w0 S0 K r) Q := by
  have hrun : (execOp a.eval o).run P w = .ok (.enter f (args.toList.map a.eval).toArray) w := by
    unfold execOp
    simp only [ho, resolve, Deferred.ofValue, Act.eval, Sem.run_bind, Sem.run_pure, Result.andThen_ok, invoke]
    have : (#[] ++ args.map a.eval ++ #[] : Array Value) = (args.toList.map a.eval).toArray := by apply Array.ext'; simp
    rw [this]
    exact hE.enter _ w
  unfold Oper.wp
  rw [hrun, Oper.upon_enter]
  have okb : ∀ (ex : List Nat) k, okBut μ ex k → k < w.heap.size := fun ex k ⟨i, q, _, hq, hk⟩ => h.lt i q hq k hk
  unfold opCall at hk
  split at hk
  · rename_i hown
    split at hk
    · rename_i x hx
      have hA := Zfn h (So := fun _ => False) (fun z hz => by cases hz) hx
      refine (hE.calls w _ _ x _ hA (fun _ hf => hf.elim) (fun _ hf => hf.elim) (okb _) (fun _ _ _ hf => hf) (h.glob (fun _ hf => hf.elim)) hk).mono fun e w' he => ?_
      cases e with
      |returned v=>
        obtain ⟨res, out, hK, hF⟩ := he
        obtain ⟨Sr, us, hSr, rfl, hres, _⟩ := hF.res
        have hs := h.kp.size
        have h1 := h.world hF.chg (fun _ _ _ _ _ hf => hf) (fun _ hf => hf.elim)
        have hSr : ∀ k, Sr k → w.heap.size ≤ k ∧ k < w'.heap.size := fun k hk => ⟨(hSr k hk).1.elim (fun hf => hf.2.elim) id, (hSr k hk).2⟩
        obtain ⟨μ', h2⟩ := ZaQ h1 hres (fun k hk => ⟨.inr (by have := (hSr k hk).1; omega), (hSr k hk).2⟩) (fun j q hq k hk hqk => by have := (hSr k hk).1; have := h.lt j q hq k hqk; omega) o.dst
        exact ⟨_, μ', h2, hK⟩
      | panicked c => exact False.elim he
      | outgrown => exact False.elim he
    · cases hk
  · rename_i pos e u hown
    split at hk
    · rename_i i hi
      split at hk
      · rename_i fr e' u' zs hob
        split at hk
        · rename_i heu
          obtain ⟨rfl, rfl⟩ := heu
          split at hk
          · rename_i x hx
            obtain ⟨rec, hrec⟩ := h.some_rec hob
            have hA := Zfn h (So := rec.ok) (fun z hz => by injection hz with hz; subst hz; exact ⟨fr, zs, rec, hob, hrec, rfl⟩) hx
            have hov := ZE5 h hrec hi
            refine (hE.calls w _ _ x _ hA (fun k hk ⟨j, q, hj, hq, hqk⟩ => ?_) (h.lt i rec hrec) (okb _) (fun hn _ => by rw [hown] at hn; cases hn) (h.glob (h.wr i _ rec hob hrec rfl)) hk).mono fun ed w' he => ?_
            · refine h.dj i j _ rec q (fun hij => ?_) hob rfl hrec hq k hk hqk
              subst hij
              simp at hj
            · cases ed with
              |returned v=>
                obtain ⟨res, out, hK, hF⟩ := he
                obtain ⟨Sr, us, hSr, rfl, hres, hout⟩ := hF.res
                have hs := h.kp.size
                have hdis : ∀ (j : Nat) q, (offAt μ i)[j]? = some q → ∀ k, q.ok k → ¬ rec.ok k ∧ k < w.heap.size := by
                  intro j q hq k hqk
                  obtain ⟨q0,g0,_,_,g3⟩:=Z5G hq
                  rcases g3 with ⟨_,g3⟩|⟨hj,rfl⟩
                  · exact absurd hqk (g3 k)
                  · exact ⟨fun hk => h.dj i j _ rec q (Ne.symm hj) hob rfl hrec g0 k hk hqk, h.lt j q g0 k hqk⟩
                have h1 := (h.die i).world hF.chg (fun j q hq k hqk => (hdis j q hq k hqk).1) (fun k hk => h.wr i _ rec hob hrec rfl k hk)
                cases hgv:giveI E.ps with
                |true=>
                  rw [if_pos hgv] at hK
                  split at hK
                  · rename_i hfr
                    subst hfr
                    obtain ⟨μ',h3⟩:=ZaQ h1 hres (fun k hk=>⟨(hSr k hk).1.elim (fun hf=>h.fr i _ _ _ rec hob hrec k hf.2) (fun hf=>by right;omega),(hSr k hk).2⟩) (fun j q hq k hk hqk=>by
                      have hd:=hdis j q hq k hqk
                      rcases (hSr k hk).1 with hf|hf
                      · exact hd.1 hf.2
                      · have := hd.2; omega) o.dst
                    exact ⟨_,μ',h3,hK⟩
                  · cases hK
                |false=>
                rw [if_neg (by rw [hgv]; exact Bool.false_ne_true)] at hK
                have hSr : ∀ k, Sr k → w.heap.size ≤ k ∧ k < w'.heap.size := fun k hk => ⟨(hSr k hk).1.elim (fun hf => by rw [hgv] at hf; cases hf.1) id, (hSr k hk).2⟩
                obtain ⟨ys, hv, S', rfl, hov2, hrow, hS'⟩ := hout _ hgv hown
                simp only at hK hrow
                rw [if_pos trivial] at hK
                rw [hov] at hov2
                injection hov2 with hov2
                subst hov2
                have hir : (offAt μ i)[i]? = some rec.off := by rw [ZdP, hrec]; rfl
                have hlen : i < (st.die i).objs.length := by simp [St.die]; exact (List.getElem?_eq_some_iff.1 hob).1
                have h2 := h1.revive (o' := .row fr e' u' ys) (r' := ⟨rec.v, rec.blk, S'⟩) hir rfl rfl hlen (fun _ _ _ => hrow) (fun j q hj hq k hk hqk => by
                    have hd:=hdis j q hq k hqk
                    rcases (hS' k hk).1 with h3|h3
                    · exact hd.1 h3
                    · have := hd.2; omega)
                  (fun k hk => by
                    rcases (hS' k hk).1 with h3|h3
                    · exact h.wr i _ rec hob hrec rfl k h3
                    · right; omega)
                  (fun e2 t2 xs2 he2 k hk9 => by
                    have hfr:fr=true:=by cases he2;rfl
                    subst hfr
                    rcases (hS' k hk9).1 with h3|h3
                    · exact h.fr i _ _ _ rec hob hrec k h3
                    · right; omega)
                  (fun k hk => (hS' k hk).2.1)
                obtain ⟨μ', h3⟩ := ZaQ h2 hres (fun k hk => ⟨.inr (by have := (hSr k hk).1; omega), (hSr k hk).2⟩) (fun j q hq k hk hqk => by
                    rw [List.getElem?_set] at hq
                    split at hq
                    · split at hq
                      · injection hq with hq
                        subst hq
                        exact (hS' k hqk).2.2 hk
                      ·cases hq
                    · have := (hSr k hk).1
                      have:=(hdis j q hq k hqk).2
                      omega) o.dst
                exact ⟨_,μ',h3,hK⟩
              |panicked c=>exact False.elim he
              |outgrown=>exact False.elim he
          ·cases hk
        ·cases hk
      · cases hk
    · refine (ZVW hE h hown hk).mono fun ed w' he => ?_
      cases ed with
      |returned v=>
        obtain ⟨st',μ',h3,hK⟩:=he
        exact ⟨_,μ',h3,hK⟩
      |panicked c=>exact False.elim he
      |outgrown=>exact False.elim he
theorem ZU4{γ:Type}{k:Nat}{f:FuncId}{E:CallE}{o:Oper}{args:Array Operand}{ats:Array TypeId}{K:St→Option γ}{r:γ}{Q:Exit→Act→World→Prop}(hE:SoundAt P k f E)(h:Rel w0 S0 st μ a w)
  (ho : o.op = .call { callee := .value (.func f), args := args, argTypes := ats }) (hown : ownI E.ps = none) (hk : opCall k E st o.dst (args.toList.map st.ev) K = some r) : o.wp P a w (Nxs w0 S0 w K r) Q := by
 have hrun:(execOp a.eval o).run P w= .ok (.enter f (args.toList.map a.eval).toArray) w:=by
  unfold execOp
  simp only[ho,resolve,Deferred.ofValue,Act.eval,Sem.run_bind,Sem.run_pure,Result.andThen_ok,invoke]
  have:(#[]++args.map a.eval++ #[]:Array Value)=(args.toList.map a.eval).toArray:=by apply Array.ext';simp
  rw[this]
  exact hE.enter _ w
 unfold Oper.wp
 rw[hrun,Oper.upon_enter]
 have okb: ∀(ex:List Nat) k,okBut μ ex k→k<w.heap.size:=fun ex k ⟨i,q,_,hq,hk⟩=>h.lt i q hq k hk
 unfold opCall at hk
 rw[hown]at hk
 simp only at hk
 split at hk
 ·rename_i x hx
  have hA:=Zfn h (So:=fun _=>False) (fun z hz=>by cases hz) hx
  refine (hE.calls w _ _ x _ hA (fun _ hf=>hf.elim) (fun _ hf=>hf.elim) (okb _) (fun _ _ _ hf=>hf) (h.glob (fun _ hf=>hf.elim)) hk).mono fun e w' he=> ?_
  cases e with
  |returned v=>
   obtain ⟨res,out,hK,hF⟩:=he
   obtain ⟨Sr,us,hSr,rfl,hres,_⟩:=hF.res
   have hs:=h.kp.size
   have h1:=h.world hF.chg (fun _ _ _ _ _ hf=>hf) (fun _ hf=>hf.elim)
   have hSr: ∀k,Sr k→w.heap.size≤k∧k<w'.heap.size:=fun k hk=>⟨(hSr k hk).1.elim (fun hf=>hf.2.elim) id,(hSr k hk).2⟩
   obtain ⟨μ',h2⟩:=ZaQ h1 hres (fun k hk=>⟨.inr (by have:=(hSr k hk).1;omega),(hSr k hk).2⟩) (fun j q hq k hk hqk=>by have:=(hSr k hk).1;have:=h.lt j q hq k hqk;omega) o.dst
   exact ⟨⟨_,μ',h2,hK⟩,hF.chg⟩
  |panicked c=>exact False.elim he
  |outgrown=>exact False.elim he
 ·cases hk
end
end
section
section
variable {β:Type}
end
section
variable {P:Program} {w w1 w0:World} {S0:Own} {st:St} {μ:List ORec} {a:Act} {o:Oper} {t:TypeId} {i:TI} {β:Type} {r:β} {Q:Exit→Act→World→Prop}
end
end
section
section
variable {γ:Type}
end
section
variable {P:Program} {w w1 w0:World} {S0:Own} {st:St} {μ:List ORec} {a:Act}
end
section
variable {P:Program} {w w1 w0:World} {S0:Own} {st:St} {μ:List ORec} {a:Act} {o:Oper} {t:TypeId} {i:TI} {β:Type} {r:β} {Q:Exit→Act→World→Prop}
end
end
section
def boxPtr:List PK→List TV→Option Nat
 |p::ps,x::xs=>match p.box with
  |some _=>match x with
   | .sv (.at (.ptr i 0))=>some i
   |_=>none
  |none=>boxPtr ps xs
 |_,_=>none
def headOK(i:Nat):At→Bool
 | .snap j _ _=>j !=i| .sl j=>j !=i| .nils=>true|_=>false
def readBox(st:St)(i:Nat):(t:Ty)→List At→Option t.D
 | .pair (.slice _ u) b,c::r=>if (b.flat&&headOK i c)=true then match readSl st [i] u c,readTree st [i] b r with
  |some xs,some y=>some (xs,y)
  |_,_=>none
  else none
 |_,_=>none
def boxNew(i:Nat):(t:Ty)→t.D→List At→List At
 | .pair (.slice _ _) b,y,c::_=>c::atomsOf i b y.2
 |_,_,l=>l
def readArgsB (st : St) (i : Nat) (eb : TypeId) (t : Ty) (y : t.D) : (ps : List PK) → List TV → Option (Tup ps)
  | [], [] => some ()
  | p :: ps, x :: xs => match p.own with
    | none => match p.box with
      | none => match x.cells with
        |some l=>if aggOK p.agg x=true then match readTree st [i] p.t l with
            |some y1=>match readArgsB st i eb t y ps xs with
              |some ys=>some (y1,ys)
              |none=>none
            |none=>none
          else none
        |none=>none
      |some e'=>if h:e'=eb∧p.agg=false∧p.t=t then match x with
        | .sv (.at (.ptr j 0))=>if j=i then match readArgsB st i eb t y ps xs with
            |some ys=>some (h.2.2.symm▸y,ys)
            |none=>none
          else none
        |_=>none
        else none
    |some _=>none
  |_,_=>none
section
variable {γ:Type}
def opCallB(k:Nat)(E:CallE)(eb:TypeId)(t:Ty)(st:St)(dst:Option Tmp)(xs:List TV)(K:St→Option γ):Option γ:=
 match boxPtr E.ps xs with
 |some i=>match st.objs[i]? with
  |some (.box e cells)=>if e=eb∧(ownI E.ps).isNone=true∧giveI E.ps=false then match readBox st i t cells with
    |some y0=>match readArgsB st i eb t y0 E.ps xs with
     |some x=>E.fn k x fun res out=>match out with
      |some ⟨t2,[y]⟩=>if h:t2=t then K (giveRes dst E.rs res (backSt st i (.box eb (boxNew i t (h▸y) cells)))) else none
      |_=>none
     |none=>none
    |none=>none
   else none
  |_=>none
 |none=>none
end
section
variable {P:Program} {w w1 w0:World} {S0:Own} {st:St} {μ:List ORec} {a:Act}
theorem ZlX(h:Rel w0 S0 st μ a w){i:Nat}{eb:TypeId}{t:Ty}{y:t.D}{So:Nat→Prop}{v0:Value}(hval: ∀v,AR μ w (.ptr i 0) v→v=v0)(hB:BoxA w (okBut μ [i]) So eb t y v0):
  ∀{ps:List PK} {xs:List Operand} {x:Tup ps},readArgsB st i eb t y ps (xs.map st.ev)=some x→ArgsR w (okBut μ [i]) So ps x (xs.map a.eval)
 | [], [], x, hr => rfl
 | [], y :: ys, x, hr => by simp [readArgsB] at hr
 | p :: ps, [], x, hr => by simp [readArgsB] at hr
 | p :: ps, z :: zs, x, hr => by
  simp only[List.map_cons,readArgsB]at hr
  split at hr
  ·rename_i hown
   split at hr
   ·rename_i hbox
    split at hr
    ·rename_i l hl
     split at hr
     ·rename_i ha
      have hA:=(h.ev z).cells_sound hl
      have hsh:=ZgR (h.ev z) hl ha
      split at hr
      ·rename_i y1 hy1
       split at hr
       ·rename_i ys1 hys1
        injection hr with hr
        subst hr
        refine ⟨a.eval z,zs.map a.eval,rfl,hsh,?_,ZlX h hval hB hys1⟩
        rw[hown,hbox]
        exact Z1w h hA hy1
       ·cases hr
      ·cases hr
     ·cases hr
    ·cases hr
   ·rename_i e' hbox
    split at hr
    ·rename_i hc
     obtain ⟨rfl,hag,hpt⟩:=hc
     split at hr
     ·rename_i j hz
      split at hr
      ·rename_i hji
       subst hji
       split at hr
       ·rename_i ys1 hys1
        injection hr with hr
        subst hr
        have hev:=h.ev z
        rw[hz]at hev
        have hv:=hval _ hev.1
        refine ⟨a.eval z,zs.map a.eval,rfl,?_,?_,ZlX h hval hB hys1⟩
        ·unfold Shaped
         rw[if_neg (by rw[hag];exact Bool.false_ne_true)]
         obtain ⟨g,c,r,hg,_⟩:=hB
         rw[hv,hg];rfl
        ·rw [hown, hbox]
         obtain ⟨pt,pa,po,pg,pb⟩:=p
         simp only at hpt
         subst hpt
         rw[hv]
         exact hB
       ·cases hr
      ·cases hr
     ·cases hr
    ·cases hr
  ·cases hr
theorem ZEX(h:Rel w0 S0 st μ a w){i:Nat}{rec:ORec}(hrec:μ[i]? =some rec): ∀{ps:List PK} {xs:List Operand},boxPtr ps (xs.map st.ev)=some i→boxV ps (xs.map a.eval)=some rec.blk
 | [], xs, hr => by cases xs <;> simp [boxPtr] at hr
 |p::ps,[],hr=>by simp[boxPtr]at hr
 |p::ps,y::ys,hr=>by
  simp only[List.map_cons,boxPtr]at hr
  simp only[List.map_cons,boxV]
  split at hr
  ·rename_i e hb
   try simp only[hb]
   split at hr
   ·rename_i j hz
    injection hr with hr
    subst hr
    have hev:=h.ev y
    rw[hz]at hev
    obtain ⟨r,hr,hv⟩:=hev.1
    rw[hrec]at hr
    injection hr with hr
    subst hr
    rw[hv]
   ·cases hr
  ·rename_i hb
   try simp only[hb]
   exact ZEX h hrec hr
theorem ZVa{c c':Value}{r r':List Value}(h:(c::r).toArray=(c'::r').toArray):c=c'∧r=r':=by
 have:=congrArg Array.toList h
 simpa using this
theorem ZVo{γ:Type}{k:Nat}{f:FuncId}{E:CallE}{eb:TypeId}{t:Ty}{dst:Option Tmp}{args:List Operand}{K:St→Option γ}{r:γ}(hE:SoundAt P k f E)(h:Rel w0 S0 st μ a w)
  (hbox : boxI E.ps = some (eb, t)) (hk : opCallB k E eb t st dst (args.map st.ev) K = some r) :
  Calls P f (args.map a.eval).toArray w fun ed w' => match ed with
   | .returned v=> ∃st' μ',Rel w0 S0 st' μ' (a.put dst v) w'∧K st'=some r
   | _ => False := by
 have okb : ∀ (ex : List Nat) k, okBut μ ex k → k < w.heap.size := fun ex k ⟨i, q, _, hq, hk⟩ => h.lt i q hq k hk
 unfold opCallB at hk
 split at hk
 ·rename_i i hij
  split at hk
  ·rename_i e cells hob
   split at hk
   ·rename_i he
    obtain ⟨rfl, hown, hgv⟩ := he
    rw [Option.isNone_iff_eq_none] at hown
    split at hk
    ·rename_i y0 hy0
     split at hk
     ·rename_i x hx
      obtain ⟨rec, hrec⟩ := h.some_rec hob
      obtain ⟨hok, vs, hb, hAl, h1v⟩ := h.ob i _ rec hob hrec
      match t, y0, hy0, hx, hk, hbox with
      | .pair (.slice es u) b, y0, hy0, hx, hk, hbox =>
       match cells, vs, hAl, hy0, hk, hob, hb, h1v with
       | [], vs, hAl, hy0, hk, hob, hb, h1v => simp [readBox] at hy0
       | c :: cr, [], hAl, hy0, hk, hob, hb, h1v => have := hAl.1; simp at this
       | c :: cr, vc :: vr, hAl, hy0, hk, hob, hb, h1v =>
        simp only [readBox] at hy0
        split at hy0
        ·rename_i hflat
         simp only[Bool.and_eq_true]at hflat
         obtain ⟨hflat, hhead⟩ := hflat
         split at hy0
         ·rename_i xs0 yb hxs hyb
          injection hy0 with hy0
          subst hy0
          have hAc : AR μ w c vc := hAl.2 0 c vc rfl rfl
          have hAr : AL μ w cr vr := ⟨by have := hAl.1; simpa using this, fun j x v hx hv => hAl.2 (j + 1) x v (by simpa using hx) (by simpa using hv)⟩
          have hrd := Zfe h hAc hxs
          have hrep := ZfD (S := okBut μ [i]) hflat (Z1w h hAr hyb)
          have hBA : BoxA w (okBut μ [i]) (fun k => k = rec.blk) e (.pair (.slice es u) b) (xs0, yb) (.pointer (some ⟨rec.blk, 0, none⟩)) := ⟨rec.blk, vc, vr, rfl, rfl, hb, hflat, hrd, hrep⟩
          have hval : ∀ v, AR μ w (.ptr i 0) v → v = .pointer (some ⟨rec.blk, 0, none⟩) := by
           intro v hv
           obtain ⟨q,hq,hv⟩:=hv
           rw [hrec] at hq
           injection hq with hq
           rw [hv, hq]
          have hA := ZlX h hval hBA hx
          have hbv := ZEX h hrec hij
          have hlt := h.lt i rec hrec
          refine (hE.calls w _ _ x _ hA (fun k hk ⟨j', q, hj, hq, hqk⟩ => ?_) (fun k hk => by rw [hk]; exact hlt _ hok) (okb _) (fun _ hn => by rw [hbox] at hn; cases hn) (h.glob (fun k hk => by rw [hk]; exact h.wr i _ rec hob hrec rfl _ hok)) hk).mono fun ed w' he => ?_
          ·subst hk
           refine h.dj i j' _ rec q (fun hij=> ?_) hob rfl hrec hq rec.blk hok hqk
           subst hij
           simp at hj
          ·cases ed with
           |returned v=>
            obtain ⟨res,out,hK,hF⟩:=he
            obtain ⟨Sr,us,hSr,rfl,hres,_⟩:=hF.res
            obtain ⟨g,c1,r1,r2,y,rfl,hbv2,hh1,hh2,hBE⟩:=hF.box _ _ hbox
            have hSr : ∀ k, Sr k → w.heap.size ≤ k ∧ k < w'.heap.size := fun k hk => ⟨(hSr k hk).1.elim (fun hf => by rw [hgv] at hf; cases hf.1) id, (hSr k hk).2⟩
            rw [hbv] at hbv2
            injection hbv2 with hbv2
            subst hbv2
            rw [hb] at hh1
            injection hh1 with hh1
            injection hh1 with hh1 _ _
            obtain ⟨rfl,rfl⟩:=ZVa hh1
            simp only at hK
            rw [dif_pos trivial] at hK
            have hs := h.kp.size
            have hrep2 : Rep b w' (fun _ => False) y.2 r2 := hBE
            have hdis : ∀ (j : Nat) q, (offAt μ i)[j]? = some q → ∀ k, q.ok k → ¬ rec.ok k ∧ k < w.heap.size := by
             intro j q hq k hqk
             obtain ⟨q0,g0,_,_,g3⟩:=Z5G hq
             rcases g3 with ⟨_,g3⟩|⟨hj,rfl⟩
             ·exact absurd hqk (g3 k)
             ·exact ⟨fun hk => h.dj i j _ rec q (Ne.symm hj) hob rfl hrec g0 k hk hqk, h.lt j q g0 k hqk⟩
            have h1 := (h.die i).world hF.chg (fun j q hq k hqk hk => (hdis j q hq k hqk).1 (by rw [hk]; exact hok)) (fun k hk => by rw [hk]; exact h.wr i _ rec hob hrec rfl _ hok)
            have hir : (offAt μ i)[i]? = some rec.off := by rw [ZdP, hrec]; rfl
            have hlen : i < (st.die i).objs.length := by simp [St.die]; exact (List.getElem?_eq_some_iff.1 hob).1
            have h2 := h1.revive (o' := .box e (c :: atomsOf i b y.2)) (r' := ⟨rec.v, rec.blk, rec.ok⟩) hir rfl rfl hlen (fun μ' hμ1 hμ2 => by
              refine ⟨hok,vc::r2,hh2,?_,fun u hu=> ?_⟩
              ·have hc' : AR μ' w' c vc := by
                have mv: ∀j q,j≠i→μ[j]? =some q→μ'[j]? =some q∧ ∀k,q.ok k→w'.heap[k]? =w.heap[k]? :=fun j q hj hq=>by
                 have hq2:(offAt μ i)[j]? =some q:=by rw[ZbJ (Ne.symm hj)];exact hq
                 refine ⟨by rw[hμ1 j hj];exact hq2,fun k hk=>hF.chg.block k (h.lt j q hq k hk) (fun hkb=>(hdis j q hq2 k hk).1 (by rw[hkb];exact hok))⟩
                cases c with
                |snap j t xs=>
                 simp only[headOK,bne_iff_ne,ne_eq]at hhead
                 obtain ⟨q,hq,hx⟩:=hAc
                 obtain ⟨m1,m2⟩:=mv j q hhead hq
                 have:=AR.move (μ:=μ) (w:=w) (w1:=w') (x:= .snap j t xs) (v:=vc) ⟨q,hq,hx⟩ (fun i2 q2 hd hq2=>by
                  injection hd with hd
                  subst hd
                  rw[hq]at hq2
                  injection hq2 with hq2
                  subst hq2
                  exact m2)
                 obtain ⟨q3,hq3,hx3⟩:=this
                 rw[hq]at hq3
                 injection hq3 with hq3
                 subst hq3
                 exact ⟨q,m1,hx3⟩
                |sl j=>
                 simp only[headOK,bne_iff_ne,ne_eq]at hhead
                 obtain ⟨q,hq,hx⟩:=hAc
                 exact ⟨q,(mv j q hhead hq).1,hx⟩
                |nils=>exact hAc
                |_=>cases hhead
               have hr':AL μ' w' (atomsOf i b y.2) r2:=AL.of_rd hμ2 (hrep2.rd.wide (fun _ hf=>hf.elim))
               refine ⟨by have:=hr'.1;simp[this],fun j x v hx hv=> ?_⟩
               cases j with
               |zero=>
                obtain rfl:c=x:=by simpa using hx
                obtain rfl:vc=v:=by simpa using hv
                exact hc'
               |succ j=>exact hr'.2 j x v (by simpa using hx) (by simpa using hv)
              ·rcases List.mem_cons.1 hu with rfl | hu
               ·exact h1v _ (List.mem_cons_self ..)
               ·exact hrep2.one u hu)
             (fun j q hj hq k hk hqk=>(hdis j q hq k hqk).1 hk)
             (fun k hk=>h.wr i _ rec hob hrec rfl k hk)
             (fun e2 t2 xs2 he2=>by cases he2)
             (fun k hk=>Nat.lt_of_lt_of_le (hlt k hk) hF.chg.size)
            obtain ⟨μ',h3⟩:=ZaQ h2 hres (fun k hk=>⟨.inr (by have:=(hSr k hk).1;omega),(hSr k hk).2⟩) (fun j q hq k hk hqk=>by
              rw[List.getElem?_set]at hq
              split at hq
              ·split at hq
               ·injection hq with hq
                subst hq
                have:=hlt k hqk
                have:=(hSr k hk).1
                omega
               ·cases hq
              ·have := (hSr k hk).1
               have:=(hdis j q hq k hqk).2
               omega) dst
            exact ⟨_,μ',h3,hK⟩
           |panicked c=>exact False.elim he
           |outgrown=>exact False.elim he
         ·cases hy0
        ·cases hy0
      | .pair (.int _) b,y0,hy0,hx,hk,hbox=>simp[readBox]at hy0
      | .pair .bool b,y0,hy0,hx,hk,hbox=>simp[readBox]at hy0
      | .pair .str b,y0,hy0,hx,hk,hbox=>simp[readBox]at hy0
      | .pair (.pair _ _) b,y0,hy0,hx,hk,hbox=>simp[readBox]at hy0
      | .int _,y0,hy0,hx,hk,hbox=>simp[readBox]at hy0
      | .bool,y0,hy0,hx,hk,hbox=>simp[readBox]at hy0
      | .str,y0,hy0,hx,hk,hbox=>simp[readBox]at hy0
      | .slice _ _,y0,hy0,hx,hk,hbox=>simp[readBox]at hy0
     ·cases hk
    ·cases hk
   ·cases hk
  ·cases hk
 ·cases hk
theorem ZSQ{γ:Type}{k:Nat}{f:FuncId}{E:CallE}{o:Oper}{eb:TypeId}{t:Ty}{args:Array Operand}{ats:Array TypeId}{K:St→Option γ}{r:γ}{Q:Exit→Act→World→Prop}(hE:SoundAt P k f E)(h:Rel w0 S0 st μ a w)
  (ho:o.op= .call {callee:= .value (.func f),args:=args,argTypes:=ats}) (hbox:boxI E.ps=some (eb,t)) (hk:opCallB k E eb t st o.dst (args.toList.map st.ev) K=some r):o.wp P a w (Nx w0 S0 K r) Q:=by
 have hrun:(execOp a.eval o).run P w= .ok (.enter f (args.toList.map a.eval).toArray) w:=by
  unfold execOp
  simp only[ho,resolve,Deferred.ofValue,Act.eval,Sem.run_bind,Sem.run_pure,Result.andThen_ok,invoke]
  have:(#[]++args.map a.eval++ #[]:Array Value)=(args.toList.map a.eval).toArray:=by apply Array.ext';simp
  rw[this]
  exact hE.enter _ w
 unfold Oper.wp
 rw[hrun,Oper.upon_enter]
 refine (ZVo hE h hbox hk).mono fun ed w' he=> ?_
 cases ed with
 |returned v=>
  obtain ⟨st',μ',h3,hK⟩:=he
  exact ⟨_,μ',h3,hK⟩
 |panicked c=>exact False.elim he
 |outgrown=>exact False.elim he
end
end
section
section
variable {β:Type}
end
noncomputable def gtS:Int→Int→Bool:=Classical.choose (⟨fun a b=>decide (a>b),rfl⟩: ∃f:Int→Int→Bool,f=fun a b=>decide (a>b))
theorem ZWH(a b:Int):gtS a b=decide (a>b):=congrFun (congrFun (Classical.choose_spec (⟨fun a b=>decide (a>b),rfl⟩: ∃f:Int→Int→Bool,f=fun a b=>decide (a>b))) a) b
def gtBig(op:BinOp)(y:Operand):Bool:=match op with
 | .gtr=>match y with
  | .const (.int .i64 n)=>n==1048576
  |_=>false
 |_=>false
noncomputable def opGtS{β:Type}(x:TV)(K:At→Option β):Option β:=match x with
 | .sv (.at (.int .i64 a))=>K (.bool (gtS a 1048576))
 |_=>none
theorem ZUG{op:BinOp}{y:Operand}(h:gtBig op y=true):op= .gtr∧y= .const (.int .i64 1048576):=by
 unfold gtBig at h
 split at h
 ·split at h
  ·rename_i n
   have:n=1048576:=by simpa using h
   subst this
   exact ⟨rfl,rfl⟩
  ·cases h
 ·cases h
noncomputable def addS:Int→Int→Int:=Classical.choose (⟨fun a b=>wrap64 (a+b),rfl⟩: ∃f:Int→Int→Int,f=fun a b=>wrap64 (a+b))
theorem ZGE(a b:Int):addS a b=wrap64 (a+b):=congrFun (congrFun (Classical.choose_spec (⟨fun a b=>wrap64 (a+b),rfl⟩: ∃f:Int→Int→Int,f=fun a b=>wrap64 (a+b))) a) b
noncomputable def opAddS{β:Type}(op:BinOp)(x y:TV)(K:At→Option β):Option β:=match op with
 | .add=>match x,y with
  | .sv (.at (.int .i64 a)),.sv (.at (.int .i64 b))=>K (.int .i64 (addS a b))
  |_,_=>none
 |_=>none
section
variable {β:Type} {P:Program} {w w1 w0:World} {S0:Own} {st:St} {μ:List ORec} {a:Act} {o:Oper} {r:β} {t:TypeId}
theorem ZWJ{op:BinOp}{x y:Operand}{yt:TypeId}{K:At→Option β}{K':St→Option β}(T:TT)(hT:TTok P T)(h:Rel w0 S0 st μ a w)(ho:o.op= .binOp op t x y yt)(hb:gtBig op y=true)
  (hk:opGtS (st.ev x) K=some r) (hK: ∀x,K x=some r→K' (st.put o.dst (.sv (.at x)))=some r):Went P o a w (Nx w0 S0 K' r):=by
 obtain ⟨rfl,rfl⟩:=ZUG hb
 refine ZRJ T hT h ho ?_ hK
 unfold opGtS at hk
 split at hk
 ·rename_i n hx
  rw[hx]
  rw[ZWH]at hk
  exact hk
 ·cases hk
theorem ZWg{op:BinOp}{x y:Operand}{yt:TypeId}{K:At→Option β}{K':St→Option β}(T:TT)(hT:TTok P T)(h:Rel w0 S0 st μ a w)(ho:o.op= .binOp op t x y yt)
  (hk : opAddS op (st.ev x) (st.ev y) K = some r) (hK : ∀ x, K x = some r → K' (st.put o.dst (.sv (.at x))) = some r) : Went P o a w (Nx w0 S0 K' r) := by
 refine ZRJ T hT h ho ?_ hK
 unfold opAddS at hk
 split at hk
 ·split at hk
  ·rename_i a b hx hy
   rw[hx,hy]
   rw[ZGE]at hk
   exact hk
  ·cases hk
 ·cases hk
end
end
section
section
variable {γ:Type}
end
section
variable {P:Program} {w w1 w0:World} {S0:Own} {st:St} {μ:List ORec} {a:Act} {t:TypeId} {o:Oper} {β:Type} {K:St→Option β} {r:β} {Q:Exit→Act→World→Prop}
theorem FnTy.agg(h:FnTy P t)(w:World):(isAgg t).run P w= .ok false w:=by
 obtain ⟨ps,rs,v,hu⟩:=h.und
 unfold isAgg
 rw[Sem.run_bind,run_underlying hu]
 rfl
theorem FnTy.get(h:FnTy P t): ∃x,P.info? t=some x∧x.zero=some .nilFunc∧x.size=1:=by
 obtain ⟨x,hx,he⟩:=Option.map_eq_some_iff.1 h.info
 injection he with h1 h2
 exact ⟨x,hx,h1,h2⟩
theorem FnTy.sizeOf(h:FnTy P t)(w:World):(sizeOf t).run P w= .ok 1 w:=by
 obtain ⟨x,hx,_,hs⟩:=h.get
 simp[Go.sizeOf,typeInfo,hx,hs]
theorem FnTy.zero(h:FnTy P t)(w:World):(zeroValue t).run P w= .ok .nilFunc w:=by
 obtain ⟨x,hx,hz,_⟩:=h.get
 simp[zeroValue,typeInfo,hx,hz]
theorem FnTy.load(h:FnTy P t){ad:Addr}{v:Value}(hc:w.cell? ad=some v):(loadVar t ad).run P w= .ok v w:=by
 unfold loadVar
 rw[Sem.run_bind,h.agg]
 simp[hc]
theorem FnTy.store(h:FnTy P t){g f:Nat}{e:TypeId}{cur:Array Value}(hb:w.heap[g]? =some (.cells cur e (0,0)))(u:Value)(hu:u.cells= #[u])(hf:f+1≤cur.size)(h1:u.oneCell'=true):
  (storeVar t ⟨g,f,none⟩ u).run P w= .ok () (w.setRow g (Vs.setw cur.toList f [u]).toArray):=by
 unfold storeVar
 rw[Sem.run_bind,h.sizeOf]
 simp only[Result.andThen_ok]
 have hul:u.cells.toList=[u]:=by rw[hu]
 have:=run_storeCells_at (P:=P) g f e u.cells.toList 0 cur w hb (by rw[hul];simpa using hf) (by rw[hul];intro v hv;rw[List.mem_singleton.1 hv];exact h1)
 simp only[Nat.add_zero]at this
 have hs:u.cells.size=1:=by rw[hu];rfl
 rw[hul]at this
 simp only[List.length_singleton]at this
 simp[hs,this,setw,hul]
structure ClSound (P:Program) (k:Nat) (f:FuncId) (c:CloE):Prop where
 enter: ∀vs w,(callFunc f vs).run P w= .ok (.enter f vs) w
 calls: ∀{γ:Type} {K:St→Option γ} {r:γ} {w w0:World} {S0:Own} {st:St} {μ:List ORec} {a:Act} (dst:Option Tmp) (xs:List TV) (vs:List Value),Rel w0 S0 st μ a w→vs.length=xs.length→(∀(j:Nat) x v,xs[j]? =some x→vs[j]? =some v→TR μ w x v)→c.act k st dst xs K=some r→
  Calls P f vs.toArray w fun
   | .returned v,w'=> ∃st' μ',Rel w0 S0 st' μ' (a.put dst v) w'∧K st'=some r
   |_,_=>False
theorem ZUd{k:Nat}{f:FuncId}{c:CloE}{v:Operand}{args:Array Operand}{ats:Array TypeId}{l:List At}{caps:List Value}(hE:ClSound P k f c)(h:Rel w0 S0 st μ a w)(ho:o.op= .call {callee:= .value v,args:=args,argTypes:=ats})
  (hv : a.eval v = .func (.func f) #[] caps.toArray) (hl : AL μ w l caps) (hk : c.act k st o.dst (args.toList.map st.ev ++ l.map fun x => .sv (.at x)) K = some r) : o.wp P a w (Nx w0 S0 K r) Q := by
 have hrun:(execOp a.eval o).run P w= .ok (.enter f ((args.toList.map a.eval++caps)).toArray) w:=by
  unfold execOp
  simp only[ho,resolve,Deferred.ofValue,hv,Sem.run_bind,Sem.run_pure,Result.andThen_ok,invoke]
  have:(#[]++args.map a.eval++caps.toArray:Array Value)=(args.toList.map a.eval++caps).toArray:=by apply Array.ext';simp
  rw[this]
  exact hE.enter _ w
 unfold Oper.wp
 rw[hrun,Oper.upon_enter]
 refine (hE.calls o.dst (args.toList.map st.ev++l.map fun x=> .sv (.at x)) (args.toList.map a.eval++caps) h (by simp[hl.1]) (fun j x u hx hu=> ?_) hk).mono fun e w' he=> ?_
 ·rw [List.getElem?_append] at hx hu
  simp only[List.length_map]at hx hu
  split at hx
  ·rename_i hj
   rw[if_pos hj]at hu
   rw[List.getElem?_map]at hx hu
   obtain ⟨y,hy,rfl⟩:=Option.map_eq_some_iff.1 hx
   rw[hy]at hu
   injection hu with hu
   subst hu
   exact h.ev y
  ·rename_i hj
   rw[if_neg hj]at hu
   rw[List.getElem?_map]at hx
   obtain ⟨y,hy,rfl⟩:=Option.map_eq_some_iff.1 hx
   have h1:=hl.2 _ y u hy hu
   refine ⟨h1,?_⟩
   cases hun:y.isUn with
   |true=>left;cases y<;>first|rfl|cases hun
   |false=>right;exact (h1.oneCell hun).2
 ·cases e with
  |returned v=>exact he
  |panicked c=>exact False.elim he
  |outgrown=>exact False.elim he
end
end
section
section
variable {P:Program} {w w1 w0:World} {S0:Own} {st:St} {μ:List ORec} {a:Act} {t:TypeId} {o:Oper} {β:Type} {K:St→Option β} {r:β} {Q:Exit→Act→World→Prop}
end
end
end Go.Proofs.YtmhfhiofcoggbaaGreat.Vs
