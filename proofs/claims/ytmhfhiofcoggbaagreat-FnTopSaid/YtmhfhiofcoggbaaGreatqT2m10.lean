/- The proof, part 11. -/
import Derived.Test.YtmhfhiofcoggbaaGreatqT2m9
set_option maxRecDepth 100000
set_option maxHeartbeats 2000000
set_option linter.unusedVariables false
set_option linter.unusedSimpArgs false
namespace Go.Proofs.YtmhfhiofcoggbaaGreat.Vs
open Go.RowKit
section
noncomputable section
noncomputable def Z7o:List PK:=[PK.mk (.pair I6 (.pair I6 (.slice 76 P6))) true none false none,PK.mk .bool false none false none]
noncomputable def ZlT:List PK:=[PK.mk (.pair I6 (.pair I6 (.pair (.slice 76 P6) (.pair (.slice 3 I6) (.slice 3 I6))))) true none false none]
noncomputable def Zlq(r:(Int×Int×List (Int×Int))×Bool):Tup Z7o×OutD:=((r.1,r.2,()),none)
noncomputable def ZlH:Tup Z7o×OutD→Option ((Int×Int×List (Int×Int))×Bool)
 |(a,none)=>some (a.1,a.2.1)
 |_=>none
theorem Zt0: ∀b r,ZlH b=some r→Zlq r=b:=by
 rintro ⟨a,_|_⟩ r h<;>cases h;rfl
noncomputable def Zbn:Nat→Int×Int×List (Int×Int)×List Int×List Int→Option ((Int×Int×List (Int×Int))×Bool)
 |0,_=>none
 |k+1,p0=>
  Option.bind (Zgr k (p0.1,p0.2.1,p0.2.2.1,p0.2.2.2.1,p0.2.2.2.2)) fun z0=>if (!z0)=true then some (((0:Int),(0:Int),[]),false) else Option.bind (Zfa k (p0.1,p0.2.1,p0.2.2.1,p0.2.2.2.1,p0.2.2.2.2)) fun z1=>if decide (z1.2.2<0)=true then some (((0:Int),(0:Int),[]),false) else Option.bind (Zi k (p0.1,p0.2.1,p0.2.2.1,p0.2.2.2.1,p0.2.2.2.2) z1.2.2) fun z2=>some ((z2.1,z2.2.1,z2.2.2),true)
noncomputable def Z2C:FnDef:= .of ZlT Z7o ((Int×Int×List (Int×Int))×Bool) (fun k x=>Zbn k x.1) Zlq ZlH Zt0
noncomputable def Zga:Code:=Tryz.f13.body.getD .skip
noncomputable def Zbz:Ctx (Tup Z7o×OutD):={T:=T,G:=[(45,Z6f.E),(46,Z5c.E),(47,Z3V.E)],mvs:=[],no:=0,n:=23,res:=resOf T ZlT Z7o Tryz.f13.results.toList,loops:=[],regs:=[],conds:=[],cuts:=[]}
theorem ZAV(k:Nat):EnvOK Tryz.prog k Zbz.G:=(EnvOK.cons (ZBB k) (EnvOK.cons (Zye k) (EnvOK.cons (Zo4 k) (EnvOK.nil mixed))))
theorem ZAS(k:Nat)(x:Tup Z2C.ps):Z2C.f (k+1) x=fnK Z2C Zbz Zga k x:=by kernel_rfl
theorem ZAy(x:Tup Z2C.ps):Z2C.f 0 x=none:=by kernel_rfl
theorem ZA1(k:Nat):LOK Tryz.prog Zbz k Zga:=LOK.by [] (by kernel_rfl) AllOK.nil
theorem ZAc(k:Nat):SoundAt Tryz.prog k 13 Z2C.E:= @Z5 Tryz.prog Z2C Zbz 13 Tryz.f13 Zga (by kernel_rfl) (by kernel_rfl) (by kernel_rfl) Tryz.func13 (by kernel_rfl) (by kernel_rfl) (by kernel_rfl) T_ok ZAV ZA1 ZAy ZAS k
noncomputable def Z65:List PK:=[PK.mk (.slice 3 I6) false none false none,PK.mk .bool false none false none]
noncomputable def ZjW:List PK:=[PK.mk (.pair I6 (.pair I6 (.pair (.slice 76 P6) (.pair (.slice 3 I6) (.slice 3 I6))))) true none false none]
noncomputable def Zjd(r:List Int×Bool):Tup Z65×OutD:=((r.1,r.2,()),none)
noncomputable def Zj8:Tup Z65×OutD→Option (List Int×Bool)
 |(a,none)=>some (a.1,a.2.1)
 |_=>none
theorem Zq2: ∀b r,Zj8 b=some r→Zjd r=b:=by
 rintro ⟨a,_|_⟩ r h<;>cases h;rfl
noncomputable def Z9q:Nat→Int×Int×List (Int×Int)×List Int×List Int→Option (List Int×Bool)
 |0,_=>none
 |k+1,p0=>
  Option.bind (Zgr k (p0.1,p0.2.1,p0.2.2.1,p0.2.2.2.1,p0.2.2.2.2)) fun z0=>if (!z0)=true then some ([],false) else Option.bind (Zfa k (p0.1,p0.2.1,p0.2.2.1,p0.2.2.2.1,p0.2.2.2.2)) fun z1=>some (z1.1,true)
noncomputable def Z1S:FnDef:= .of ZjW Z65 (List Int×Bool) (fun k x=>Z9q k x.1) Zjd Zj8 Zq2
noncomputable def Ze6:Code:=Tryz.f16.body.getD .skip
noncomputable def Z9s:Ctx (Tup Z65×OutD):={T:=T,G:=[(45,Z6f.E),(46,Z5c.E)],mvs:=[],no:=0,n:=17,res:=resOf T ZjW Z65 Tryz.f16.results.toList,loops:=[],regs:=[],conds:=[],cuts:=[]}
theorem ZwR(k:Nat):EnvOK Tryz.prog k Z9s.G:=(EnvOK.cons (ZBB k) (EnvOK.cons (Zye k) (EnvOK.nil mixed)))
theorem Zwy(k:Nat)(x:Tup Z1S.ps):Z1S.f (k+1) x=fnK Z1S Z9s Ze6 k x:=by kernel_rfl
theorem ZwT(x:Tup Z1S.ps):Z1S.f 0 x=none:=by kernel_rfl
theorem Zwp(k:Nat):LOK Tryz.prog Z9s k Ze6:=LOK.by [] (by kernel_rfl) AllOK.nil
theorem Zwn(k:Nat):SoundAt Tryz.prog k 16 Z1S.E:= @Z5 Tryz.prog Z1S Z9s 16 Tryz.f16 Ze6 (by kernel_rfl) (by kernel_rfl) (by kernel_rfl) Tryz.func16 (by kernel_rfl) (by kernel_rfl) (by kernel_rfl) T_ok ZwR Zwp ZwT Zwy k
noncomputable def Z8s:List PK:=[PK.mk (.slice 58 T6) false none false none,PK.mk .bool false none false none]
noncomputable def ZnH:List PK:=[PK.mk (.pair I6 (.pair I6 (.slice 76 P6))) true none false none,PK.mk (.slice 3 I6) false none false none,PK.mk (.slice 40 T6) false none false none]
noncomputable def Zmv(r:List (Int×Int×Int)×Bool):Tup Z8s×OutD:=((r.1,r.2,()),none)
noncomputable def Znb:Tup Z8s×OutD→Option (List (Int×Int×Int)×Bool)
 |(a,none)=>some (a.1,a.2.1)
 |_=>none
theorem Zui: ∀b r,Znb b=some r→Zmv r=b:=by
 rintro ⟨a,_|_⟩ r h<;>cases h;rfl
noncomputable def ZcE:Nat→Int×Int×List (Int×Int)→List Int→List (Int×Int×Int)→Option (List (Int×Int×Int)×Bool)
 |0,_,_,_=>none
 |k+1,p0,p1,p2=>
  Option.bind (ZgC k (p0.1,p0.2.1,p0.2.2) p1 p2) fun z0=>if (!z0)=true then some ([],false) else Option.bind (ZcI k (p0.1,p0.2.1,p0.2.2) p1 p2) fun z1=>some (z1,true)
noncomputable def Z2V:FnDef:= .of ZnH Z8s (List (Int×Int×Int)×Bool) (fun k x=>ZcE k x.1 x.2.1 x.2.2.1) Zmv Znb Zui
noncomputable def Zh2:Code:=Tryz.f21.body.getD .skip
noncomputable def ZcG:Ctx (Tup Z8s×OutD):={T:=T,G:=[(52,Z6e.E),(53,Z2U.E)],mvs:=[],no:=0,n:=17,res:=resOf T ZnH Z8s Tryz.f21.results.toList,loops:=[],regs:=[],conds:=[],cuts:=[]}
theorem ZCu(k:Nat):EnvOK Tryz.prog k ZcG.G:=(EnvOK.cons (ZBa k) (EnvOK.cons (ZDz k) (EnvOK.nil mixed)))
theorem ZDV(k:Nat)(x:Tup Z2V.ps):Z2V.f (k+1) x=fnK Z2V ZcG Zh2 k x:=by kernel_rfl
theorem ZDv(x:Tup Z2V.ps):Z2V.f 0 x=none:=by kernel_rfl
theorem ZDF(k:Nat):LOK Tryz.prog ZcG k Zh2:=LOK.by [] (by kernel_rfl) AllOK.nil
theorem ZCz(k:Nat):SoundAt Tryz.prog k 21 Z2V.E:= @Z5 Tryz.prog Z2V ZcG 21 Tryz.f21 Zh2 (by kernel_rfl) (by kernel_rfl) (by kernel_rfl) Tryz.func21 (by kernel_rfl) (by kernel_rfl) (by kernel_rfl) T_ok ZCu ZDF ZDv ZDV k
noncomputable def Z8x:List PK:=[PK.mk (.slice 58 T6) false none false none,PK.mk .bool false none false none]
noncomputable def ZnP:List PK:=[PK.mk (.pair I6 (.pair I6 (.slice 76 P6))) true none false none,PK.mk (.slice 3 I6) false none false none,PK.mk (.slice 40 T6) false none false none]
noncomputable def ZlP(r:List (Int×Int×Int)×Bool):Tup Z8x×OutD:=((r.1,r.2,()),none)
noncomputable def Zn1:Tup Z8x×OutD→Option (List (Int×Int×Int)×Bool)
 |(a,none)=>some (a.1,a.2.1)
 |_=>none
theorem Zuk: ∀b r,Zn1 b=some r→ZlP r=b:=by
 rintro ⟨a,_|_⟩ r h<;>cases h;rfl
noncomputable def ZcD:Nat→Int×Int×List (Int×Int)→List Int→List (Int×Int×Int)→Option (List (Int×Int×Int)×Bool)
 |0,_,_,_=>none
 |k+1,p0,p1,p2=>
  Option.bind (Zkd k (p0.1,p0.2.1,p0.2.2) p1 p2) fun z0=>if (!z0)=true then some ([],false) else Option.bind (Zhf k (p0.1,p0.2.1,p0.2.2) p1 p2) fun z1=>some (z1,true)
noncomputable def Z2S:FnDef:= .of ZnP Z8x (List (Int×Int×Int)×Bool) (fun k x=>ZcD k x.1 x.2.1 x.2.2.1) ZlP Zn1 Zuk
noncomputable def ZgY:Code:=Tryz.f22.body.getD .skip
noncomputable def ZcF:Ctx (Tup Z8x×OutD):={T:=T,G:=[(54,Z7X.E),(55,Z5I.E)],mvs:=[],no:=0,n:=17,res:=resOf T ZnP Z8x Tryz.f22.results.toList,loops:=[],regs:=[],conds:=[],cuts:=[]}
theorem ZDJ(k:Nat):EnvOK Tryz.prog k ZcF.G:=(EnvOK.cons (ZQT k) (EnvOK.cons (ZMh k) (EnvOK.nil mixed)))
theorem ZDH(k:Nat)(x:Tup Z2S.ps):Z2S.f (k+1) x=fnK Z2S ZcF ZgY k x:=by kernel_rfl
theorem ZCD(x:Tup Z2S.ps):Z2S.f 0 x=none:=by kernel_rfl
theorem ZDa(k:Nat):LOK Tryz.prog ZcF k ZgY:=LOK.by [] (by kernel_rfl) AllOK.nil
theorem ZCn(k:Nat):SoundAt Tryz.prog k 22 Z2S.E:= @Z5 Tryz.prog Z2S ZcF 22 Tryz.f22 ZgY (by kernel_rfl) (by kernel_rfl) (by kernel_rfl) Tryz.func22 (by kernel_rfl) (by kernel_rfl) (by kernel_rfl) T_ok ZDJ ZDa ZCD ZDH k
noncomputable def Z6E:List PK:=[PK.mk (.slice 3 I6) false none false none]
noncomputable def Zpv:List PK:=[PK.mk (.pair I6 (.pair I6 (.slice 76 P6))) true none false none,PK.mk I6 false none false none]
noncomputable def ZnR(r:List Int):Tup Z6E×OutD:=((r,()),none)
noncomputable def ZnK:Tup Z6E×OutD→Option (List Int)
 |(a,none)=>some (a.1)
 |_=>none
theorem ZvW: ∀b r,ZnK b=some r→ZnR r=b:=by
 rintro ⟨a,_|_⟩ r h<;>cases h;rfl
noncomputable def Z54:Nat→Int→Int→List (Int×Int)→List Int→Int→Int→Option (List Int)
 |0,_,_,_,_,_,_=>none
 |k+1,b1_0,b1_1,b1_2,o2,v1,v6=>
  if decide (v6<b1_1)=true then Option.bind (ZcU k (b1_0,b1_1,b1_2) v1 v6) fun z0=>if List.length o2+List.length [z0]≤(140737488355328/8:Nat) then Z54 k b1_0 b1_1 b1_2 (o2++[z0]) v1 (wrap64 (v6+1)) else none else some o2
noncomputable def Zfd:Spec:=Spec.mk [.ro,O2,O1] [(1,.at (.int .i64)),(2,.at (.ptr 1 0)),(5,.at (.sl 2)),(6,.at (.int .i64))]
noncomputable def ZxF:Spec:=Spec.mk [.ro,O1] [(5,.at (.sl 1))]
noncomputable def Z4E:LoopDef (Tup Z6E×OutD):= .plain Zfd ZxF (List Int) (fun k x=>Z54 k x.1.2.1.1 x.1.2.1.2.1 x.1.2.1.2.2.1 x.1.2.2.1 x.2.1 x.2.2.2.2.1) (fun z=>(((),z,()),((),()))) (fun y=>(y.1.2.1)) (fun _=>rfl)
noncomputable def Za1:Nat→Int×Int×List (Int×Int)→Int→Option (List Int)
 |0,_,_=>none
 |k+1,p0,p1=>
  Option.bind (Z54 k p0.1 p0.2.1 p0.2.2 [] p1 (0:Int)) fun z1=>some z1
noncomputable def Z2A:FnDef:= .of Zpv Z6E (List Int) (fun k x=>Za1 k x.1 x.2.1) ZnR ZnK ZvW
noncomputable def ZdX:Code:=Tryz.f37.body.getD .skip
noncomputable def Z4Q:Ctx (Tup Z6E×OutD):={T:=T,G:=[(68,Z32.E)],mvs:=[],no:=0,n:=22,res:=resOf T Zpv Z6E Tryz.f37.results.toList,loops:=[(0,Z4E.E)],regs:=[],conds:=[],cuts:=[]}
theorem Zpq(k:Nat):EnvOK Tryz.prog k Z4Q.G:=(EnvOK.cons (ZCq k) (EnvOK.nil mixed))
noncomputable def Zax:Code:=(findLoop 0 ZdX).getD .skip
theorem ZyV(k:Nat)(x:Zfd.D):Z4E.lp (k+1) x=loopK Z4Q Z4E 0 Zax k x:=by kernel_rfl
theorem Zzj(k:Nat):LOK Tryz.prog Z4Q k Zax:=LOK.by [] (by kernel_rfl) AllOK.nil
theorem Zz2(x:Zfd.D):Z4E.lp 0 x=none:=by kernel_rfl
theorem ZwA(k:Nat):EOK Tryz.prog Z4Q k Z4E.E (.block 0 (.loop Zax)):=Zd T_ok Zpq Zz2 ZyV Zzj k
theorem ZEt(k:Nat)(x:Tup Z2A.ps):Z2A.f (k+1) x=fnK Z2A Z4Q ZdX k x:=by kernel_rfl
theorem ZEO(x:Tup Z2A.ps):Z2A.f 0 x=none:=by kernel_rfl
theorem ZDZ(k:Nat):LOK Tryz.prog Z4Q k ZdX:=LOK.by [(Z4E.E,.block 0 (.loop Zax))] (by kernel_rfl) (AllOK.cons (ZwA k) AllOK.nil)
theorem Zp4(k:Nat):SoundAt Tryz.prog k 37 Z2A.E:= @Z5 Tryz.prog Z2A Z4Q 37 Tryz.f37 ZdX (by kernel_rfl) (by kernel_rfl) (by kernel_rfl) Tryz.func37 (by kernel_rfl) (by kernel_rfl) (by kernel_rfl) T_ok Zpq ZDZ ZEO ZEt k
noncomputable def Z5r:List PK:=[PK.mk (.pair I6 (.slice 3 I6)) true none false none]
noncomputable def Zjj:List PK:=[PK.mk (.pair (.slice 5 (.int .u8)) (.pair I6 (.int .u64))) false none false (some 105)]
noncomputable def Zi3(r:(Int×List Int)×Int×Int):Tup Z5r×OutD:=((r.1,()),some ⟨Ty.pair (Ty.slice (5:Nat) (Ty.int .u8)) (Ty.pair (Ty.int .i64) (Ty.int .u64)),[([],r.2)]⟩)
noncomputable def Zct:Tup Z5r×OutD→Option ((Int×List Int)×Int×Int)
 |(a,some ⟨u,ys⟩)=>if h:u=Ty.pair (Ty.slice (5:Nat) (Ty.int .u8)) (Ty.pair (Ty.int .i64) (Ty.int .u64)) then (match castU h ys with
  |[([],y)]=>some (a.1,y)
  |_=>none) else none
 |_=>none
theorem Zpd: ∀b r,Zct b=some r→Zi3 r=b:=by
 rintro ⟨a,o⟩ r h
 cases o with
 |none=>cases h
 |some s=>
  obtain ⟨u,ys⟩:=s
  simp only[Zct]at h
  split at h
  ·rename_i hu
   subst hu
   match ys,h with
   |[],h=>cases (show (none:Option _)=some r from h)
   |[([],y)],h=>injection (show some _=some r from h) with h;subst h;rfl
   |[(_::_,y)],h=>cases (show (none:Option _)=some r from h)
   |(h1,_)::_::_,h=>cases h1<;>cases (show (none:Option _)=some r from h)
  ·cases h
noncomputable def Z86:Nat→List Int×Int×Int→Option ((Int×List Int)×Int×Int)
 |0,_=>none
 |k+1,p0=>
  Option.bind (ZK k (p0.1,p0.2.1,p0.2.2) (8:Int)) fun z0=>if z0.1=true then Option.bind (Zaw k (p0.1,z0.2.1,z0.2.2)) fun z1=>some ((z1.1.1,z1.1.2),z1.2.1,z1.2.2) else Option.bind (Zb k (p0.1,z0.2.1,z0.2.2) [(0:Int),(1:Int),(2:Int),(3:Int),(3:Int)]) fun z2=>Option.bind (Z7u k (p0.1,z2.2.1,z2.2.2) z2.1) fun z3=>some ((z3.1.1,z3.1.2),z3.2.1,z3.2.2)
noncomputable def Z1F:FnDef:= .of Zjj Z5r ((Int×List Int)×Int×Int) (fun k x=>Z86 k x.1) Zi3 Zct Zpd
noncomputable def Zd6:Code:=Tryz.f60.body.getD .skip
noncomputable def Z8b:Ctx (Tup Z5r×OutD):={T:=T,G:=[(95,ZZ.E),(96,Z2h.E),(98,Zp.E),(97,Z1N.E)],mvs:=[],no:=2,n:=12,res:=resOf T Zjj Z5r Tryz.f60.results.toList,loops:=[],regs:=[],conds:=[],cuts:=[]}
theorem ZtO(k:Nat):EnvOK Tryz.prog k Z8b.G:=(EnvOK.cons (Z6n k) (EnvOK.cons (Zzc k) (EnvOK.cons (Z1T k) (EnvOK.cons (Zm0 k) (EnvOK.nil mixed)))))
theorem Zu2(k:Nat)(x:Tup Z1F.ps):Z1F.f (k+1) x=fnK Z1F Z8b Zd6 k x:=by kernel_rfl
theorem Zud(x:Tup Z1F.ps):Z1F.f 0 x=none:=by kernel_rfl
theorem Zuo(k:Nat):LOK Tryz.prog Z8b k Zd6:=LOK.by [] (by kernel_rfl) AllOK.nil
theorem Zuj(k:Nat):SoundAt Tryz.prog k 60 Z1F.E:= @Z5 Tryz.prog Z1F Z8b 60 Tryz.f60 Zd6 (by kernel_rfl) (by kernel_rfl) (by kernel_rfl) Tryz.func60 (by kernel_rfl) (by kernel_rfl) (by kernel_rfl) T_ok ZtO Zuo Zud Zu2 k
noncomputable def Z63:List PK:=[PK.mk (.pair I6 (.pair I6 (.pair (.slice 76 P6) (.pair (.slice 3 I6) (.slice 3 I6))))) true none false none]
noncomputable def Zk2:List PK:=[PK.mk (.slice 5 (.int .u8)) false none false none]
noncomputable def Zjl(r:Int×Int×List (Int×Int)×List Int×List Int):Tup Z63×OutD:=((r,()),none)
noncomputable def Zjm:Tup Z63×OutD→Option (Int×Int×List (Int×Int)×List Int×List Int)
 |(a,none)=>some (a.1)
 |_=>none
theorem ZpO: ∀b r,Zjm b=some r→Zjl r=b:=by
 rintro ⟨a,_|_⟩ r h<;>cases h;rfl
noncomputable def Ze3:Nat→List Int→Option (Int×Int×List (Int×Int)×List Int×List Int)
 |0,_=>none
 |k+1,p0=>
  Option.bind (Z6T k (p0,(0:Int),(0:Int))) fun z0=>some (z0.1.1,z0.1.2.1,z0.1.2.2.1,z0.1.2.2.2.1,z0.1.2.2.2.2)
noncomputable def Z1V:FnDef:= .of Zk2 Z63 (Int×Int×List (Int×Int)×List Int×List Int) (fun k x=>Ze3 k x.1) Zjl Zjm ZpO
noncomputable def Zei:Code:=Tryz.f61.body.getD .skip
noncomputable def Z9O:Ctx (Tup Z63×OutD):={T:=T,G:=[(99,Z1j.E)],mvs:=[],no:=0,n:=9,res:=resOf T Zk2 Z63 Tryz.f61.results.toList,loops:=[],regs:=[],conds:=[],cuts:=[]}
theorem Zxn(k:Nat):EnvOK Tryz.prog k Z9O.G:=(EnvOK.cons (Zrt k) (EnvOK.nil mixed))
theorem ZwG(k:Nat)(x:Tup Z1V.ps):Z1V.f (k+1) x=fnK Z1V Z9O Zei k x:=by kernel_rfl
theorem ZwV(x:Tup Z1V.ps):Z1V.f 0 x=none:=by kernel_rfl
theorem ZvN(k:Nat):LOK Tryz.prog Z9O k Zei:=LOK.by [] (by kernel_rfl) AllOK.nil
theorem Zwr(k:Nat):SoundAt Tryz.prog k 61 Z1V.E:= @Z5 Tryz.prog Z1V Z9O 61 Tryz.f61 Zei (by kernel_rfl) (by kernel_rfl) (by kernel_rfl) Tryz.func61 (by kernel_rfl) (by kernel_rfl) (by kernel_rfl) T_ok Zxn ZvN ZwV ZwG k
noncomputable def ZR:List PK:=[PK.mk (.pair I6 (.pair I6 (.slice 76 P6))) true none false none,PK.mk (.slice 3 I6) false none false none,PK.mk (.slice 40 T6) false none false none]
noncomputable def Zno:List PK:=[PK.mk (.pair (.slice 5 (.int .u8)) (.pair I6 (.int .u64))) false none false (some 105)]
noncomputable def Z7t(r:(Int×Int×List (Int×Int))×List Int×List (Int×Int×Int)×Int×Int):Tup ZR×OutD:=((r.1,r.2.1,r.2.2.1,()),some ⟨Ty.pair (Ty.slice (5:Nat) (Ty.int .u8)) (Ty.pair (Ty.int .i64) (Ty.int .u64)),[([],r.2.2.2)]⟩)
noncomputable def Z5h:Tup ZR×OutD→Option ((Int×Int×List (Int×Int))×List Int×List (Int×Int×Int)×Int×Int)
 |(a,some ⟨u,ys⟩)=>if h:u=Ty.pair (Ty.slice (5:Nat) (Ty.int .u8)) (Ty.pair (Ty.int .i64) (Ty.int .u64)) then (match castU h ys with
  |[([],y)]=>some (a.1,a.2.1,a.2.2.1,y)
  |_=>none) else none
 |_=>none
theorem Z89: ∀b r,Z5h b=some r→Z7t r=b:=by
 rintro ⟨a,o⟩ r h
 cases o with
 |none=>cases h
 |some s=>
  obtain ⟨u,ys⟩:=s
  simp only[Z5h]at h
  split at h
  ·rename_i hu
   subst hu
   match ys,h with
   |[],h=>cases (show (none:Option _)=some r from h)
   |[([],y)],h=>injection (show some _=some r from h) with h;subst h;rfl
   |[(_::_,y)],h=>cases (show (none:Option _)=some r from h)
   |(h1,_)::_::_,h=>cases h1<;>cases (show (none:Option _)=some r from h)
  ·cases h
noncomputable def ZcX:Nat→Int→Int→List Int→Int→Int→List (Int×Int)→Int→Int→List (Int×Int)→Int→Bool→Option (Int×Int×List Int×Int×Int×List (Int×Int)×Int×Int×List (Int×Int)):=fun k b1_1 b1_2 o2 b3_0 b3_1 o4 b5_0 b5_1 o6 v24 v25=>
  if v25=true then Option.bind (ZO k (o2,b1_1,b1_2)) fun z4=>some (z4.2.1,z4.2.2,o2,b3_0,b3_1,o4,z4.1.1,z4.1.2.1,z4.1.2.2) else if decide (v24=1)=true then Option.bind (Z1 k (o2,b1_1,b1_2) (2:Int)) fun z5=>Option.bind (Z2B k (o2,z5.2.1,z5.2.2) (wrap64 ((4:Int)+z5.1)) (6:Int)) fun z6=>some (z6.2.1,z6.2.2,o2,b3_0,b3_1,o4,z6.1.1,z6.1.2.1,z6.1.2.2) else some (b1_1,b1_2,o2,b3_0,b3_1,o4,b5_0,b5_1,o6)
noncomputable def Zt8:Spec:=Spec.mk [.ro,O3,Oc,O6,O0,O7,O0] [(0,.at (.ptr 1 0)),(2,.at (.ptr 3 0)),(5,.at (.ptr 5 0)),(24,.at (.int .i64)),(25,.at .bool)]
noncomputable def Zsi:Spec:=Spec.mk [.ro,O3,Oc,O6,O0,O7,O0] [(0,.at (.ptr 1 0)),(2,.at (.ptr 3 0)),(5,.at (.ptr 5 0))]
noncomputable def Zx:LoopDef (Tup ZR×OutD):= .plain Zt8 Zsi (Int×Int×List Int×Int×Int×List (Int×Int)×Int×Int×List (Int×Int)) (fun k x=>ZcX k x.1.2.1.2.1 x.1.2.1.2.2.1 x.1.2.2.1 x.1.2.2.2.1.1 x.1.2.2.2.1.2.1 x.1.2.2.2.2.1 x.1.2.2.2.2.2.1.1 x.1.2.2.2.2.2.1.2.1 x.1.2.2.2.2.2.2.1 x.2.2.2.2.1 x.2.2.2.2.2.1) (fun z=>(((),((),z.1,z.2.1,()),z.2.2.1,(z.2.2.2.1,z.2.2.2.2.1,(),()),z.2.2.2.2.2.1,(z.2.2.2.2.2.2.1,z.2.2.2.2.2.2.2.1,(),()),z.2.2.2.2.2.2.2.2,()),((),(),(),()))) (fun y=>(y.1.2.1.2.1,y.1.2.1.2.2.1,y.1.2.2.1,y.1.2.2.2.1.1,y.1.2.2.2.1.2.1,y.1.2.2.2.2.1,y.1.2.2.2.2.2.1.1,y.1.2.2.2.2.2.1.2.1,y.1.2.2.2.2.2.2.1)) (fun _=>rfl)
noncomputable def Zd7:Nat→Int→Int→List Int→Int→Int→List (Int×Int)→Int→Int→List (Int×Int)→List Int→Int→Bool→Option (Int×Int×List Int×Int×Int×List (Int×Int)×Int×Int×List (Int×Int)×List Int×Int):=fun k b1_1 b1_2 o2 b3_0 b3_1 o4 b5_0 b5_1 o6 o7 v7 v44=>
  if v44=true then Option.bind (Z1 k (o2,b1_1,b1_2) (2:Int)) fun z11=>some (z11.2.1,z11.2.2,o2,b3_0,b3_1,o4,b5_0,b5_1,o6,o7,wrap64 ((20:Int)+z11.1)) else some (b1_1,b1_2,o2,b3_0,b3_1,o4,b5_0,b5_1,o6,o7,v7)
noncomputable def Zsk:Spec:=Spec.mk [.ro,O3,Oc,O6,O0,O7,O0,O1] [(0,.at (.ptr 1 0)),(2,.at (.ptr 3 0)),(5,.at (.ptr 5 0)),(6,.at (.sl 7)),(7,.at (.int .i64)),(44,.at .bool)]
noncomputable def Zsu:Spec:=Spec.mk [.ro,O3,Oc,O6,O0,O7,O0,O1] [(0,.at (.ptr 1 0)),(2,.at (.ptr 3 0)),(5,.at (.ptr 5 0)),(6,.at (.sl 7)),(7,.at (.int .i64))]
noncomputable def Zy:LoopDef (Tup ZR×OutD):= .plain Zsk Zsu (Int×Int×List Int×Int×Int×List (Int×Int)×Int×Int×List (Int×Int)×List Int×Int) (fun k x=>Zd7 k x.1.2.1.2.1 x.1.2.1.2.2.1 x.1.2.2.1 x.1.2.2.2.1.1 x.1.2.2.2.1.2.1 x.1.2.2.2.2.1 x.1.2.2.2.2.2.1.1 x.1.2.2.2.2.2.1.2.1 x.1.2.2.2.2.2.2.1 x.1.2.2.2.2.2.2.2.1 x.2.2.2.2.2.1 x.2.2.2.2.2.2.1) (fun z=>(((),((),z.1,z.2.1,()),z.2.2.1,(z.2.2.2.1,z.2.2.2.2.1,(),()),z.2.2.2.2.2.1,(z.2.2.2.2.2.2.1,z.2.2.2.2.2.2.2.1,(),()),z.2.2.2.2.2.2.2.2.1,z.2.2.2.2.2.2.2.2.2.1,()),((),(),(),(),z.2.2.2.2.2.2.2.2.2.2,()))) (fun y=>(y.1.2.1.2.1,y.1.2.1.2.2.1,y.1.2.2.1,y.1.2.2.2.1.1,y.1.2.2.2.1.2.1,y.1.2.2.2.2.1,y.1.2.2.2.2.2.1.1,y.1.2.2.2.2.2.1.2.1,y.1.2.2.2.2.2.2.1,y.1.2.2.2.2.2.2.2.1,y.2.2.2.2.2.1)) (fun _=>rfl)
noncomputable def Z4C:Nat→Int→Int→List Int→Int→Int→List (Int×Int)→Int→Int→List (Int×Int)→List Int→Int→Option (Int×Int×List Int×Int×Int×List (Int×Int)×Int×Int×List (Int×Int)×List Int)
 |0,_,_,_,_,_,_,_,_,_,_,_=>none
 |k+1,b1_1,b1_2,o2,b3_0,b3_1,o4,b5_0,b5_1,o6,o7,v7=>
  if decide ((↑(List.length o7):Int)<v7)=true then Option.bind (Z1 k (o2,b1_1,b1_2) b5_1) fun z13=>if List.length o7+List.length [z13.1]≤(140737488355328/8:Nat) then Z4C k z13.2.1 z13.2.2 o2 b3_0 b3_1 o4 b5_0 b5_1 o6 (o7++[z13.1]) v7 else none else some (b1_1,b1_2,o2,b3_0,b3_1,o4,b5_0,b5_1,o6,o7)
noncomputable def Zem:Spec:=Spec.mk [.ro,O3,Oc,O6,O0,O7,O0,O1] [(0,.at (.ptr 1 0)),(2,.at (.ptr 3 0)),(5,.at (.ptr 5 0)),(6,.at (.sl 7)),(7,.at (.int .i64))]
noncomputable def ZwY:Spec:=Spec.mk [.ro,O3,Oc,O6,O0,O7,O0,O1] [(0,.at (.ptr 1 0)),(2,.at (.ptr 3 0)),(5,.at (.ptr 5 0)),(6,.at (.sl 7))]
noncomputable def Z44:LoopDef (Tup ZR×OutD):= .plain Zem ZwY (Int×Int×List Int×Int×Int×List (Int×Int)×Int×Int×List (Int×Int)×List Int) (fun k x=>Z4C k x.1.2.1.2.1 x.1.2.1.2.2.1 x.1.2.2.1 x.1.2.2.2.1.1 x.1.2.2.2.1.2.1 x.1.2.2.2.2.1 x.1.2.2.2.2.2.1.1 x.1.2.2.2.2.2.1.2.1 x.1.2.2.2.2.2.2.1 x.1.2.2.2.2.2.2.2.1 x.2.2.2.2.2.1) (fun z=>(((),((),z.1,z.2.1,()),z.2.2.1,(z.2.2.2.1,z.2.2.2.2.1,(),()),z.2.2.2.2.2.1,(z.2.2.2.2.2.2.1,z.2.2.2.2.2.2.2.1,(),()),z.2.2.2.2.2.2.2.2.1,z.2.2.2.2.2.2.2.2.2,()),((),(),(),(),()))) (fun y=>(y.1.2.1.2.1,y.1.2.1.2.2.1,y.1.2.2.1,y.1.2.2.2.1.1,y.1.2.2.2.1.2.1,y.1.2.2.2.2.1,y.1.2.2.2.2.2.1.1,y.1.2.2.2.2.2.1.2.1,y.1.2.2.2.2.2.2.1,y.1.2.2.2.2.2.2.2.1)) (fun _=>rfl)
noncomputable def ZD:Nat→Int→Int→List Int→Int→Int→List (Int×Int)→Int→Int→List (Int×Int)→List Int→List (Int×Int×Int)→Option ((Int×Int×List (Int×Int))×List Int×List (Int×Int×Int)×Int×Int):=fun k b1_1 b1_2 o2 b3_0 b3_1 o4 b5_0 b5_1 o6 o7 o8=>
  some ((b5_0,b5_1,o6),o7,o8,b1_1,b1_2)
noncomputable def Zt4:Spec:=Spec.mk [.ro,O3,Oc,O6,O0,O7,O0,O1,Om] [(2,.at (.ptr 3 0)),(5,.at (.ptr 5 0)),(6,.at (.sl 7)),(12,.at (.sl 8))]
noncomputable def ZV:LoopDef (Tup ZR×OutD):= .ends Zt4 ((Int×Int×List (Int×Int))×List Int×List (Int×Int×Int)×Int×Int) (fun k x=>ZD k x.1.2.1.2.1 x.1.2.1.2.2.1 x.1.2.2.1 x.1.2.2.2.1.1 x.1.2.2.2.1.2.1 x.1.2.2.2.2.1 x.1.2.2.2.2.2.1.1 x.1.2.2.2.2.2.1.2.1 x.1.2.2.2.2.2.2.1 x.1.2.2.2.2.2.2.2.1 x.1.2.2.2.2.2.2.2.2.1) Z7t Z5h Z89
noncomputable def Z2n:Nat→Int→Int→List Int→Int→Int→List (Int×Int)→Int→Int→List (Int×Int)→List Int→List (Int×Int×Int)→Option ((Int×Int×List (Int×Int))×List Int×List (Int×Int×Int)×Int×Int):=fun k b1_1 b1_2 o2 b3_0 b3_1 o4 b5_0 b5_1 o6 o7 o8=>
  if decide ((↑(List.length o8):Int)>0)=true then Option.bind (Z1 k (o2,b1_1,b1_2) (↑(List.length o8):Int)) fun z18=>if (0:Int)≤z18.1 then if z18.1<(↑(List.length o8):Int) then Option.bind (Z1 k (o2,z18.2.1,z18.2.2) (30:Int)) fun z19=>if decide (z19.1=0)=true then Option.bind (Zb k (o2,z19.2.1,z19.2.2) [(0:Int),(1:Int),(3:Int),(4:Int)]) fun z20=>Option.bind (ZD k z20.2.1 z20.2.2 o2 b3_0 b3_1 o4 b5_0 b5_1 o6 o7 (List.set o8 (Int.toNat z18.1) (z20.1,Prod.snd (List.getD o8 (Int.toNat z18.1) ((0:Int),(0:Int),(0:Int)))))) fun z21=>some z21 else if decide (z19.1=1)=true then Option.bind (Zb k (o2,z19.2.1,z19.2.2) [(-1:Int),(0:Int),b5_0,wrap64 (b5_0+1)]) fun z22=>Option.bind (ZD k z22.2.1 z22.2.2 o2 b3_0 b3_1 o4 b5_0 b5_1 o6 o7 (List.set o8 (Int.toNat z18.1) (Prod.fst (List.getD o8 (Int.toNat z18.1) ((0:Int),(0:Int),(0:Int))),z22.1,Prod.snd (Prod.snd (List.getD o8 (Int.toNat z18.1) ((0:Int),(0:Int),(0:Int))))))) fun z23=>some z23 else if decide (z19.1=2)=true then Option.bind (Zb k (o2,z19.2.1,z19.2.2) [(-2:Int),(-1:Int),b5_1,wrap64 (b5_1+1)]) fun z24=>Option.bind (ZD k z24.2.1 z24.2.2 o2 b3_0 b3_1 o4 b5_0 b5_1 o6 o7 (List.set o8 (Int.toNat z18.1) (Prod.fst (List.getD o8 (Int.toNat z18.1) ((0:Int),(0:Int),(0:Int))),Prod.fst (Prod.snd (List.getD o8 (Int.toNat z18.1) ((0:Int),(0:Int),(0:Int)))),z24.1))) fun z25=>some z25 else if decide (z19.1=3)=true then if (1:Int)≤(↑(List.length o8):Int) then if (↑(List.length o8):Int)≤(↑(List.length o8):Int) then Option.bind (ZD k z19.2.1 z19.2.2 o2 b3_0 b3_1 o4 b5_0 b5_1 o6 o7 (List.drop (Int.toNat (1:Int)) o8)) fun z26=>some z26 else none else none else if decide (z19.1=4)=true then Option.bind (Zb k (o2,z19.2.1,z19.2.2) [(-1:Int),b5_1]) fun z27=>if (0:Int)<(↑(List.length o7):Int) then Option.bind (ZD k z27.2.1 z27.2.2 o2 b3_0 b3_1 o4 b5_0 b5_1 o6 (List.set o7 (Int.toNat (0:Int)) z27.1) o8) fun z28=>some z28 else none else Option.bind (ZD k z19.2.1 z19.2.2 o2 b3_0 b3_1 o4 b5_0 b5_1 o6 o7 o8) fun z29=>some z29 else none else none else Option.bind (ZD k b1_1 b1_2 o2 b3_0 b3_1 o4 b5_0 b5_1 o6 o7 o8) fun z30=>some z30
noncomputable def Zsm:Spec:=Spec.mk [.ro,O3,Oc,O6,O0,O7,O0,O1,Om] [(0,.at (.ptr 1 0)),(2,.at (.ptr 3 0)),(5,.at (.ptr 5 0)),(6,.at (.sl 7)),(12,.at (.sl 8))]
noncomputable def ZW:LoopDef (Tup ZR×OutD):= .ends Zsm ((Int×Int×List (Int×Int))×List Int×List (Int×Int×Int)×Int×Int) (fun k x=>Z2n k x.1.2.1.2.1 x.1.2.1.2.2.1 x.1.2.2.1 x.1.2.2.2.1.1 x.1.2.2.2.1.2.1 x.1.2.2.2.2.1 x.1.2.2.2.2.2.1.1 x.1.2.2.2.2.2.1.2.1 x.1.2.2.2.2.2.2.1 x.1.2.2.2.2.2.2.2.1 x.1.2.2.2.2.2.2.2.2.1) Z7t Z5h Z89
noncomputable def Zd8:Nat→Int→Int→List Int→Int→Int→List (Int×Int)→Int→Int→List (Int×Int)→List Int→List (Int×Int×Int)→Option (Int×Int×List Int×Int×Int×List (Int×Int)×Int×Int×List (Int×Int)×List Int×Int×Int×Int×Int×Int×Int):=fun k b1_1 b1_2 o2 b3_0 b3_1 o4 b5_0 b5_1 o6 o7 o8=>
  Option.bind (Z1 k (o2,b1_1,b1_2) (↑(List.length o8):Int)) fun z32=>if (0:Int)≤z32.1 then if z32.1<(↑(List.length o8):Int) then Option.bind (Z1 k (o2,z32.2.1,z32.2.2) (↑(List.length o8):Int)) fun z33=>if (0:Int)≤z33.1 then if z33.1<(↑(List.length o8):Int) then some (z33.2.1,z33.2.2,o2,b3_0,b3_1,o4,b5_0,b5_1,o6,o7,Prod.fst (List.getD o8 (Int.toNat z32.1) ((0:Int),(0:Int),(0:Int))),Prod.fst (Prod.snd (List.getD o8 (Int.toNat z32.1) ((0:Int),(0:Int),(0:Int)))),Prod.snd (Prod.snd (List.getD o8 (Int.toNat z32.1) ((0:Int),(0:Int),(0:Int)))),Prod.fst (List.getD o8 (Int.toNat z33.1) ((0:Int),(0:Int),(0:Int))),Prod.fst (Prod.snd (List.getD o8 (Int.toNat z33.1) ((0:Int),(0:Int),(0:Int)))),Prod.snd (Prod.snd (List.getD o8 (Int.toNat z33.1) ((0:Int),(0:Int),(0:Int))))) else none else none else none else none
noncomputable def Zic:Spec:=Spec.mk [.ro,O3,Oc,O6,O0,O7,O0,O1,Og] [(0,.at (.ptr 1 0)),(2,.at (.ptr 3 0)),(5,.at (.ptr 5 0)),(6,.at (.sl 7)),(8,.at (.sl 8))]
noncomputable def Zsg:Spec:=Spec.mk [.ro,O3,Oc,O6,O0,O7,O0,O1,On,On] [(0,.at (.ptr 1 0)),(2,.at (.ptr 3 0)),(5,.at (.ptr 5 0)),(6,.at (.sl 7)),(10,.at (.ptr 8 0)),(11,.at (.ptr 9 0))]
noncomputable def Z2:LoopDef (Tup ZR×OutD):= .plain Zic Zsg (Int×Int×List Int×Int×Int×List (Int×Int)×Int×Int×List (Int×Int)×List Int×Int×Int×Int×Int×Int×Int) (fun k x=>Zd8 k x.1.2.1.2.1 x.1.2.1.2.2.1 x.1.2.2.1 x.1.2.2.2.1.1 x.1.2.2.2.1.2.1 x.1.2.2.2.2.1 x.1.2.2.2.2.2.1.1 x.1.2.2.2.2.2.1.2.1 x.1.2.2.2.2.2.2.1 x.1.2.2.2.2.2.2.2.1 x.1.2.2.2.2.2.2.2.2.1) (fun z=>(((),((),z.1,z.2.1,()),z.2.2.1,(z.2.2.2.1,z.2.2.2.2.1,(),()),z.2.2.2.2.2.1,(z.2.2.2.2.2.2.1,z.2.2.2.2.2.2.2.1,(),()),z.2.2.2.2.2.2.2.2.1,z.2.2.2.2.2.2.2.2.2.1,(z.2.2.2.2.2.2.2.2.2.2.1,z.2.2.2.2.2.2.2.2.2.2.2.1,z.2.2.2.2.2.2.2.2.2.2.2.2.1,()),(z.2.2.2.2.2.2.2.2.2.2.2.2.2.1,z.2.2.2.2.2.2.2.2.2.2.2.2.2.2.1,z.2.2.2.2.2.2.2.2.2.2.2.2.2.2.2,()),()),((),(),(),(),(),(),()))) (fun y=>(y.1.2.1.2.1,y.1.2.1.2.2.1,y.1.2.2.1,y.1.2.2.2.1.1,y.1.2.2.2.1.2.1,y.1.2.2.2.2.1,y.1.2.2.2.2.2.1.1,y.1.2.2.2.2.2.1.2.1,y.1.2.2.2.2.2.2.1,y.1.2.2.2.2.2.2.2.1,y.1.2.2.2.2.2.2.2.2.1.1,y.1.2.2.2.2.2.2.2.2.1.2.1,y.1.2.2.2.2.2.2.2.2.1.2.2.1,y.1.2.2.2.2.2.2.2.2.2.1.1,y.1.2.2.2.2.2.2.2.2.2.1.2.1,y.1.2.2.2.2.2.2.2.2.2.1.2.2.1)) (fun _=>rfl)
noncomputable def Zd0:Nat→Int→Int→List Int→Int→Int→List (Int×Int)→Int→Int→List (Int×Int)→List Int→Option ((Int×Int×List (Int×Int))×List Int×List (Int×Int×Int)×Int×Int):=fun k b1_1 b1_2 o2 b3_0 b3_1 o4 b5_0 b5_1 o6 o7=>
  Option.bind (Zbd k (b5_0,b5_1,o6)) fun z15=>Option.bind (Z1 k (o2,b1_1,b1_2) (4:Int)) fun z16=>if decide (z16.1=0)=true then Option.bind (Z9X k (b5_0,b5_1,o6) [] o7) fun z17=>Option.bind (Z2n k z16.2.1 z16.2.2 o2 b3_0 b3_1 o4 b5_0 b5_1 o6 o7 z17.1) fun z31=>some z31 else if decide (z16.1=1)=true then Option.bind (Zd8 k z16.2.1 z16.2.2 o2 b3_0 b3_1 o4 b5_0 b5_1 o6 o7 z15) fun z94=>Option.bind (Zkf k (z94.2.2.2.2.2.2.1,z94.2.2.2.2.2.2.2.1,z94.2.2.2.2.2.2.2.2.1) [(z94.2.2.2.2.2.2.2.2.2.2.1,z94.2.2.2.2.2.2.2.2.2.2.2.1,z94.2.2.2.2.2.2.2.2.2.2.2.2.1),(z94.2.2.2.2.2.2.2.2.2.2.2.2.2.1,z94.2.2.2.2.2.2.2.2.2.2.2.2.2.2.1,z94.2.2.2.2.2.2.2.2.2.2.2.2.2.2.2)]) fun z95=>if (!z95)=true then Option.bind (Z9X k (z94.2.2.2.2.2.2.1,z94.2.2.2.2.2.2.2.1,z94.2.2.2.2.2.2.2.2.1) [(z94.2.2.2.2.2.2.2.2.2.2.1,z94.2.2.2.2.2.2.2.2.2.2.2.1,z94.2.2.2.2.2.2.2.2.2.2.2.2.1)] z94.2.2.2.2.2.2.2.2.2.1) fun z96=>Option.bind (Z2n k z94.1 z94.2.1 z94.2.2.1 z94.2.2.2.1 z94.2.2.2.2.1 z94.2.2.2.2.2.1 z94.2.2.2.2.2.2.1 z94.2.2.2.2.2.2.2.1 z94.2.2.2.2.2.2.2.2.1 z94.2.2.2.2.2.2.2.2.2.1 z96.1) fun z97=>some z97 else Option.bind (Z9X k (z94.2.2.2.2.2.2.1,z94.2.2.2.2.2.2.2.1,z94.2.2.2.2.2.2.2.2.1) [(z94.2.2.2.2.2.2.2.2.2.2.1,z94.2.2.2.2.2.2.2.2.2.2.2.1,z94.2.2.2.2.2.2.2.2.2.2.2.2.1),(z94.2.2.2.2.2.2.2.2.2.2.2.2.2.1,z94.2.2.2.2.2.2.2.2.2.2.2.2.2.2.1,z94.2.2.2.2.2.2.2.2.2.2.2.2.2.2.2)] z94.2.2.2.2.2.2.2.2.2.1) fun z98=>Option.bind (Z2n k z94.1 z94.2.1 z94.2.2.1 z94.2.2.2.1 z94.2.2.2.2.1 z94.2.2.2.2.2.1 z94.2.2.2.2.2.2.1 z94.2.2.2.2.2.2.2.1 z94.2.2.2.2.2.2.2.2.1 z94.2.2.2.2.2.2.2.2.2.1 z98.1) fun z99=>some z99 else Option.bind (Z1 k (o2,z16.2.1,z16.2.2) (↑(List.length z15):Int)) fun z100=>if (0:Int)≤z100.1 then if z100.1<(↑(List.length z15):Int) then Option.bind (Z9X k (b5_0,b5_1,o6) [(Prod.fst (List.getD z15 (Int.toNat z100.1) ((0:Int),(0:Int),(0:Int))),Prod.fst (Prod.snd (List.getD z15 (Int.toNat z100.1) ((0:Int),(0:Int),(0:Int)))),Prod.snd (Prod.snd (List.getD z15 (Int.toNat z100.1) ((0:Int),(0:Int),(0:Int)))))] o7) fun z101=>Option.bind (Z2n k z100.2.1 z100.2.2 o2 b3_0 b3_1 o4 b5_0 b5_1 o6 o7 z101.1) fun z102=>some z102 else none else none
noncomputable def Ztv:Spec:=Spec.mk [.ro,O3,Oc,O6,O0,O7,O0,O1] [(0,.at (.ptr 1 0)),(2,.at (.ptr 3 0)),(5,.at (.ptr 5 0)),(6,.at (.sl 7))]
noncomputable def ZX:LoopDef (Tup ZR×OutD):= .ends Ztv ((Int×Int×List (Int×Int))×List Int×List (Int×Int×Int)×Int×Int) (fun k x=>Zd0 k x.1.2.1.2.1 x.1.2.1.2.2.1 x.1.2.2.1 x.1.2.2.2.1.1 x.1.2.2.2.1.2.1 x.1.2.2.2.2.1 x.1.2.2.2.2.2.1.1 x.1.2.2.2.2.2.1.2.1 x.1.2.2.2.2.2.2.1 x.1.2.2.2.2.2.2.2.1) Z7t Z5h Z89
noncomputable def ZcB:Nat→List Int×Int×Int→Option ((Int×Int×List (Int×Int))×List Int×List (Int×Int×Int)×Int×Int)
 |0,_=>none
 |k+1,p0=>
  Option.bind (Z1 k (p0.1,p0.2.1,p0.2.2) (4:Int)) fun z0=>Option.bind (Z1 k (p0.1,z0.2.1,z0.2.2) (4:Int)) fun z1=>Option.bind (Z2B k (p0.1,z1.2.1,z1.2.2) (wrap64 ((1:Int)+z0.1)) (wrap64 ((1:Int)+z1.1))) fun z2=>Option.bind (Z1 k (p0.1,z2.2.1,z2.2.2) (20:Int)) fun z3=>Option.bind (ZcX k z3.2.1 z3.2.2 p0.1 (0:Int) (0:Int) [] z2.1.1 z2.1.2.1 z2.1.2.2 z3.1 (decide (z3.1=0))) fun z7=>Option.bind (ZgJ k (z7.2.2.2.2.2.2.1,z7.2.2.2.2.2.2.2.1,z7.2.2.2.2.2.2.2.2)) fun z8=>if (!z8)=true then some ((z7.2.2.2.2.2.2.1,z7.2.2.2.2.2.2.2.1,z7.2.2.2.2.2.2.2.2),[],[],z7.1,z7.2.1) else Option.bind (Z1 k (z7.2.2.1,z7.1,z7.2.1) (6:Int)) fun z9=>Option.bind (ZK k (z7.2.2.1,z9.2.1,z9.2.2) (20:Int)) fun z10=>Option.bind (Zd7 k z10.2.1 z10.2.2 z7.2.2.1 z7.2.2.2.1 z7.2.2.2.2.1 z7.2.2.2.2.2.1 z7.2.2.2.2.2.2.1 z7.2.2.2.2.2.2.2.1 z7.2.2.2.2.2.2.2.2 [] (wrap64 ((1:Int)+z9.1)) z10.1) fun z12=>Option.bind (Z4C k z12.1 z12.2.1 z12.2.2.1 z12.2.2.2.1 z12.2.2.2.2.1 z12.2.2.2.2.2.1 z12.2.2.2.2.2.2.1 z12.2.2.2.2.2.2.2.1 z12.2.2.2.2.2.2.2.2.1 z12.2.2.2.2.2.2.2.2.2.1 z12.2.2.2.2.2.2.2.2.2.2) fun z14=>Option.bind (Zd0 k z14.1 z14.2.1 z14.2.2.1 z14.2.2.2.1 z14.2.2.2.2.1 z14.2.2.2.2.2.1 z14.2.2.2.2.2.2.1 z14.2.2.2.2.2.2.2.1 z14.2.2.2.2.2.2.2.2.1 z14.2.2.2.2.2.2.2.2.2) fun z103=>some z103
noncomputable def Z2X:FnDef:= .of Zno ZR ((Int×Int×List (Int×Int))×List Int×List (Int×Int×Int)×Int×Int) (fun k x=>ZcB k x.1) Z7t Z5h Z89
noncomputable def ZQ:Code:=Tryz.f100.body.getD .skip
noncomputable def Z0:Ctx (Tup ZR×OutD):={T:=T,G:=[(116,Zq.E),(121,Z1P.E),(122,Z28.E),(110,Z69.E),(95,ZZ.E),(88,Z33.E),(123,Z7Y.E),(112,Z79.E),(98,Zp.E)],mvs:=[153],no:=2,n:=166,res:=resOf T Zno ZR Tryz.f100.results.toList,loops:=[(1,Z44.E)],regs:=[(22,Z2.E)],conds:=[(25,Zx.E),(44,Zy.E)],cuts:=[(40,ZV.E),(27,ZW.E),(15,ZX.E)]}
theorem Z2O(k:Nat):EnvOK Tryz.prog k Z0.G:=(EnvOK.cons (Z1I k) (EnvOK.cons (ZmC k) (EnvOK.cons (Zzy k) (EnvOK.cons (ZCb k) (EnvOK.cons (Z6n k) (EnvOK.cons (Zqq k) (EnvOK.cons (ZQQ k) (EnvOK.cons (ZEb k) (EnvOK.cons (Z1T k) (EnvOK.nil mixed))))))))))
noncomputable def Z4:Array Oper:=(findReg 22 ZQ).getD #[]
noncomputable abbrev U0:TV:=TV.sv (SV.at At.un)
noncomputable abbrev J0(x:Int):At:=At.int .i64 x
noncomputable abbrev L0(n:Nat):TV:=TV.sv (SV.at (At.sl n))
noncomputable abbrev P0(n:Nat):TV:=TV.sv (SV.at (At.ptr n 0))
noncomputable abbrev T1:Ty:=Ty.int .i64
noncomputable abbrev T2:Ty:=Ty.pair T1 T1
noncomputable abbrev T3:Ty:=Ty.pair T1 T2
noncomputable def sets(l:List TV)(s:List (Nat×TV)):List TV:=s.foldl (fun a p=>a.set p.1 p.2) l
noncomputable abbrev Z1v:Type:=Int×Int×List Int×Int×Int×List (Int×Int)×Int×Int×List (Int×Int)×List Int×Int×Int×Int×Int×Int×Int
section
variable (k:Nat) (b1_1:Int) (b1_2:Int) (o2:List Int) (b3_0:Int) (b3_1:Int) (o4:List (Int×Int)) (b5_0:Int) (b5_1:Int) (o6:List (Int×Int)) (o7:List Int) (o8:List (Int×Int×Int))
noncomputable def Z20:List TV:=[P0 1,U0,P0 3,U0,U0,P0 5,L0 7,U0,L0 8,U0,U0,U0,U0,U0,U0,U0,U0,U0,U0,U0,U0,U0,U0,U0,U0,U0,U0,U0,U0,U0,U0,U0,U0,U0,U0,U0,U0,U0,U0,U0,U0,U0,U0,U0,U0,U0,U0,U0,U0,U0,U0,U0,U0,U0,U0,U0,U0,U0,U0,U0,U0,U0,U0,U0,U0,U0,U0,U0,U0,U0,U0,U0,U0,U0,U0,L0 8,P0 1,L0 8,TV.sv (SV.at (J0 (↑(List.length o8):Int))),U0,U0,U0,L0 8,P0 1,L0 8,U0,U0,U0,U0,U0,U0,U0,U0,U0,U0,U0,U0,U0,U0,U0,U0,U0,U0,U0,U0,U0,U0,U0,U0,U0,U0,U0,U0,U0,U0,U0,U0,U0,U0,U0,U0,U0,U0,U0,U0,U0,U0,U0,U0,U0,U0,U0,U0,U0,U0,U0,U0,U0,U0,U0,U0,U0,U0,U0,U0,U0,U0,U0,U0,U0,U0,U0,U0,U0,U0,U0,U0,U0,U0,U0,U0,U0,U0,U0,U0,U0]
noncomputable def Z14:Ob:=Ob.fx (Ty.int .u8) o2
noncomputable def Z16:Ob:=Ob.box 29 [J0 b3_0,J0 b3_1,At.sl 4]
noncomputable def Z1b:Ob:=Ob.row true 76 T2 o4
noncomputable def Z1a:Ob:=Ob.box 29 [J0 b5_0,J0 b5_1,At.sl 6]
noncomputable def Z17:Ob:=Ob.row true 76 T2 o6
noncomputable def Z19:Ob:=Ob.row true 3 T1 o7
noncomputable def Z15:Ob:=Ob.row true 58 T3 o8
noncomputable def Z18:Ob:=Ob.box 58 [J0 (0:Int),J0 (0:Int),J0 (0:Int)]
noncomputable def Zll:Ob:=Ob.box 105 [At.sl 2,J0 b1_1,At.int IntKind.u64 b1_2]
noncomputable def Z3L:TV:=TV.sv (SV.at (J0 (↑(List.length o8):Int)))
noncomputable def Zs(f0:Int×Int×Int)(f1:Int×Int×Int):Option Z1v:=some (f0.2.1,f0.2.2,o2,b3_0,b3_1,o4,b5_0,b5_1,o6,o7,Prod.fst (List.getD o8 (Int.toNat f1.1) ((0:Int),(0:Int),(0:Int))),Prod.fst (Prod.snd (List.getD o8 (Int.toNat f1.1) ((0:Int),(0:Int),(0:Int)))),Prod.snd (Prod.snd (List.getD o8 (Int.toNat f1.1) ((0:Int),(0:Int),(0:Int)))),Prod.fst (List.getD o8 (Int.toNat f0.1) ((0:Int),(0:Int),(0:Int))),Prod.fst (Prod.snd (List.getD o8 (Int.toNat f0.1) ((0:Int),(0:Int),(0:Int)))),Prod.snd (Prod.snd (List.getD o8 (Int.toNat f0.1) ((0:Int),(0:Int),(0:Int)))))
noncomputable def Zo(f0:Int×Int×Int):Option Z1v:=Option.bind (Z1 k (o2,f0.2.1,f0.2.2) (↑(List.length o8):Int)) fun y0=>if (0:Int)≤y0.1 then if y0.1<(↑(List.length o8):Int) then some (y0.2.1,y0.2.2,o2,b3_0,b3_1,o4,b5_0,b5_1,o6,o7,Prod.fst (List.getD o8 (Int.toNat f0.1) ((0:Int),(0:Int),(0:Int))),Prod.fst (Prod.snd (List.getD o8 (Int.toNat f0.1) ((0:Int),(0:Int),(0:Int)))),Prod.snd (Prod.snd (List.getD o8 (Int.toNat f0.1) ((0:Int),(0:Int),(0:Int)))),Prod.fst (List.getD o8 (Int.toNat y0.1) ((0:Int),(0:Int),(0:Int))),Prod.fst (Prod.snd (List.getD o8 (Int.toNat y0.1) ((0:Int),(0:Int),(0:Int)))),Prod.snd (Prod.snd (List.getD o8 (Int.toNat y0.1) ((0:Int),(0:Int),(0:Int))))) else none else none
noncomputable def ZB:Option Z1v:=Option.bind (Z1 k (o2,b1_1,b1_2) (↑(List.length o8):Int)) fun y0=>if (0:Int)≤y0.1 then if y0.1<(↑(List.length o8):Int) then Option.bind (Z1 k (o2,y0.2.1,y0.2.2) (↑(List.length o8):Int)) fun y1=>if (0:Int)≤y1.1 then if y1.1<(↑(List.length o8):Int) then some (y1.2.1,y1.2.2,o2,b3_0,b3_1,o4,b5_0,b5_1,o6,o7,Prod.fst (List.getD o8 (Int.toNat y0.1) ((0:Int),(0:Int),(0:Int))),Prod.fst (Prod.snd (List.getD o8 (Int.toNat y0.1) ((0:Int),(0:Int),(0:Int)))),Prod.snd (Prod.snd (List.getD o8 (Int.toNat y0.1) ((0:Int),(0:Int),(0:Int)))),Prod.fst (List.getD o8 (Int.toNat y1.1) ((0:Int),(0:Int),(0:Int))),Prod.fst (Prod.snd (List.getD o8 (Int.toNat y1.1) ((0:Int),(0:Int),(0:Int)))),Prod.snd (Prod.snd (List.getD o8 (Int.toNat y1.1) ((0:Int),(0:Int),(0:Int))))) else none else none else none else none
noncomputable def ZRm(z34:Int×Int×Int)(z35:Int×Int×Int):Option (List Z1v):=execT Z0.G (stepOp Z0.T Z0.G Z0.mvs k) Z4 4 #[true,true,true,true,true,true,true,true,true,true,true,true,true,true,false,false,false,false] ⟨sets (Z20 o8) [(79,TV.sv (SV.at (J0 z34.1))),(80,TV.sv (SV.at (At.ep 8 T3 z34.1 0))),(81,TV.sv (SV.agg [J0 (Prod.fst (List.getD o8 (Int.toNat z34.1) ((0:Int),(0:Int),(0:Int)))),J0 (Prod.fst (Prod.snd (List.getD o8 (Int.toNat z34.1) ((0:Int),(0:Int),(0:Int))))),J0 (Prod.snd (Prod.snd (List.getD o8 (Int.toNat z34.1) ((0:Int),(0:Int),(0:Int)))))])),(85,Z3L o8),(86,TV.sv (SV.at (J0 z35.1))),(87,TV.sv (SV.at (At.ep 8 T3 z35.1 0))),(88,TV.sv (SV.agg [J0 (Prod.fst (List.getD o8 (Int.toNat z35.1) ((0:Int),(0:Int),(0:Int)))),J0 (Prod.fst (Prod.snd (List.getD o8 (Int.toNat z35.1) ((0:Int),(0:Int),(0:Int))))),J0 (Prod.snd (Prod.snd (List.getD o8 (Int.toNat z35.1) ((0:Int),(0:Int),(0:Int)))))]))],[Ob.ro,Ob.box 105 [At.sl 2,J0 z35.2.1,At.int IntKind.u64 z35.2.2],Z14 o2,Z16 b3_0 b3_1,Z1b o4,Z1a b5_0 b5_1,Z17 o6,Z19 o7,Z15 o8]⟩ (outK Z0 Z2)
theorem ZWF(z34:Int×Int×Int)(z35:Int×Int×Int):ZRm k o2 b3_0 b3_1 o4 b5_0 b5_1 o6 o7 o8 z34 z35=joinL (some [(z35.2.1,z35.2.2,o2,b3_0,b3_1,o4,b5_0,b5_1,o6,o7,Prod.fst (List.getD o8 (Int.toNat z34.1) ((0:Int),(0:Int),(0:Int))),Prod.fst (Prod.snd (List.getD o8 (Int.toNat z34.1) ((0:Int),(0:Int),(0:Int)))),Prod.snd (Prod.snd (List.getD o8 (Int.toNat z34.1) ((0:Int),(0:Int),(0:Int)))),Prod.fst (List.getD o8 (Int.toNat z35.1) ((0:Int),(0:Int),(0:Int))),Prod.fst (Prod.snd (List.getD o8 (Int.toNat z35.1) ((0:Int),(0:Int),(0:Int)))),Prod.snd (Prod.snd (List.getD o8 (Int.toNat z35.1) ((0:Int),(0:Int),(0:Int)))))]) (some [(z35.2.1,z35.2.2,o2,b3_0,b3_1,o4,b5_0,b5_1,o6,o7,Prod.fst (List.getD o8 (Int.toNat z34.1) ((0:Int),(0:Int),(0:Int))),Prod.fst (Prod.snd (List.getD o8 (Int.toNat z34.1) ((0:Int),(0:Int),(0:Int)))),Prod.snd (Prod.snd (List.getD o8 (Int.toNat z34.1) ((0:Int),(0:Int),(0:Int)))),Prod.fst (List.getD o8 (Int.toNat z35.1) ((0:Int),(0:Int),(0:Int))),Prod.fst (Prod.snd (List.getD o8 (Int.toNat z35.1) ((0:Int),(0:Int),(0:Int)))),Prod.snd (Prod.snd (List.getD o8 (Int.toNat z35.1) ((0:Int),(0:Int),(0:Int)))))]):=by kernel_rfl
theorem ZUZ(z34:Int×Int×Int)(z35:Int×Int×Int):ZRm k o2 b3_0 b3_1 o4 b5_0 b5_1 o6 o7 o8 z34 z35=repl 2 (Zs o2 b3_0 b3_1 o4 b5_0 b5_1 o6 o7 o8 z35 z34):=by
 rw[ZWF]
 simp only[Zs,Zo,ZB,Z7,Zc,Z8,Z9,Z6,Z3,if_true]
noncomputable def Zv6(z34:Int×Int×Int)(z35:Int×Int×Int):Option (List Z1v):=execT Z0.G (stepOp Z0.T Z0.G Z0.mvs k) Z4 3 #[true,true,true,true,true,true,true,true,true,true,true,true,true,false,true,true,false,false] ⟨sets (Z20 o8) [(10,P0 9),(11,P0 10),(79,TV.sv (SV.at (J0 z34.1))),(80,TV.sv (SV.at (At.ep 8 T3 z34.1 0))),(81,TV.sv (SV.agg [J0 (Prod.fst (List.getD o8 (Int.toNat z34.1) ((0:Int),(0:Int),(0:Int)))),J0 (Prod.fst (Prod.snd (List.getD o8 (Int.toNat z34.1) ((0:Int),(0:Int),(0:Int))))),J0 (Prod.snd (Prod.snd (List.getD o8 (Int.toNat z34.1) ((0:Int),(0:Int),(0:Int)))))])),(85,Z3L o8),(86,TV.sv (SV.at (J0 z35.1))),(87,TV.sv (SV.at (At.ep 8 T3 z35.1 0)))],[Ob.ro,Ob.box 105 [At.sl 2,J0 z35.2.1,At.int IntKind.u64 z35.2.2],Z14 o2,Z16 b3_0 b3_1,Z1b o4,Z1a b5_0 b5_1,Z17 o6,Z19 o7,Z15 o8,Z18,Z18]⟩ (outK Z0 Z2)
theorem ZWV(z34:Int×Int×Int)(z35:Int×Int×Int):Zv6 k o2 b3_0 b3_1 o4 b5_0 b5_1 o6 o7 o8 z34 z35=joinL (some [(z35.2.1,z35.2.2,o2,b3_0,b3_1,o4,b5_0,b5_1,o6,o7,Prod.fst (List.getD o8 (Int.toNat z34.1) ((0:Int),(0:Int),(0:Int))),Prod.fst (Prod.snd (List.getD o8 (Int.toNat z34.1) ((0:Int),(0:Int),(0:Int)))),Prod.snd (Prod.snd (List.getD o8 (Int.toNat z34.1) ((0:Int),(0:Int),(0:Int)))),Prod.fst (List.getD o8 (Int.toNat z35.1) ((0:Int),(0:Int),(0:Int))),Prod.fst (Prod.snd (List.getD o8 (Int.toNat z35.1) ((0:Int),(0:Int),(0:Int)))),Prod.snd (Prod.snd (List.getD o8 (Int.toNat z35.1) ((0:Int),(0:Int),(0:Int)))))]) (some [(z35.2.1,z35.2.2,o2,b3_0,b3_1,o4,b5_0,b5_1,o6,o7,Prod.fst (List.getD o8 (Int.toNat z34.1) ((0:Int),(0:Int),(0:Int))),Prod.fst (Prod.snd (List.getD o8 (Int.toNat z34.1) ((0:Int),(0:Int),(0:Int)))),Prod.snd (Prod.snd (List.getD o8 (Int.toNat z34.1) ((0:Int),(0:Int),(0:Int)))),Prod.fst (List.getD o8 (Int.toNat z35.1) ((0:Int),(0:Int),(0:Int))),Prod.fst (Prod.snd (List.getD o8 (Int.toNat z35.1) ((0:Int),(0:Int),(0:Int)))),Prod.snd (Prod.snd (List.getD o8 (Int.toNat z35.1) ((0:Int),(0:Int),(0:Int)))))]):=by kernel_rfl
theorem Zze(z34:Int×Int×Int)(z35:Int×Int×Int):Zv6 k o2 b3_0 b3_1 o4 b5_0 b5_1 o6 o7 o8 z34 z35=repl 2 (Zs o2 b3_0 b3_1 o4 b5_0 b5_1 o6 o7 o8 z35 z34):=by
 rw[ZWV]
 simp only[Zs,Zo,ZB,Z7,Zc,Z8,Z9,Z6,Z3,if_true]
noncomputable def ZMV(z34:Int×Int×Int)(z35:Int×Int×Int):Option (List Z1v):=execT Z0.G (stepOp Z0.T Z0.G Z0.mvs k) Z4 4 #[true,true,true,true,true,true,true,true,true,true,true,true,true,false,true,false,false,false] ⟨sets (Z20 o8) [(10,P0 9),(79,TV.sv (SV.at (J0 z34.1))),(80,TV.sv (SV.at (At.ep 8 T3 z34.1 0))),(81,TV.sv (SV.agg [J0 (Prod.fst (List.getD o8 (Int.toNat z34.1) ((0:Int),(0:Int),(0:Int)))),J0 (Prod.fst (Prod.snd (List.getD o8 (Int.toNat z34.1) ((0:Int),(0:Int),(0:Int))))),J0 (Prod.snd (Prod.snd (List.getD o8 (Int.toNat z34.1) ((0:Int),(0:Int),(0:Int)))))])),(85,Z3L o8),(86,TV.sv (SV.at (J0 z35.1))),(87,TV.sv (SV.at (At.ep 8 T3 z35.1 0)))],[Ob.ro,Ob.box 105 [At.sl 2,J0 z35.2.1,At.int IntKind.u64 z35.2.2],Z14 o2,Z16 b3_0 b3_1,Z1b o4,Z1a b5_0 b5_1,Z17 o6,Z19 o7,Z15 o8,Z18]⟩ (outK Z0 Z2)
theorem ZWU(z34:Int×Int×Int)(z35:Int×Int×Int):ZMV k o2 b3_0 b3_1 o4 b5_0 b5_1 o6 o7 o8 z34 z35=joinL (some [(z35.2.1,z35.2.2,o2,b3_0,b3_1,o4,b5_0,b5_1,o6,o7,Prod.fst (List.getD o8 (Int.toNat z34.1) ((0:Int),(0:Int),(0:Int))),Prod.fst (Prod.snd (List.getD o8 (Int.toNat z34.1) ((0:Int),(0:Int),(0:Int)))),Prod.snd (Prod.snd (List.getD o8 (Int.toNat z34.1) ((0:Int),(0:Int),(0:Int)))),Prod.fst (List.getD o8 (Int.toNat z35.1) ((0:Int),(0:Int),(0:Int))),Prod.fst (Prod.snd (List.getD o8 (Int.toNat z35.1) ((0:Int),(0:Int),(0:Int)))),Prod.snd (Prod.snd (List.getD o8 (Int.toNat z35.1) ((0:Int),(0:Int),(0:Int)))))]) (Zv6 k o2 b3_0 b3_1 o4 b5_0 b5_1 o6 o7 o8 z34 z35):=by kernel_rfl
theorem ZSs(z34:Int×Int×Int)(z35:Int×Int×Int):ZMV k o2 b3_0 b3_1 o4 b5_0 b5_1 o6 o7 o8 z34 z35=repl 3 (Zs o2 b3_0 b3_1 o4 b5_0 b5_1 o6 o7 o8 z35 z34):=by
 rw[ZWU]
 simp only[Zze,Zs,Zo,ZB,Z7,Zc,Z8,Z9,Z6,Z3,if_true]
noncomputable def Zv1(z34:Int×Int×Int)(z35:Int×Int×Int):Option (List Z1v):=execT Z0.G (stepOp Z0.T Z0.G Z0.mvs k) Z4 3 #[true,true,true,true,true,true,true,true,true,true,true,true,true,false,true,true,false,false] ⟨sets (Z20 o8) [(10,P0 10),(11,P0 9),(79,TV.sv (SV.at (J0 z34.1))),(80,TV.sv (SV.at (At.ep 8 T3 z34.1 0))),(81,TV.sv (SV.agg [J0 (Prod.fst (List.getD o8 (Int.toNat z34.1) ((0:Int),(0:Int),(0:Int)))),J0 (Prod.fst (Prod.snd (List.getD o8 (Int.toNat z34.1) ((0:Int),(0:Int),(0:Int))))),J0 (Prod.snd (Prod.snd (List.getD o8 (Int.toNat z34.1) ((0:Int),(0:Int),(0:Int)))))])),(85,Z3L o8),(86,TV.sv (SV.at (J0 z35.1))),(87,TV.sv (SV.at (At.ep 8 T3 z35.1 0)))],[Ob.ro,Ob.box 105 [At.sl 2,J0 z35.2.1,At.int IntKind.u64 z35.2.2],Z14 o2,Z16 b3_0 b3_1,Z1b o4,Z1a b5_0 b5_1,Z17 o6,Z19 o7,Z15 o8,Z18,Z18]⟩ (outK Z0 Z2)
theorem ZWI(z34:Int×Int×Int)(z35:Int×Int×Int):Zv1 k o2 b3_0 b3_1 o4 b5_0 b5_1 o6 o7 o8 z34 z35=joinL (some [(z35.2.1,z35.2.2,o2,b3_0,b3_1,o4,b5_0,b5_1,o6,o7,Prod.fst (List.getD o8 (Int.toNat z34.1) ((0:Int),(0:Int),(0:Int))),Prod.fst (Prod.snd (List.getD o8 (Int.toNat z34.1) ((0:Int),(0:Int),(0:Int)))),Prod.snd (Prod.snd (List.getD o8 (Int.toNat z34.1) ((0:Int),(0:Int),(0:Int)))),Prod.fst (List.getD o8 (Int.toNat z35.1) ((0:Int),(0:Int),(0:Int))),Prod.fst (Prod.snd (List.getD o8 (Int.toNat z35.1) ((0:Int),(0:Int),(0:Int)))),Prod.snd (Prod.snd (List.getD o8 (Int.toNat z35.1) ((0:Int),(0:Int),(0:Int)))))]) (some [(z35.2.1,z35.2.2,o2,b3_0,b3_1,o4,b5_0,b5_1,o6,o7,Prod.fst (List.getD o8 (Int.toNat z34.1) ((0:Int),(0:Int),(0:Int))),Prod.fst (Prod.snd (List.getD o8 (Int.toNat z34.1) ((0:Int),(0:Int),(0:Int)))),Prod.snd (Prod.snd (List.getD o8 (Int.toNat z34.1) ((0:Int),(0:Int),(0:Int)))),Prod.fst (List.getD o8 (Int.toNat z35.1) ((0:Int),(0:Int),(0:Int))),Prod.fst (Prod.snd (List.getD o8 (Int.toNat z35.1) ((0:Int),(0:Int),(0:Int)))),Prod.snd (Prod.snd (List.getD o8 (Int.toNat z35.1) ((0:Int),(0:Int),(0:Int)))))]):=by kernel_rfl
theorem Zxt(z34:Int×Int×Int)(z35:Int×Int×Int):Zv1 k o2 b3_0 b3_1 o4 b5_0 b5_1 o6 o7 o8 z34 z35=repl 2 (Zs o2 b3_0 b3_1 o4 b5_0 b5_1 o6 o7 o8 z35 z34):=by
 rw[ZWI]
 simp only[Zs,Zo,ZB,Z7,Zc,Z8,Z9,Z6,Z3,if_true]
noncomputable def ZLD(z34:Int×Int×Int)(z35:Int×Int×Int):Option (List Z1v):=execT Z0.G (stepOp Z0.T Z0.G Z0.mvs k) Z4 4 #[true,true,true,true,true,true,true,true,true,true,true,true,true,false,false,true,false,false] ⟨sets (Z20 o8) [(11,P0 9),(79,TV.sv (SV.at (J0 z34.1))),(80,TV.sv (SV.at (At.ep 8 T3 z34.1 0))),(81,TV.sv (SV.agg [J0 (Prod.fst (List.getD o8 (Int.toNat z34.1) ((0:Int),(0:Int),(0:Int)))),J0 (Prod.fst (Prod.snd (List.getD o8 (Int.toNat z34.1) ((0:Int),(0:Int),(0:Int))))),J0 (Prod.snd (Prod.snd (List.getD o8 (Int.toNat z34.1) ((0:Int),(0:Int),(0:Int)))))])),(85,Z3L o8),(86,TV.sv (SV.at (J0 z35.1))),(87,TV.sv (SV.at (At.ep 8 T3 z35.1 0)))],[Ob.ro,Ob.box 105 [At.sl 2,J0 z35.2.1,At.int IntKind.u64 z35.2.2],Z14 o2,Z16 b3_0 b3_1,Z1b o4,Z1a b5_0 b5_1,Z17 o6,Z19 o7,Z15 o8,Z18]⟩ (outK Z0 Z2)
theorem ZWB(z34:Int×Int×Int)(z35:Int×Int×Int):ZLD k o2 b3_0 b3_1 o4 b5_0 b5_1 o6 o7 o8 z34 z35=joinL (some [(z35.2.1,z35.2.2,o2,b3_0,b3_1,o4,b5_0,b5_1,o6,o7,Prod.fst (List.getD o8 (Int.toNat z34.1) ((0:Int),(0:Int),(0:Int))),Prod.fst (Prod.snd (List.getD o8 (Int.toNat z34.1) ((0:Int),(0:Int),(0:Int)))),Prod.snd (Prod.snd (List.getD o8 (Int.toNat z34.1) ((0:Int),(0:Int),(0:Int)))),Prod.fst (List.getD o8 (Int.toNat z35.1) ((0:Int),(0:Int),(0:Int))),Prod.fst (Prod.snd (List.getD o8 (Int.toNat z35.1) ((0:Int),(0:Int),(0:Int)))),Prod.snd (Prod.snd (List.getD o8 (Int.toNat z35.1) ((0:Int),(0:Int),(0:Int)))))]) (Zv1 k o2 b3_0 b3_1 o4 b5_0 b5_1 o6 o7 o8 z34 z35):=by kernel_rfl
theorem ZSu(z34:Int×Int×Int)(z35:Int×Int×Int):ZLD k o2 b3_0 b3_1 o4 b5_0 b5_1 o6 o7 o8 z34 z35=repl 3 (Zs o2 b3_0 b3_1 o4 b5_0 b5_1 o6 o7 o8 z35 z34):=by
 rw[ZWB]
 simp only[Zxt,Zs,Zo,ZB,Z7,Zc,Z8,Z9,Z6,Z3,if_true]
noncomputable def ZRk(z34:Int×Int×Int)(z35:Int×Int×Int):Option (List Z1v):=execT Z0.G (stepOp Z0.T Z0.G Z0.mvs k) Z4 5 #[true,true,true,true,true,true,true,true,true,true,true,true,true,false,false,false,false,false] ⟨sets (Z20 o8) [(79,TV.sv (SV.at (J0 z34.1))),(80,TV.sv (SV.at (At.ep 8 T3 z34.1 0))),(81,TV.sv (SV.agg [J0 (Prod.fst (List.getD o8 (Int.toNat z34.1) ((0:Int),(0:Int),(0:Int)))),J0 (Prod.fst (Prod.snd (List.getD o8 (Int.toNat z34.1) ((0:Int),(0:Int),(0:Int))))),J0 (Prod.snd (Prod.snd (List.getD o8 (Int.toNat z34.1) ((0:Int),(0:Int),(0:Int)))))])),(85,Z3L o8),(86,TV.sv (SV.at (J0 z35.1))),(87,TV.sv (SV.at (At.ep 8 T3 z35.1 0)))],[Ob.ro,Ob.box 105 [At.sl 2,J0 z35.2.1,At.int IntKind.u64 z35.2.2],Z14 o2,Z16 b3_0 b3_1,Z1b o4,Z1a b5_0 b5_1,Z17 o6,Z19 o7,Z15 o8]⟩ (outK Z0 Z2)
theorem ZWL(z34:Int×Int×Int)(z35:Int×Int×Int):ZRk k o2 b3_0 b3_1 o4 b5_0 b5_1 o6 o7 o8 z34 z35=joinL (ZRm k o2 b3_0 b3_1 o4 b5_0 b5_1 o6 o7 o8 z34 z35) (joinL (ZMV k o2 b3_0 b3_1 o4 b5_0 b5_1 o6 o7 o8 z34 z35) (ZLD k o2 b3_0 b3_1 o4 b5_0 b5_1 o6 o7 o8 z34 z35)):=by kernel_rfl
theorem ZUI(z34:Int×Int×Int)(z35:Int×Int×Int):ZRk k o2 b3_0 b3_1 o4 b5_0 b5_1 o6 o7 o8 z34 z35=repl 8 (Zs o2 b3_0 b3_1 o4 b5_0 b5_1 o6 o7 o8 z35 z34):=by
 rw[ZWL]
 simp only[ZUZ,ZSs,ZSu,Zs,Zo,ZB,Z7,Zc,Z8,Z9,Z6,Z3,if_true]
noncomputable def ZLC(z34:Int×Int×Int):Option (List Z1v):=execT Z0.G (stepOp Z0.T Z0.G Z0.mvs k) Z4 6 #[true,true,true,true,true,true,true,true,true,true,true,false,false,false,true,false,false,false] ⟨sets (Z20 o8) [(10,P0 9),(79,TV.sv (SV.at (J0 z34.1))),(80,TV.sv (SV.at (At.ep 8 T3 z34.1 0))),(81,TV.sv (SV.agg [J0 (Prod.fst (List.getD o8 (Int.toNat z34.1) ((0:Int),(0:Int),(0:Int)))),J0 (Prod.fst (Prod.snd (List.getD o8 (Int.toNat z34.1) ((0:Int),(0:Int),(0:Int))))),J0 (Prod.snd (Prod.snd (List.getD o8 (Int.toNat z34.1) ((0:Int),(0:Int),(0:Int)))))])),(85,Z3L o8)],[Ob.ro,Ob.box 105 [At.sl 2,J0 z34.2.1,At.int IntKind.u64 z34.2.2],Z14 o2,Z16 b3_0 b3_1,Z1b o4,Z1a b5_0 b5_1,Z17 o6,Z19 o7,Z15 o8,Z18]⟩ (outK Z0 Z2)
theorem ZWC(z34:Int×Int×Int):ZLC k o2 b3_0 b3_1 o4 b5_0 b5_1 o6 o7 o8 z34=joinL (Option.bind (Z1 k (o2,z34.2.1,z34.2.2) (↑(List.length o8):Int)) fun z36=>if (0:Int)≤z36.1 then if z36.1<(↑(List.length o8):Int) then ZMV k o2 b3_0 b3_1 o4 b5_0 b5_1 o6 o7 o8 z34 z36 else none else none) (Option.bind (Z1 k (o2,z34.2.1,z34.2.2) (↑(List.length o8):Int)) fun z37=>if (0:Int)≤z37.1 then if z37.1<(↑(List.length o8):Int) then Zv6 k o2 b3_0 b3_1 o4 b5_0 b5_1 o6 o7 o8 z34 z37 else none else none):=by kernel_rfl
theorem ZRU(z34:Int×Int×Int):ZLC k o2 b3_0 b3_1 o4 b5_0 b5_1 o6 o7 o8 z34=repl 5 (Zo k o2 b3_0 b3_1 o4 b5_0 b5_1 o6 o7 o8 z34):=by
 rw[ZWC]
 simp only[ZSs,Zze,Zs,Zo,ZB,Z7,Zc,Z8,Z9,Z6,Z3,if_true]
noncomputable def ZMB(z34:Int×Int×Int):Option (List Z1v):=execT Z0.G (stepOp Z0.T Z0.G Z0.mvs k) Z4 6 #[true,true,true,true,true,true,true,true,true,true,true,false,false,false,false,true,false,false] ⟨sets (Z20 o8) [(11,P0 9),(79,TV.sv (SV.at (J0 z34.1))),(80,TV.sv (SV.at (At.ep 8 T3 z34.1 0))),(81,TV.sv (SV.agg [J0 (Prod.fst (List.getD o8 (Int.toNat z34.1) ((0:Int),(0:Int),(0:Int)))),J0 (Prod.fst (Prod.snd (List.getD o8 (Int.toNat z34.1) ((0:Int),(0:Int),(0:Int))))),J0 (Prod.snd (Prod.snd (List.getD o8 (Int.toNat z34.1) ((0:Int),(0:Int),(0:Int)))))])),(85,Z3L o8)],[Ob.ro,Ob.box 105 [At.sl 2,J0 z34.2.1,At.int IntKind.u64 z34.2.2],Z14 o2,Z16 b3_0 b3_1,Z1b o4,Z1a b5_0 b5_1,Z17 o6,Z19 o7,Z15 o8,Z18]⟩ (outK Z0 Z2)
theorem ZWP(z34:Int×Int×Int):ZMB k o2 b3_0 b3_1 o4 b5_0 b5_1 o6 o7 o8 z34=joinL (Option.bind (Z1 k (o2,z34.2.1,z34.2.2) (↑(List.length o8):Int)) fun z39=>if (0:Int)≤z39.1 then if z39.1<(↑(List.length o8):Int) then ZLD k o2 b3_0 b3_1 o4 b5_0 b5_1 o6 o7 o8 z34 z39 else none else none) (Option.bind (Z1 k (o2,z34.2.1,z34.2.2) (↑(List.length o8):Int)) fun z40=>if (0:Int)≤z40.1 then if z40.1<(↑(List.length o8):Int) then Zv1 k o2 b3_0 b3_1 o4 b5_0 b5_1 o6 o7 o8 z34 z40 else none else none):=by kernel_rfl
theorem ZS4(z34:Int×Int×Int):ZMB k o2 b3_0 b3_1 o4 b5_0 b5_1 o6 o7 o8 z34=repl 5 (Zo k o2 b3_0 b3_1 o4 b5_0 b5_1 o6 o7 o8 z34):=by
 rw[ZWP]
 simp only[ZSu,Zxt,Zs,Zo,ZB,Z7,Zc,Z8,Z9,Z6,Z3,if_true]
noncomputable def ZRn(z34:Int×Int×Int):Option (List Z1v):=execT Z0.G (stepOp Z0.T Z0.G Z0.mvs k) Z4 7 #[true,true,true,true,true,true,true,true,true,true,true,false,false,false,false,false,false,false] ⟨sets (Z20 o8) [(79,TV.sv (SV.at (J0 z34.1))),(80,TV.sv (SV.at (At.ep 8 T3 z34.1 0))),(81,TV.sv (SV.agg [J0 (Prod.fst (List.getD o8 (Int.toNat z34.1) ((0:Int),(0:Int),(0:Int)))),J0 (Prod.fst (Prod.snd (List.getD o8 (Int.toNat z34.1) ((0:Int),(0:Int),(0:Int))))),J0 (Prod.snd (Prod.snd (List.getD o8 (Int.toNat z34.1) ((0:Int),(0:Int),(0:Int)))))])),(85,Z3L o8)],[Ob.ro,Ob.box 105 [At.sl 2,J0 z34.2.1,At.int IntKind.u64 z34.2.2],Z14 o2,Z16 b3_0 b3_1,Z1b o4,Z1a b5_0 b5_1,Z17 o6,Z19 o7,Z15 o8]⟩ (outK Z0 Z2)
theorem ZWS(z34:Int×Int×Int):ZRn k o2 b3_0 b3_1 o4 b5_0 b5_1 o6 o7 o8 z34=joinL (Option.bind (Z1 k (o2,z34.2.1,z34.2.2) (↑(List.length o8):Int)) fun z35=>if (0:Int)≤z35.1 then if z35.1<(↑(List.length o8):Int) then ZRk k o2 b3_0 b3_1 o4 b5_0 b5_1 o6 o7 o8 z34 z35 else none else none) (joinL (ZLC k o2 b3_0 b3_1 o4 b5_0 b5_1 o6 o7 o8 z34) (ZMB k o2 b3_0 b3_1 o4 b5_0 b5_1 o6 o7 o8 z34)):=by kernel_rfl
theorem ZUP(z34:Int×Int×Int):ZRn k o2 b3_0 b3_1 o4 b5_0 b5_1 o6 o7 o8 z34=repl 18 (Zo k o2 b3_0 b3_1 o4 b5_0 b5_1 o6 o7 o8 z34):=by
 rw[ZWS]
 simp only[ZUI,ZRU,ZS4,Zs,Zo,ZB,Z7,Zc,Z8,Z9,Z6,Z3,if_true]
noncomputable def ZRl(z34:Int×Int×Int):Option (List Z1v):=execT Z0.G (stepOp Z0.T Z0.G Z0.mvs k) Z4 7 #[true,true,true,true,true,true,true,true,true,true,false,false,false,false,true,false,false,false] ⟨sets (Z20 o8) [(10,P0 9),(79,TV.sv (SV.at (J0 z34.1))),(80,TV.sv (SV.at (At.ep 8 T3 z34.1 0))),(81,TV.sv (SV.agg [J0 (Prod.fst (List.getD o8 (Int.toNat z34.1) ((0:Int),(0:Int),(0:Int)))),J0 (Prod.fst (Prod.snd (List.getD o8 (Int.toNat z34.1) ((0:Int),(0:Int),(0:Int))))),J0 (Prod.snd (Prod.snd (List.getD o8 (Int.toNat z34.1) ((0:Int),(0:Int),(0:Int)))))]))],[Ob.ro,Ob.box 105 [At.sl 2,J0 z34.2.1,At.int IntKind.u64 z34.2.2],Z14 o2,Z16 b3_0 b3_1,Z1b o4,Z1a b5_0 b5_1,Z17 o6,Z19 o7,Z15 o8,Z18]⟩ (outK Z0 Z2)
theorem ZWK(z34:Int×Int×Int):ZRl k o2 b3_0 b3_1 o4 b5_0 b5_1 o6 o7 o8 z34=joinL (ZLC k o2 b3_0 b3_1 o4 b5_0 b5_1 o6 o7 o8 z34) (Option.bind (Z1 k (o2,z34.2.1,z34.2.2) (↑(List.length o8):Int)) fun z43=>if (0:Int)≤z43.1 then if z43.1<(↑(List.length o8):Int) then Zv6 k o2 b3_0 b3_1 o4 b5_0 b5_1 o6 o7 o8 z34 z43 else none else none):=by kernel_rfl
theorem ZUE(z34:Int×Int×Int):ZRl k o2 b3_0 b3_1 o4 b5_0 b5_1 o6 o7 o8 z34=repl 7 (Zo k o2 b3_0 b3_1 o4 b5_0 b5_1 o6 o7 o8 z34):=by
 rw[ZWK]
 simp only[ZRU,Zze,Zs,Zo,ZB,Z7,Zc,Z8,Z9,Z6,Z3,if_true]
noncomputable def ZMR(z34:Int×Int×Int):Option (List Z1v):=execT Z0.G (stepOp Z0.T Z0.G Z0.mvs k) Z4 7 #[true,true,true,true,true,true,true,true,true,true,false,false,false,false,false,true,false,false] ⟨sets (Z20 o8) [(11,P0 9),(79,TV.sv (SV.at (J0 z34.1))),(80,TV.sv (SV.at (At.ep 8 T3 z34.1 0))),(81,TV.sv (SV.agg [J0 (Prod.fst (List.getD o8 (Int.toNat z34.1) ((0:Int),(0:Int),(0:Int)))),J0 (Prod.fst (Prod.snd (List.getD o8 (Int.toNat z34.1) ((0:Int),(0:Int),(0:Int))))),J0 (Prod.snd (Prod.snd (List.getD o8 (Int.toNat z34.1) ((0:Int),(0:Int),(0:Int)))))]))],[Ob.ro,Ob.box 105 [At.sl 2,J0 z34.2.1,At.int IntKind.u64 z34.2.2],Z14 o2,Z16 b3_0 b3_1,Z1b o4,Z1a b5_0 b5_1,Z17 o6,Z19 o7,Z15 o8,Z18]⟩ (outK Z0 Z2)
theorem ZWp(z34:Int×Int×Int):ZMR k o2 b3_0 b3_1 o4 b5_0 b5_1 o6 o7 o8 z34=joinL (ZMB k o2 b3_0 b3_1 o4 b5_0 b5_1 o6 o7 o8 z34) (Option.bind (Z1 k (o2,z34.2.1,z34.2.2) (↑(List.length o8):Int)) fun z45=>if (0:Int)≤z45.1 then if z45.1<(↑(List.length o8):Int) then Zv1 k o2 b3_0 b3_1 o4 b5_0 b5_1 o6 o7 o8 z34 z45 else none else none):=by kernel_rfl
theorem ZTF(z34:Int×Int×Int):ZMR k o2 b3_0 b3_1 o4 b5_0 b5_1 o6 o7 o8 z34=repl 7 (Zo k o2 b3_0 b3_1 o4 b5_0 b5_1 o6 o7 o8 z34):=by
 rw[ZWp]
 simp only[ZS4,Zxt,Zs,Zo,ZB,Z7,Zc,Z8,Z9,Z6,Z3,if_true]
noncomputable def ZRI(z34:Int×Int×Int):Option (List Z1v):=execT Z0.G (stepOp Z0.T Z0.G Z0.mvs k) Z4 8 #[true,true,true,true,true,true,true,true,true,true,false,false,false,false,false,false,false,false] ⟨sets (Z20 o8) [(79,TV.sv (SV.at (J0 z34.1))),(80,TV.sv (SV.at (At.ep 8 T3 z34.1 0))),(81,TV.sv (SV.agg [J0 (Prod.fst (List.getD o8 (Int.toNat z34.1) ((0:Int),(0:Int),(0:Int)))),J0 (Prod.fst (Prod.snd (List.getD o8 (Int.toNat z34.1) ((0:Int),(0:Int),(0:Int))))),J0 (Prod.snd (Prod.snd (List.getD o8 (Int.toNat z34.1) ((0:Int),(0:Int),(0:Int)))))]))],[Ob.ro,Ob.box 105 [At.sl 2,J0 z34.2.1,At.int IntKind.u64 z34.2.2],Z14 o2,Z16 b3_0 b3_1,Z1b o4,Z1a b5_0 b5_1,Z17 o6,Z19 o7,Z15 o8]⟩ (outK Z0 Z2)
theorem ZVT(z34:Int×Int×Int):ZRI k o2 b3_0 b3_1 o4 b5_0 b5_1 o6 o7 o8 z34=joinL (ZRn k o2 b3_0 b3_1 o4 b5_0 b5_1 o6 o7 o8 z34) (joinL (ZRl k o2 b3_0 b3_1 o4 b5_0 b5_1 o6 o7 o8 z34) (ZMR k o2 b3_0 b3_1 o4 b5_0 b5_1 o6 o7 o8 z34)):=by kernel_rfl
theorem ZVB(z34:Int×Int×Int):ZRI k o2 b3_0 b3_1 o4 b5_0 b5_1 o6 o7 o8 z34=repl 32 (Zo k o2 b3_0 b3_1 o4 b5_0 b5_1 o6 o7 o8 z34):=by
 rw[ZVT]
 simp only[ZUP,ZUE,ZTF,Zs,Zo,ZB,Z7,Zc,Z8,Z9,Z6,Z3,if_true]
noncomputable def ZMg(z34:Int×Int×Int)(z48:Int×Int×Int):Option (List Z1v):=execT Z0.G (stepOp Z0.T Z0.G Z0.mvs k) Z4 4 #[true,true,true,true,true,true,false,true,true,true,true,true,true,true,true,false,false,false] ⟨sets (Z20 o8) [(10,P0 9),(79,TV.sv (SV.at (J0 z34.1))),(80,TV.sv (SV.at (At.ep 8 T3 z34.1 0))),(85,Z3L o8),(86,TV.sv (SV.at (J0 z48.1))),(87,TV.sv (SV.at (At.ep 8 T3 z48.1 0))),(88,TV.sv (SV.agg [J0 (Prod.fst (List.getD o8 (Int.toNat z48.1) ((0:Int),(0:Int),(0:Int)))),J0 (Prod.fst (Prod.snd (List.getD o8 (Int.toNat z48.1) ((0:Int),(0:Int),(0:Int))))),J0 (Prod.snd (Prod.snd (List.getD o8 (Int.toNat z48.1) ((0:Int),(0:Int),(0:Int)))))]))],[Ob.ro,Ob.box 105 [At.sl 2,J0 z48.2.1,At.int IntKind.u64 z48.2.2],Z14 o2,Z16 b3_0 b3_1,Z1b o4,Z1a b5_0 b5_1,Z17 o6,Z19 o7,Z15 o8,Z18]⟩ (outK Z0 Z2)
theorem ZVK(z34:Int×Int×Int)(z48:Int×Int×Int):ZMg k o2 b3_0 b3_1 o4 b5_0 b5_1 o6 o7 o8 z34 z48=joinL (some [(z48.2.1,z48.2.2,o2,b3_0,b3_1,o4,b5_0,b5_1,o6,o7,Prod.fst (List.getD o8 (Int.toNat z34.1) ((0:Int),(0:Int),(0:Int))),Prod.fst (Prod.snd (List.getD o8 (Int.toNat z34.1) ((0:Int),(0:Int),(0:Int)))),Prod.snd (Prod.snd (List.getD o8 (Int.toNat z34.1) ((0:Int),(0:Int),(0:Int)))),Prod.fst (List.getD o8 (Int.toNat z48.1) ((0:Int),(0:Int),(0:Int))),Prod.fst (Prod.snd (List.getD o8 (Int.toNat z48.1) ((0:Int),(0:Int),(0:Int)))),Prod.snd (Prod.snd (List.getD o8 (Int.toNat z48.1) ((0:Int),(0:Int),(0:Int)))))]) (some [(z48.2.1,z48.2.2,o2,b3_0,b3_1,o4,b5_0,b5_1,o6,o7,Prod.fst (List.getD o8 (Int.toNat z34.1) ((0:Int),(0:Int),(0:Int))),Prod.fst (Prod.snd (List.getD o8 (Int.toNat z34.1) ((0:Int),(0:Int),(0:Int)))),Prod.snd (Prod.snd (List.getD o8 (Int.toNat z34.1) ((0:Int),(0:Int),(0:Int)))),Prod.fst (List.getD o8 (Int.toNat z48.1) ((0:Int),(0:Int),(0:Int))),Prod.fst (Prod.snd (List.getD o8 (Int.toNat z48.1) ((0:Int),(0:Int),(0:Int)))),Prod.snd (Prod.snd (List.getD o8 (Int.toNat z48.1) ((0:Int),(0:Int),(0:Int)))))]):=by kernel_rfl
theorem ZTL(z34:Int×Int×Int)(z48:Int×Int×Int):ZMg k o2 b3_0 b3_1 o4 b5_0 b5_1 o6 o7 o8 z34 z48=repl 2 (Zs o2 b3_0 b3_1 o4 b5_0 b5_1 o6 o7 o8 z48 z34):=by
 rw[ZVK]
 simp only[Zs,Zo,ZB,Z7,Zc,Z8,Z9,Z6,Z3,if_true]
noncomputable def ZLM(z34:Int×Int×Int)(z48:Int×Int×Int):Option (List Z1v):=execT Z0.G (stepOp Z0.T Z0.G Z0.mvs k) Z4 4 #[true,true,true,true,true,true,false,true,true,true,true,true,true,true,false,true,false,false] ⟨sets (Z20 o8) [(11,P0 9),(79,TV.sv (SV.at (J0 z34.1))),(80,TV.sv (SV.at (At.ep 8 T3 z34.1 0))),(85,Z3L o8),(86,TV.sv (SV.at (J0 z48.1))),(87,TV.sv (SV.at (At.ep 8 T3 z48.1 0))),(88,TV.sv (SV.agg [J0 (Prod.fst (List.getD o8 (Int.toNat z48.1) ((0:Int),(0:Int),(0:Int)))),J0 (Prod.fst (Prod.snd (List.getD o8 (Int.toNat z48.1) ((0:Int),(0:Int),(0:Int))))),J0 (Prod.snd (Prod.snd (List.getD o8 (Int.toNat z48.1) ((0:Int),(0:Int),(0:Int)))))]))],[Ob.ro,Ob.box 105 [At.sl 2,J0 z48.2.1,At.int IntKind.u64 z48.2.2],Z14 o2,Z16 b3_0 b3_1,Z1b o4,Z1a b5_0 b5_1,Z17 o6,Z19 o7,Z15 o8,Z18]⟩ (outK Z0 Z2)
theorem ZVE(z34:Int×Int×Int)(z48:Int×Int×Int):ZLM k o2 b3_0 b3_1 o4 b5_0 b5_1 o6 o7 o8 z34 z48=joinL (some [(z48.2.1,z48.2.2,o2,b3_0,b3_1,o4,b5_0,b5_1,o6,o7,Prod.fst (List.getD o8 (Int.toNat z34.1) ((0:Int),(0:Int),(0:Int))),Prod.fst (Prod.snd (List.getD o8 (Int.toNat z34.1) ((0:Int),(0:Int),(0:Int)))),Prod.snd (Prod.snd (List.getD o8 (Int.toNat z34.1) ((0:Int),(0:Int),(0:Int)))),Prod.fst (List.getD o8 (Int.toNat z48.1) ((0:Int),(0:Int),(0:Int))),Prod.fst (Prod.snd (List.getD o8 (Int.toNat z48.1) ((0:Int),(0:Int),(0:Int)))),Prod.snd (Prod.snd (List.getD o8 (Int.toNat z48.1) ((0:Int),(0:Int),(0:Int)))))]) (some [(z48.2.1,z48.2.2,o2,b3_0,b3_1,o4,b5_0,b5_1,o6,o7,Prod.fst (List.getD o8 (Int.toNat z34.1) ((0:Int),(0:Int),(0:Int))),Prod.fst (Prod.snd (List.getD o8 (Int.toNat z34.1) ((0:Int),(0:Int),(0:Int)))),Prod.snd (Prod.snd (List.getD o8 (Int.toNat z34.1) ((0:Int),(0:Int),(0:Int)))),Prod.fst (List.getD o8 (Int.toNat z48.1) ((0:Int),(0:Int),(0:Int))),Prod.fst (Prod.snd (List.getD o8 (Int.toNat z48.1) ((0:Int),(0:Int),(0:Int)))),Prod.snd (Prod.snd (List.getD o8 (Int.toNat z48.1) ((0:Int),(0:Int),(0:Int)))))]):=by kernel_rfl
theorem ZTH(z34:Int×Int×Int)(z48:Int×Int×Int):ZLM k o2 b3_0 b3_1 o4 b5_0 b5_1 o6 o7 o8 z34 z48=repl 2 (Zs o2 b3_0 b3_1 o4 b5_0 b5_1 o6 o7 o8 z48 z34):=by
 rw[ZVE]
 simp only[Zs,Zo,ZB,Z7,Zc,Z8,Z9,Z6,Z3,if_true]
noncomputable def ZSy(z34:Int×Int×Int)(z48:Int×Int×Int):Option (List Z1v):=execT Z0.G (stepOp Z0.T Z0.G Z0.mvs k) Z4 5 #[true,true,true,true,true,true,false,true,true,true,true,true,true,true,false,false,false,false] ⟨sets (Z20 o8) [(79,TV.sv (SV.at (J0 z34.1))),(80,TV.sv (SV.at (At.ep 8 T3 z34.1 0))),(85,Z3L o8),(86,TV.sv (SV.at (J0 z48.1))),(87,TV.sv (SV.at (At.ep 8 T3 z48.1 0))),(88,TV.sv (SV.agg [J0 (Prod.fst (List.getD o8 (Int.toNat z48.1) ((0:Int),(0:Int),(0:Int)))),J0 (Prod.fst (Prod.snd (List.getD o8 (Int.toNat z48.1) ((0:Int),(0:Int),(0:Int))))),J0 (Prod.snd (Prod.snd (List.getD o8 (Int.toNat z48.1) ((0:Int),(0:Int),(0:Int)))))]))],[Ob.ro,Ob.box 105 [At.sl 2,J0 z48.2.1,At.int IntKind.u64 z48.2.2],Z14 o2,Z16 b3_0 b3_1,Z1b o4,Z1a b5_0 b5_1,Z17 o6,Z19 o7,Z15 o8]⟩ (outK Z0 Z2)
theorem ZWq(z34:Int×Int×Int)(z48:Int×Int×Int):ZSy k o2 b3_0 b3_1 o4 b5_0 b5_1 o6 o7 o8 z34 z48=joinL (ZRm k o2 b3_0 b3_1 o4 b5_0 b5_1 o6 o7 o8 z34 z48) (joinL (ZMg k o2 b3_0 b3_1 o4 b5_0 b5_1 o6 o7 o8 z34 z48) (ZLM k o2 b3_0 b3_1 o4 b5_0 b5_1 o6 o7 o8 z34 z48)):=by kernel_rfl
theorem ZVP(z34:Int×Int×Int)(z48:Int×Int×Int):ZSy k o2 b3_0 b3_1 o4 b5_0 b5_1 o6 o7 o8 z34 z48=repl 6 (Zs o2 b3_0 b3_1 o4 b5_0 b5_1 o6 o7 o8 z48 z34):=by
 rw[ZWq]
 simp only[ZUZ,ZTL,ZTH,Zs,Zo,ZB,Z7,Zc,Z8,Z9,Z6,Z3,if_true]
noncomputable def ZMA(z34:Int×Int×Int)(z48:Int×Int×Int):Option (List Z1v):=execT Z0.G (stepOp Z0.T Z0.G Z0.mvs k) Z4 4 #[true,true,true,true,true,true,false,true,true,true,true,true,true,false,true,true,false,false] ⟨sets (Z20 o8) [(10,P0 9),(11,P0 10),(79,TV.sv (SV.at (J0 z34.1))),(80,TV.sv (SV.at (At.ep 8 T3 z34.1 0))),(85,Z3L o8),(86,TV.sv (SV.at (J0 z48.1))),(87,TV.sv (SV.at (At.ep 8 T3 z48.1 0)))],[Ob.ro,Ob.box 105 [At.sl 2,J0 z48.2.1,At.int IntKind.u64 z48.2.2],Z14 o2,Z16 b3_0 b3_1,Z1b o4,Z1a b5_0 b5_1,Z17 o6,Z19 o7,Z15 o8,Z18,Z18]⟩ (outK Z0 Z2)
theorem ZVR(z34:Int×Int×Int)(z48:Int×Int×Int):ZMA k o2 b3_0 b3_1 o4 b5_0 b5_1 o6 o7 o8 z34 z48=joinL (Zv6 k o2 b3_0 b3_1 o4 b5_0 b5_1 o6 o7 o8 z34 z48) (some [(z48.2.1,z48.2.2,o2,b3_0,b3_1,o4,b5_0,b5_1,o6,o7,Prod.fst (List.getD o8 (Int.toNat z34.1) ((0:Int),(0:Int),(0:Int))),Prod.fst (Prod.snd (List.getD o8 (Int.toNat z34.1) ((0:Int),(0:Int),(0:Int)))),Prod.snd (Prod.snd (List.getD o8 (Int.toNat z34.1) ((0:Int),(0:Int),(0:Int)))),Prod.fst (List.getD o8 (Int.toNat z48.1) ((0:Int),(0:Int),(0:Int))),Prod.fst (Prod.snd (List.getD o8 (Int.toNat z48.1) ((0:Int),(0:Int),(0:Int)))),Prod.snd (Prod.snd (List.getD o8 (Int.toNat z48.1) ((0:Int),(0:Int),(0:Int)))))]):=by kernel_rfl
theorem ZTE(z34:Int×Int×Int)(z48:Int×Int×Int):ZMA k o2 b3_0 b3_1 o4 b5_0 b5_1 o6 o7 o8 z34 z48=repl 3 (Zs o2 b3_0 b3_1 o4 b5_0 b5_1 o6 o7 o8 z48 z34):=by
 rw[ZVR]
 simp only[Zze,Zs,Zo,ZB,Z7,Zc,Z8,Z9,Z6,Z3,if_true]
noncomputable def ZMv(z34:Int×Int×Int)(z48:Int×Int×Int):Option (List Z1v):=execT Z0.G (stepOp Z0.T Z0.G Z0.mvs k) Z4 5 #[true,true,true,true,true,true,false,true,true,true,true,true,true,false,true,false,false,false] ⟨sets (Z20 o8) [(10,P0 9),(79,TV.sv (SV.at (J0 z34.1))),(80,TV.sv (SV.at (At.ep 8 T3 z34.1 0))),(85,Z3L o8),(86,TV.sv (SV.at (J0 z48.1))),(87,TV.sv (SV.at (At.ep 8 T3 z48.1 0)))],[Ob.ro,Ob.box 105 [At.sl 2,J0 z48.2.1,At.int IntKind.u64 z48.2.2],Z14 o2,Z16 b3_0 b3_1,Z1b o4,Z1a b5_0 b5_1,Z17 o6,Z19 o7,Z15 o8,Z18]⟩ (outK Z0 Z2)
theorem ZWe(z34:Int×Int×Int)(z48:Int×Int×Int):ZMv k o2 b3_0 b3_1 o4 b5_0 b5_1 o6 o7 o8 z34 z48=joinL (ZMV k o2 b3_0 b3_1 o4 b5_0 b5_1 o6 o7 o8 z34 z48) (joinL (ZMg k o2 b3_0 b3_1 o4 b5_0 b5_1 o6 o7 o8 z34 z48) (ZMA k o2 b3_0 b3_1 o4 b5_0 b5_1 o6 o7 o8 z34 z48)):=by kernel_rfl
theorem ZTJ(z34:Int×Int×Int)(z48:Int×Int×Int):ZMv k o2 b3_0 b3_1 o4 b5_0 b5_1 o6 o7 o8 z34 z48=repl 8 (Zs o2 b3_0 b3_1 o4 b5_0 b5_1 o6 o7 o8 z48 z34):=by
 rw[ZWe]
 simp only[ZSs,ZTL,ZTE,Zs,Zo,ZB,Z7,Zc,Z8,Z9,Z6,Z3,if_true]
noncomputable def ZMq(z34:Int×Int×Int)(z48:Int×Int×Int):Option (List Z1v):=execT Z0.G (stepOp Z0.T Z0.G Z0.mvs k) Z4 4 #[true,true,true,true,true,true,false,true,true,true,true,true,true,false,true,true,false,false] ⟨sets (Z20 o8) [(10,P0 10),(11,P0 9),(79,TV.sv (SV.at (J0 z34.1))),(80,TV.sv (SV.at (At.ep 8 T3 z34.1 0))),(85,Z3L o8),(86,TV.sv (SV.at (J0 z48.1))),(87,TV.sv (SV.at (At.ep 8 T3 z48.1 0)))],[Ob.ro,Ob.box 105 [At.sl 2,J0 z48.2.1,At.int IntKind.u64 z48.2.2],Z14 o2,Z16 b3_0 b3_1,Z1b o4,Z1a b5_0 b5_1,Z17 o6,Z19 o7,Z15 o8,Z18,Z18]⟩ (outK Z0 Z2)
theorem ZVv(z34:Int×Int×Int)(z48:Int×Int×Int):ZMq k o2 b3_0 b3_1 o4 b5_0 b5_1 o6 o7 o8 z34 z48=joinL (Zv1 k o2 b3_0 b3_1 o4 b5_0 b5_1 o6 o7 o8 z34 z48) (some [(z48.2.1,z48.2.2,o2,b3_0,b3_1,o4,b5_0,b5_1,o6,o7,Prod.fst (List.getD o8 (Int.toNat z34.1) ((0:Int),(0:Int),(0:Int))),Prod.fst (Prod.snd (List.getD o8 (Int.toNat z34.1) ((0:Int),(0:Int),(0:Int)))),Prod.snd (Prod.snd (List.getD o8 (Int.toNat z34.1) ((0:Int),(0:Int),(0:Int)))),Prod.fst (List.getD o8 (Int.toNat z48.1) ((0:Int),(0:Int),(0:Int))),Prod.fst (Prod.snd (List.getD o8 (Int.toNat z48.1) ((0:Int),(0:Int),(0:Int)))),Prod.snd (Prod.snd (List.getD o8 (Int.toNat z48.1) ((0:Int),(0:Int),(0:Int)))))]):=by kernel_rfl
theorem ZTT(z34:Int×Int×Int)(z48:Int×Int×Int):ZMq k o2 b3_0 b3_1 o4 b5_0 b5_1 o6 o7 o8 z34 z48=repl 3 (Zs o2 b3_0 b3_1 o4 b5_0 b5_1 o6 o7 o8 z48 z34):=by
 rw[ZVv]
 simp only[Zxt,Zs,Zo,ZB,Z7,Zc,Z8,Z9,Z6,Z3,if_true]
noncomputable def ZMG(z34:Int×Int×Int)(z48:Int×Int×Int):Option (List Z1v):=execT Z0.G (stepOp Z0.T Z0.G Z0.mvs k) Z4 5 #[true,true,true,true,true,true,false,true,true,true,true,true,true,false,false,true,false,false] ⟨sets (Z20 o8) [(11,P0 9),(79,TV.sv (SV.at (J0 z34.1))),(80,TV.sv (SV.at (At.ep 8 T3 z34.1 0))),(85,Z3L o8),(86,TV.sv (SV.at (J0 z48.1))),(87,TV.sv (SV.at (At.ep 8 T3 z48.1 0)))],[Ob.ro,Ob.box 105 [At.sl 2,J0 z48.2.1,At.int IntKind.u64 z48.2.2],Z14 o2,Z16 b3_0 b3_1,Z1b o4,Z1a b5_0 b5_1,Z17 o6,Z19 o7,Z15 o8,Z18]⟩ (outK Z0 Z2)
theorem ZWd(z34:Int×Int×Int)(z48:Int×Int×Int):ZMG k o2 b3_0 b3_1 o4 b5_0 b5_1 o6 o7 o8 z34 z48=joinL (ZLD k o2 b3_0 b3_1 o4 b5_0 b5_1 o6 o7 o8 z34 z48) (joinL (ZLM k o2 b3_0 b3_1 o4 b5_0 b5_1 o6 o7 o8 z34 z48) (ZMq k o2 b3_0 b3_1 o4 b5_0 b5_1 o6 o7 o8 z34 z48)):=by kernel_rfl
theorem ZTO(z34:Int×Int×Int)(z48:Int×Int×Int):ZMG k o2 b3_0 b3_1 o4 b5_0 b5_1 o6 o7 o8 z34 z48=repl 8 (Zs o2 b3_0 b3_1 o4 b5_0 b5_1 o6 o7 o8 z48 z34):=by
 rw[ZWd]
 simp only[ZSu,ZTH,ZTT,Zs,Zo,ZB,Z7,Zc,Z8,Z9,Z6,Z3,if_true]
noncomputable def ZRq(z34:Int×Int×Int)(z48:Int×Int×Int):Option (List Z1v):=execT Z0.G (stepOp Z0.T Z0.G Z0.mvs k) Z4 6 #[true,true,true,true,true,true,false,true,true,true,true,true,true,false,false,false,false,false] ⟨sets (Z20 o8) [(79,TV.sv (SV.at (J0 z34.1))),(80,TV.sv (SV.at (At.ep 8 T3 z34.1 0))),(85,Z3L o8),(86,TV.sv (SV.at (J0 z48.1))),(87,TV.sv (SV.at (At.ep 8 T3 z48.1 0)))],[Ob.ro,Ob.box 105 [At.sl 2,J0 z48.2.1,At.int IntKind.u64 z48.2.2],Z14 o2,Z16 b3_0 b3_1,Z1b o4,Z1a b5_0 b5_1,Z17 o6,Z19 o7,Z15 o8]⟩ (outK Z0 Z2)
theorem ZW7(z34:Int×Int×Int)(z48:Int×Int×Int):ZRq k o2 b3_0 b3_1 o4 b5_0 b5_1 o6 o7 o8 z34 z48=joinL (ZRk k o2 b3_0 b3_1 o4 b5_0 b5_1 o6 o7 o8 z34 z48) (joinL (ZSy k o2 b3_0 b3_1 o4 b5_0 b5_1 o6 o7 o8 z34 z48) (joinL (ZMv k o2 b3_0 b3_1 o4 b5_0 b5_1 o6 o7 o8 z34 z48) (ZMG k o2 b3_0 b3_1 o4 b5_0 b5_1 o6 o7 o8 z34 z48))):=by kernel_rfl
theorem ZWn(z34:Int×Int×Int)(z48:Int×Int×Int):ZRq k o2 b3_0 b3_1 o4 b5_0 b5_1 o6 o7 o8 z34 z48=repl 30 (Zs o2 b3_0 b3_1 o4 b5_0 b5_1 o6 o7 o8 z48 z34):=by
 rw[ZW7]
 simp only[ZUI,ZVP,ZTJ,ZTO,Zs,Zo,ZB,Z7,Zc,Z8,Z9,Z6,Z3,if_true]
noncomputable def ZxW(z34:Int×Int×Int):Option (List Z1v):=execT Z0.G (stepOp Z0.T Z0.G Z0.mvs k) Z4 6 #[true,true,true,true,true,true,false,true,true,true,true,false,false,false,true,true,false,false] ⟨sets (Z20 o8) [(10,P0 9),(11,P0 10),(79,TV.sv (SV.at (J0 z34.1))),(80,TV.sv (SV.at (At.ep 8 T3 z34.1 0))),(85,Z3L o8)],[Ob.ro,Ob.box 105 [At.sl 2,J0 z34.2.1,At.int IntKind.u64 z34.2.2],Z14 o2,Z16 b3_0 b3_1,Z1b o4,Z1a b5_0 b5_1,Z17 o6,Z19 o7,Z15 o8,Z18,Z18]⟩ (outK Z0 Z2)
theorem ZW6(z34:Int×Int×Int):ZxW k o2 b3_0 b3_1 o4 b5_0 b5_1 o6 o7 o8 z34=joinL (Option.bind (Z1 k (o2,z34.2.1,z34.2.2) (↑(List.length o8):Int)) fun z50=>if (0:Int)≤z50.1 then if z50.1<(↑(List.length o8):Int) then Zv6 k o2 b3_0 b3_1 o4 b5_0 b5_1 o6 o7 o8 z34 z50 else none else none) (Option.bind (Z1 k (o2,z34.2.1,z34.2.2) (↑(List.length o8):Int)) fun z51=>if (0:Int)≤z51.1 then if z51.1<(↑(List.length o8):Int) then ZMA k o2 b3_0 b3_1 o4 b5_0 b5_1 o6 o7 o8 z34 z51 else none else none):=by kernel_rfl
theorem ZGA(z34:Int×Int×Int):ZxW k o2 b3_0 b3_1 o4 b5_0 b5_1 o6 o7 o8 z34=repl 5 (Zo k o2 b3_0 b3_1 o4 b5_0 b5_1 o6 o7 o8 z34):=by
 rw[ZW6]
 simp only[Zze,ZTE,Zs,Zo,ZB,Z7,Zc,Z8,Z9,Z6,Z3,if_true]
noncomputable def ZEk(z34:Int×Int×Int):Option (List Z1v):=execT Z0.G (stepOp Z0.T Z0.G Z0.mvs k) Z4 7 #[true,true,true,true,true,true,false,true,true,true,true,false,false,false,true,false,false,false] ⟨sets (Z20 o8) [(10,P0 9),(79,TV.sv (SV.at (J0 z34.1))),(80,TV.sv (SV.at (At.ep 8 T3 z34.1 0))),(85,Z3L o8)],[Ob.ro,Ob.box 105 [At.sl 2,J0 z34.2.1,At.int IntKind.u64 z34.2.2],Z14 o2,Z16 b3_0 b3_1,Z1b o4,Z1a b5_0 b5_1,Z17 o6,Z19 o7,Z15 o8,Z18]⟩ (outK Z0 Z2)
theorem ZVy(z34:Int×Int×Int):ZEk k o2 b3_0 b3_1 o4 b5_0 b5_1 o6 o7 o8 z34=joinL (ZLC k o2 b3_0 b3_1 o4 b5_0 b5_1 o6 o7 o8 z34) (joinL (Option.bind (Z1 k (o2,z34.2.1,z34.2.2) (↑(List.length o8):Int)) fun z49=>if (0:Int)≤z49.1 then if z49.1<(↑(List.length o8):Int) then ZMv k o2 b3_0 b3_1 o4 b5_0 b5_1 o6 o7 o8 z34 z49 else none else none) (ZxW k o2 b3_0 b3_1 o4 b5_0 b5_1 o6 o7 o8 z34)):=by kernel_rfl
theorem ZNw(z34:Int×Int×Int):ZEk k o2 b3_0 b3_1 o4 b5_0 b5_1 o6 o7 o8 z34=repl 18 (Zo k o2 b3_0 b3_1 o4 b5_0 b5_1 o6 o7 o8 z34):=by
 rw[ZVy]
 simp only[ZRU,ZTJ,ZGA,Zs,Zo,ZB,Z7,Zc,Z8,Z9,Z6,Z3,if_true]
noncomputable def Zzf(z34:Int×Int×Int):Option (List Z1v):=execT Z0.G (stepOp Z0.T Z0.G Z0.mvs k) Z4 6 #[true,true,true,true,true,true,false,true,true,true,true,false,false,false,true,true,false,false] ⟨sets (Z20 o8) [(10,P0 10),(11,P0 9),(79,TV.sv (SV.at (J0 z34.1))),(80,TV.sv (SV.at (At.ep 8 T3 z34.1 0))),(85,Z3L o8)],[Ob.ro,Ob.box 105 [At.sl 2,J0 z34.2.1,At.int IntKind.u64 z34.2.2],Z14 o2,Z16 b3_0 b3_1,Z1b o4,Z1a b5_0 b5_1,Z17 o6,Z19 o7,Z15 o8,Z18,Z18]⟩ (outK Z0 Z2)
theorem ZVM(z34:Int×Int×Int):Zzf k o2 b3_0 b3_1 o4 b5_0 b5_1 o6 o7 o8 z34=joinL (Option.bind (Z1 k (o2,z34.2.1,z34.2.2) (↑(List.length o8):Int)) fun z55=>if (0:Int)≤z55.1 then if z55.1<(↑(List.length o8):Int) then Zv1 k o2 b3_0 b3_1 o4 b5_0 b5_1 o6 o7 o8 z34 z55 else none else none) (Option.bind (Z1 k (o2,z34.2.1,z34.2.2) (↑(List.length o8):Int)) fun z56=>if (0:Int)≤z56.1 then if z56.1<(↑(List.length o8):Int) then ZMq k o2 b3_0 b3_1 o4 b5_0 b5_1 o6 o7 o8 z34 z56 else none else none):=by kernel_rfl
theorem ZGC(z34:Int×Int×Int):Zzf k o2 b3_0 b3_1 o4 b5_0 b5_1 o6 o7 o8 z34=repl 5 (Zo k o2 b3_0 b3_1 o4 b5_0 b5_1 o6 o7 o8 z34):=by
 rw[ZVM]
 simp only[Zxt,ZTT,Zs,Zo,ZB,Z7,Zc,Z8,Z9,Z6,Z3,if_true]
noncomputable def ZFw(z34:Int×Int×Int):Option (List Z1v):=execT Z0.G (stepOp Z0.T Z0.G Z0.mvs k) Z4 7 #[true,true,true,true,true,true,false,true,true,true,true,false,false,false,false,true,false,false] ⟨sets (Z20 o8) [(11,P0 9),(79,TV.sv (SV.at (J0 z34.1))),(80,TV.sv (SV.at (At.ep 8 T3 z34.1 0))),(85,Z3L o8)],[Ob.ro,Ob.box 105 [At.sl 2,J0 z34.2.1,At.int IntKind.u64 z34.2.2],Z14 o2,Z16 b3_0 b3_1,Z1b o4,Z1a b5_0 b5_1,Z17 o6,Z19 o7,Z15 o8,Z18]⟩ (outK Z0 Z2)
theorem ZVS(z34:Int×Int×Int):ZFw k o2 b3_0 b3_1 o4 b5_0 b5_1 o6 o7 o8 z34=joinL (ZMB k o2 b3_0 b3_1 o4 b5_0 b5_1 o6 o7 o8 z34) (joinL (Option.bind (Z1 k (o2,z34.2.1,z34.2.2) (↑(List.length o8):Int)) fun z54=>if (0:Int)≤z54.1 then if z54.1<(↑(List.length o8):Int) then ZMG k o2 b3_0 b3_1 o4 b5_0 b5_1 o6 o7 o8 z34 z54 else none else none) (Zzf k o2 b3_0 b3_1 o4 b5_0 b5_1 o6 o7 o8 z34)):=by kernel_rfl
theorem ZOC(z34:Int×Int×Int):ZFw k o2 b3_0 b3_1 o4 b5_0 b5_1 o6 o7 o8 z34=repl 18 (Zo k o2 b3_0 b3_1 o4 b5_0 b5_1 o6 o7 o8 z34):=by
 rw[ZVS]
 simp only[ZS4,ZTO,ZGC,Zs,Zo,ZB,Z7,Zc,Z8,Z9,Z6,Z3,if_true]
noncomputable def ZMp(z34:Int×Int×Int):Option (List Z1v):=execT Z0.G (stepOp Z0.T Z0.G Z0.mvs k) Z4 8 #[true,true,true,true,true,true,false,true,true,true,true,false,false,false,false,false,false,false] ⟨sets (Z20 o8) [(79,TV.sv (SV.at (J0 z34.1))),(80,TV.sv (SV.at (At.ep 8 T3 z34.1 0))),(85,Z3L o8)],[Ob.ro,Ob.box 105 [At.sl 2,J0 z34.2.1,At.int IntKind.u64 z34.2.2],Z14 o2,Z16 b3_0 b3_1,Z1b o4,Z1a b5_0 b5_1,Z17 o6,Z19 o7,Z15 o8]⟩ (outK Z0 Z2)
theorem ZW0(z34:Int×Int×Int):ZMp k o2 b3_0 b3_1 o4 b5_0 b5_1 o6 o7 o8 z34=joinL (ZRn k o2 b3_0 b3_1 o4 b5_0 b5_1 o6 o7 o8 z34) (joinL (Option.bind (Z1 k (o2,z34.2.1,z34.2.2) (↑(List.length o8):Int)) fun z48=>if (0:Int)≤z48.1 then if z48.1<(↑(List.length o8):Int) then ZRq k o2 b3_0 b3_1 o4 b5_0 b5_1 o6 o7 o8 z34 z48 else none else none) (joinL (ZEk k o2 b3_0 b3_1 o4 b5_0 b5_1 o6 o7 o8 z34) (ZFw k o2 b3_0 b3_1 o4 b5_0 b5_1 o6 o7 o8 z34))):=by kernel_rfl
theorem ZTR(z34:Int×Int×Int):ZMp k o2 b3_0 b3_1 o4 b5_0 b5_1 o6 o7 o8 z34=repl 84 (Zo k o2 b3_0 b3_1 o4 b5_0 b5_1 o6 o7 o8 z34):=by
 rw[ZW0]
 simp only[ZUP,ZWn,ZNw,ZOC,Zs,Zo,ZB,Z7,Zc,Z8,Z9,Z6,Z3,if_true]
noncomputable def ZMI(z34:Int×Int×Int):Option (List Z1v):=execT Z0.G (stepOp Z0.T Z0.G Z0.mvs k) Z4 7 #[true,true,true,true,true,true,false,true,true,true,false,false,false,false,true,true,false,false] ⟨sets (Z20 o8) [(10,P0 9),(11,P0 10),(79,TV.sv (SV.at (J0 z34.1))),(80,TV.sv (SV.at (At.ep 8 T3 z34.1 0)))],[Ob.ro,Ob.box 105 [At.sl 2,J0 z34.2.1,At.int IntKind.u64 z34.2.2],Z14 o2,Z16 b3_0 b3_1,Z1b o4,Z1a b5_0 b5_1,Z17 o6,Z19 o7,Z15 o8,Z18,Z18]⟩ (outK Z0 Z2)
theorem ZWi(z34:Int×Int×Int):ZMI k o2 b3_0 b3_1 o4 b5_0 b5_1 o6 o7 o8 z34=joinL (Option.bind (Z1 k (o2,z34.2.1,z34.2.2) (↑(List.length o8):Int)) fun z60=>if (0:Int)≤z60.1 then if z60.1<(↑(List.length o8):Int) then Zv6 k o2 b3_0 b3_1 o4 b5_0 b5_1 o6 o7 o8 z34 z60 else none else none) (ZxW k o2 b3_0 b3_1 o4 b5_0 b5_1 o6 o7 o8 z34):=by kernel_rfl
theorem ZTK(z34:Int×Int×Int):ZMI k o2 b3_0 b3_1 o4 b5_0 b5_1 o6 o7 o8 z34=repl 7 (Zo k o2 b3_0 b3_1 o4 b5_0 b5_1 o6 o7 o8 z34):=by
 rw[ZWi]
 simp only[Zze,ZGA,Zs,Zo,ZB,Z7,Zc,Z8,Z9,Z6,Z3,if_true]
noncomputable def ZMN(z34:Int×Int×Int):Option (List Z1v):=execT Z0.G (stepOp Z0.T Z0.G Z0.mvs k) Z4 8 #[true,true,true,true,true,true,false,true,true,true,false,false,false,false,true,false,false,false] ⟨sets (Z20 o8) [(10,P0 9),(79,TV.sv (SV.at (J0 z34.1))),(80,TV.sv (SV.at (At.ep 8 T3 z34.1 0)))],[Ob.ro,Ob.box 105 [At.sl 2,J0 z34.2.1,At.int IntKind.u64 z34.2.2],Z14 o2,Z16 b3_0 b3_1,Z1b o4,Z1a b5_0 b5_1,Z17 o6,Z19 o7,Z15 o8,Z18]⟩ (outK Z0 Z2)
theorem ZWy(z34:Int×Int×Int):ZMN k o2 b3_0 b3_1 o4 b5_0 b5_1 o6 o7 o8 z34=joinL (ZRl k o2 b3_0 b3_1 o4 b5_0 b5_1 o6 o7 o8 z34) (joinL (ZEk k o2 b3_0 b3_1 o4 b5_0 b5_1 o6 o7 o8 z34) (ZMI k o2 b3_0 b3_1 o4 b5_0 b5_1 o6 o7 o8 z34)):=by kernel_rfl
theorem ZTM(z34:Int×Int×Int):ZMN k o2 b3_0 b3_1 o4 b5_0 b5_1 o6 o7 o8 z34=repl 32 (Zo k o2 b3_0 b3_1 o4 b5_0 b5_1 o6 o7 o8 z34):=by
 rw[ZWy]
 simp only[ZUE,ZNw,ZTK,Zs,Zo,ZB,Z7,Zc,Z8,Z9,Z6,Z3,if_true]
noncomputable def ZLL(z34:Int×Int×Int):Option (List Z1v):=execT Z0.G (stepOp Z0.T Z0.G Z0.mvs k) Z4 7 #[true,true,true,true,true,true,false,true,true,true,false,false,false,false,true,true,false,false] ⟨sets (Z20 o8) [(10,P0 10),(11,P0 9),(79,TV.sv (SV.at (J0 z34.1))),(80,TV.sv (SV.at (At.ep 8 T3 z34.1 0)))],[Ob.ro,Ob.box 105 [At.sl 2,J0 z34.2.1,At.int IntKind.u64 z34.2.2],Z14 o2,Z16 b3_0 b3_1,Z1b o4,Z1a b5_0 b5_1,Z17 o6,Z19 o7,Z15 o8,Z18,Z18]⟩ (outK Z0 Z2)
theorem ZVt(z34:Int×Int×Int):ZLL k o2 b3_0 b3_1 o4 b5_0 b5_1 o6 o7 o8 z34=joinL (Option.bind (Z1 k (o2,z34.2.1,z34.2.2) (↑(List.length o8):Int)) fun z63=>if (0:Int)≤z63.1 then if z63.1<(↑(List.length o8):Int) then Zv1 k o2 b3_0 b3_1 o4 b5_0 b5_1 o6 o7 o8 z34 z63 else none else none) (Zzf k o2 b3_0 b3_1 o4 b5_0 b5_1 o6 o7 o8 z34):=by kernel_rfl
theorem ZTN(z34:Int×Int×Int):ZLL k o2 b3_0 b3_1 o4 b5_0 b5_1 o6 o7 o8 z34=repl 7 (Zo k o2 b3_0 b3_1 o4 b5_0 b5_1 o6 o7 o8 z34):=by
 rw[ZVt]
 simp only[Zxt,ZGC,Zs,Zo,ZB,Z7,Zc,Z8,Z9,Z6,Z3,if_true]
noncomputable def ZMX(z34:Int×Int×Int):Option (List Z1v):=execT Z0.G (stepOp Z0.T Z0.G Z0.mvs k) Z4 8 #[true,true,true,true,true,true,false,true,true,true,false,false,false,false,false,true,false,false] ⟨sets (Z20 o8) [(11,P0 9),(79,TV.sv (SV.at (J0 z34.1))),(80,TV.sv (SV.at (At.ep 8 T3 z34.1 0)))],[Ob.ro,Ob.box 105 [At.sl 2,J0 z34.2.1,At.int IntKind.u64 z34.2.2],Z14 o2,Z16 b3_0 b3_1,Z1b o4,Z1a b5_0 b5_1,Z17 o6,Z19 o7,Z15 o8,Z18]⟩ (outK Z0 Z2)
theorem ZVF(z34:Int×Int×Int):ZMX k o2 b3_0 b3_1 o4 b5_0 b5_1 o6 o7 o8 z34=joinL (ZMR k o2 b3_0 b3_1 o4 b5_0 b5_1 o6 o7 o8 z34) (joinL (ZFw k o2 b3_0 b3_1 o4 b5_0 b5_1 o6 o7 o8 z34) (ZLL k o2 b3_0 b3_1 o4 b5_0 b5_1 o6 o7 o8 z34)):=by kernel_rfl
theorem ZTQ(z34:Int×Int×Int):ZMX k o2 b3_0 b3_1 o4 b5_0 b5_1 o6 o7 o8 z34=repl 32 (Zo k o2 b3_0 b3_1 o4 b5_0 b5_1 o6 o7 o8 z34):=by
 rw[ZVF]
 simp only[ZTF,ZOC,ZTN,Zs,Zo,ZB,Z7,Zc,Z8,Z9,Z6,Z3,if_true]
noncomputable def ZS6(z34:Int×Int×Int):Option (List Z1v):=execT Z0.G (stepOp Z0.T Z0.G Z0.mvs k) Z4 9 #[true,true,true,true,true,true,false,true,true,true,false,false,false,false,false,false,false,false] ⟨sets (Z20 o8) [(79,TV.sv (SV.at (J0 z34.1))),(80,TV.sv (SV.at (At.ep 8 T3 z34.1 0)))],[Ob.ro,Ob.box 105 [At.sl 2,J0 z34.2.1,At.int IntKind.u64 z34.2.2],Z14 o2,Z16 b3_0 b3_1,Z1b o4,Z1a b5_0 b5_1,Z17 o6,Z19 o7,Z15 o8]⟩ (outK Z0 Z2)
theorem ZWr(z34:Int×Int×Int):ZS6 k o2 b3_0 b3_1 o4 b5_0 b5_1 o6 o7 o8 z34=joinL (ZRI k o2 b3_0 b3_1 o4 b5_0 b5_1 o6 o7 o8 z34) (joinL (ZMp k o2 b3_0 b3_1 o4 b5_0 b5_1 o6 o7 o8 z34) (joinL (ZMN k o2 b3_0 b3_1 o4 b5_0 b5_1 o6 o7 o8 z34) (ZMX k o2 b3_0 b3_1 o4 b5_0 b5_1 o6 o7 o8 z34))):=by kernel_rfl
theorem ZW9(z34:Int×Int×Int):ZS6 k o2 b3_0 b3_1 o4 b5_0 b5_1 o6 o7 o8 z34=repl 180 (Zo k o2 b3_0 b3_1 o4 b5_0 b5_1 o6 o7 o8 z34):=by
 rw[ZWr]
 simp only[ZVB,ZTR,ZTM,ZTQ,Zs,Zo,ZB,Z7,Zc,Z8,Z9,Z6,Z3,if_true]
noncomputable def ZML:Option (List Z1v):=execT Z0.G (stepOp Z0.T Z0.G Z0.mvs k) Z4 9 #[true,true,true,true,false,false,false,true,true,true,true,false,false,false,true,false,false,false] ⟨sets (Z20 o8) [(10,P0 9),(85,Z3L o8)],[Ob.ro,Zll b1_1 b1_2,Z14 o2,Z16 b3_0 b3_1,Z1b o4,Z1a b5_0 b5_1,Z17 o6,Z19 o7,Z15 o8,Z18]⟩ (outK Z0 Z2)
theorem ZVC:ZML k b1_1 b1_2 o2 b3_0 b3_1 o4 b5_0 b5_1 o6 o7 o8=joinL (Option.bind (Z1 k (o2,b1_1,b1_2) (↑(List.length o8):Int)) fun z68=>if (0:Int)≤z68.1 then if z68.1<(↑(List.length o8):Int) then ZEk k o2 b3_0 b3_1 o4 b5_0 b5_1 o6 o7 o8 z68 else none else none) (Option.bind (Z1 k (o2,b1_1,b1_2) (↑(List.length o8):Int)) fun z69=>if (0:Int)≤z69.1 then if z69.1<(↑(List.length o8):Int) then ZxW k o2 b3_0 b3_1 o4 b5_0 b5_1 o6 o7 o8 z69 else none else none):=by kernel_rfl
theorem ZU0:ZML k b1_1 b1_2 o2 b3_0 b3_1 o4 b5_0 b5_1 o6 o7 o8=repl 23 (ZB k b1_1 b1_2 o2 b3_0 b3_1 o4 b5_0 b5_1 o6 o7 o8):=by
 rw[ZVC]
 simp only[ZNw,ZGA,Zs,Zo,ZB,Z7,Zc,Z8,Z9,Z6,Z3,if_true]
noncomputable def ZN3:Option (List Z1v):=execT Z0.G (stepOp Z0.T Z0.G Z0.mvs k) Z4 9 #[true,true,true,true,false,false,false,true,true,true,true,false,false,false,false,true,false,false] ⟨sets (Z20 o8) [(11,P0 9),(85,Z3L o8)],[Ob.ro,Zll b1_1 b1_2,Z14 o2,Z16 b3_0 b3_1,Z1b o4,Z1a b5_0 b5_1,Z17 o6,Z19 o7,Z15 o8,Z18]⟩ (outK Z0 Z2)
theorem ZWh:ZN3 k b1_1 b1_2 o2 b3_0 b3_1 o4 b5_0 b5_1 o6 o7 o8=joinL (Option.bind (Z1 k (o2,b1_1,b1_2) (↑(List.length o8):Int)) fun z72=>if (0:Int)≤z72.1 then if z72.1<(↑(List.length o8):Int) then ZFw k o2 b3_0 b3_1 o4 b5_0 b5_1 o6 o7 o8 z72 else none else none) (Option.bind (Z1 k (o2,b1_1,b1_2) (↑(List.length o8):Int)) fun z73=>if (0:Int)≤z73.1 then if z73.1<(↑(List.length o8):Int) then Zzf k o2 b3_0 b3_1 o4 b5_0 b5_1 o6 o7 o8 z73 else none else none):=by kernel_rfl
theorem ZTX:ZN3 k b1_1 b1_2 o2 b3_0 b3_1 o4 b5_0 b5_1 o6 o7 o8=repl 23 (ZB k b1_1 b1_2 o2 b3_0 b3_1 o4 b5_0 b5_1 o6 o7 o8):=by
 rw[ZWh]
 simp only[ZOC,ZGC,Zs,Zo,ZB,Z7,Zc,Z8,Z9,Z6,Z3,if_true]
noncomputable def ZSi:Option (List Z1v):=execT Z0.G (stepOp Z0.T Z0.G Z0.mvs k) Z4 10 #[true,true,true,true,false,false,false,true,true,true,true,false,false,false,false,false,false,false] ⟨sets (Z20 o8) [(85,Z3L o8)],[Ob.ro,Zll b1_1 b1_2,Z14 o2,Z16 b3_0 b3_1,Z1b o4,Z1a b5_0 b5_1,Z17 o6,Z19 o7,Z15 o8]⟩ (outK Z0 Z2)
theorem ZVD:ZSi k b1_1 b1_2 o2 b3_0 b3_1 o4 b5_0 b5_1 o6 o7 o8=joinL (Option.bind (Z1 k (o2,b1_1,b1_2) (↑(List.length o8):Int)) fun z67=>if (0:Int)≤z67.1 then if z67.1<(↑(List.length o8):Int) then ZMp k o2 b3_0 b3_1 o4 b5_0 b5_1 o6 o7 o8 z67 else none else none) (joinL (ZML k b1_1 b1_2 o2 b3_0 b3_1 o4 b5_0 b5_1 o6 o7 o8) (ZN3 k b1_1 b1_2 o2 b3_0 b3_1 o4 b5_0 b5_1 o6 o7 o8)):=by kernel_rfl
theorem ZWs:ZSi k b1_1 b1_2 o2 b3_0 b3_1 o4 b5_0 b5_1 o6 o7 o8=repl 130 (ZB k b1_1 b1_2 o2 b3_0 b3_1 o4 b5_0 b5_1 o6 o7 o8):=by
 rw[ZVD]
 simp only[ZTR,ZU0,ZTX,Zs,Zo,ZB,Z7,Zc,Z8,Z9,Z6,Z3,if_true]
noncomputable def ZRE:Option (List Z1v):=execT Z0.G (stepOp Z0.T Z0.G Z0.mvs k) Z4 9 #[true,true,true,true,false,false,false,true,true,true,false,false,false,false,true,true,false,false] ⟨sets (Z20 o8) [(10,P0 9),(11,P0 10)],[Ob.ro,Zll b1_1 b1_2,Z14 o2,Z16 b3_0 b3_1,Z1b o4,Z1a b5_0 b5_1,Z17 o6,Z19 o7,Z15 o8,Z18,Z18]⟩ (outK Z0 Z2)
theorem ZVJ:ZRE k b1_1 b1_2 o2 b3_0 b3_1 o4 b5_0 b5_1 o6 o7 o8=joinL (Option.bind (Z1 k (o2,b1_1,b1_2) (↑(List.length o8):Int)) fun z79=>if (0:Int)≤z79.1 then if z79.1<(↑(List.length o8):Int) then ZMI k o2 b3_0 b3_1 o4 b5_0 b5_1 o6 o7 o8 z79 else none else none) (Option.bind (Z1 k (o2,b1_1,b1_2) (↑(List.length o8):Int)) fun z80=>if (0:Int)≤z80.1 then if z80.1<(↑(List.length o8):Int) then ZxW k o2 b3_0 b3_1 o4 b5_0 b5_1 o6 o7 o8 z80 else none else none):=by kernel_rfl
theorem ZVL:ZRE k b1_1 b1_2 o2 b3_0 b3_1 o4 b5_0 b5_1 o6 o7 o8=repl 12 (ZB k b1_1 b1_2 o2 b3_0 b3_1 o4 b5_0 b5_1 o6 o7 o8):=by
 rw[ZVJ]
 simp only[ZTK,ZGA,Zs,Zo,ZB,Z7,Zc,Z8,Z9,Z6,Z3,if_true]
noncomputable def ZSF:Option (List Z1v):=execT Z0.G (stepOp Z0.T Z0.G Z0.mvs k) Z4 10 #[true,true,true,true,false,false,false,true,true,true,false,false,false,false,true,false,false,false] ⟨sets (Z20 o8) [(10,P0 9)],[Ob.ro,Zll b1_1 b1_2,Z14 o2,Z16 b3_0 b3_1,Z1b o4,Z1a b5_0 b5_1,Z17 o6,Z19 o7,Z15 o8,Z18]⟩ (outK Z0 Z2)
theorem ZWo:ZSF k b1_1 b1_2 o2 b3_0 b3_1 o4 b5_0 b5_1 o6 o7 o8=joinL (Option.bind (Z1 k (o2,b1_1,b1_2) (↑(List.length o8):Int)) fun z78=>if (0:Int)≤z78.1 then if z78.1<(↑(List.length o8):Int) then ZMN k o2 b3_0 b3_1 o4 b5_0 b5_1 o6 o7 o8 z78 else none else none) (joinL (ZML k b1_1 b1_2 o2 b3_0 b3_1 o4 b5_0 b5_1 o6 o7 o8) (ZRE k b1_1 b1_2 o2 b3_0 b3_1 o4 b5_0 b5_1 o6 o7 o8)):=by kernel_rfl
theorem ZVz:ZSF k b1_1 b1_2 o2 b3_0 b3_1 o4 b5_0 b5_1 o6 o7 o8=repl 67 (ZB k b1_1 b1_2 o2 b3_0 b3_1 o4 b5_0 b5_1 o6 o7 o8):=by
 rw[ZWo]
 simp only[ZTM,ZU0,ZVL,Zs,Zo,ZB,Z7,Zc,Z8,Z9,Z6,Z3,if_true]
noncomputable def ZS1:Option (List Z1v):=execT Z0.G (stepOp Z0.T Z0.G Z0.mvs k) Z4 9 #[true,true,true,true,false,false,false,true,true,true,false,false,false,false,true,true,false,false] ⟨sets (Z20 o8) [(10,P0 10),(11,P0 9)],[Ob.ro,Zll b1_1 b1_2,Z14 o2,Z16 b3_0 b3_1,Z1b o4,Z1a b5_0 b5_1,Z17 o6,Z19 o7,Z15 o8,Z18,Z18]⟩ (outK Z0 Z2)
theorem ZVZ:ZS1 k b1_1 b1_2 o2 b3_0 b3_1 o4 b5_0 b5_1 o6 o7 o8=joinL (Option.bind (Z1 k (o2,b1_1,b1_2) (↑(List.length o8):Int)) fun z86=>if (0:Int)≤z86.1 then if z86.1<(↑(List.length o8):Int) then ZLL k o2 b3_0 b3_1 o4 b5_0 b5_1 o6 o7 o8 z86 else none else none) (Option.bind (Z1 k (o2,b1_1,b1_2) (↑(List.length o8):Int)) fun z87=>if (0:Int)≤z87.1 then if z87.1<(↑(List.length o8):Int) then Zzf k o2 b3_0 b3_1 o4 b5_0 b5_1 o6 o7 o8 z87 else none else none):=by kernel_rfl
theorem ZW2:ZS1 k b1_1 b1_2 o2 b3_0 b3_1 o4 b5_0 b5_1 o6 o7 o8=repl 12 (ZB k b1_1 b1_2 o2 b3_0 b3_1 o4 b5_0 b5_1 o6 o7 o8):=by
 rw[ZVZ]
 simp only[ZTN,ZGC,Zs,Zo,ZB,Z7,Zc,Z8,Z9,Z6,Z3,if_true]
noncomputable def ZRZ:Option (List Z1v):=execT Z0.G (stepOp Z0.T Z0.G Z0.mvs k) Z4 10 #[true,true,true,true,false,false,false,true,true,true,false,false,false,false,false,true,false,false] ⟨sets (Z20 o8) [(11,P0 9)],[Ob.ro,Zll b1_1 b1_2,Z14 o2,Z16 b3_0 b3_1,Z1b o4,Z1a b5_0 b5_1,Z17 o6,Z19 o7,Z15 o8,Z18]⟩ (outK Z0 Z2)
theorem ZVO:ZRZ k b1_1 b1_2 o2 b3_0 b3_1 o4 b5_0 b5_1 o6 o7 o8=joinL (Option.bind (Z1 k (o2,b1_1,b1_2) (↑(List.length o8):Int)) fun z85=>if (0:Int)≤z85.1 then if z85.1<(↑(List.length o8):Int) then ZMX k o2 b3_0 b3_1 o4 b5_0 b5_1 o6 o7 o8 z85 else none else none) (joinL (ZN3 k b1_1 b1_2 o2 b3_0 b3_1 o4 b5_0 b5_1 o6 o7 o8) (ZS1 k b1_1 b1_2 o2 b3_0 b3_1 o4 b5_0 b5_1 o6 o7 o8)):=by kernel_rfl
theorem ZWk:ZRZ k b1_1 b1_2 o2 b3_0 b3_1 o4 b5_0 b5_1 o6 o7 o8=repl 67 (ZB k b1_1 b1_2 o2 b3_0 b3_1 o4 b5_0 b5_1 o6 o7 o8):=by
 rw[ZVO]
 simp only[ZTQ,ZTX,ZW2,Zs,Zo,ZB,Z7,Zc,Z8,Z9,Z6,Z3,if_true]
noncomputable def ZSg:Option (List Z1v):=execT Z0.G (stepOp Z0.T Z0.G Z0.mvs k) Z4 11 #[true,true,true,true,false,false,false,true,true,true,false,false,false,false,false,false,false,false] ⟨sets (Z20 o8) [],[Ob.ro,Zll b1_1 b1_2,Z14 o2,Z16 b3_0 b3_1,Z1b o4,Z1a b5_0 b5_1,Z17 o6,Z19 o7,Z15 o8]⟩ (outK Z0 Z2)
theorem ZW8:ZSg k b1_1 b1_2 o2 b3_0 b3_1 o4 b5_0 b5_1 o6 o7 o8=joinL (Option.bind (Z1 k (o2,b1_1,b1_2) (↑(List.length o8):Int)) fun z34=>if (0:Int)≤z34.1 then if z34.1<(↑(List.length o8):Int) then ZS6 k o2 b3_0 b3_1 o4 b5_0 b5_1 o6 o7 o8 z34 else none else none) (joinL (ZSi k b1_1 b1_2 o2 b3_0 b3_1 o4 b5_0 b5_1 o6 o7 o8) (joinL (ZSF k b1_1 b1_2 o2 b3_0 b3_1 o4 b5_0 b5_1 o6 o7 o8) (ZRZ k b1_1 b1_2 o2 b3_0 b3_1 o4 b5_0 b5_1 o6 o7 o8))):=by kernel_rfl
theorem ZVA:ZSg k b1_1 b1_2 o2 b3_0 b3_1 o4 b5_0 b5_1 o6 o7 o8=repl 444 (ZB k b1_1 b1_2 o2 b3_0 b3_1 o4 b5_0 b5_1 o6 o7 o8):=by
 rw[ZW8]
 simp only[ZW9,ZWs,ZVz,ZWk,Zs,Zo,ZB,Z7,Zc,Z8,Z9,Z6,Z3,if_true]
end
theorem ZtA(k:Nat)(x:Zic.D):execD Z0.T Z0.G Z0.mvs k Z4 (Z2.inp.st Z0.n x) (outK Z0 Z2)=ZSg k x.1.2.1.2.1 x.1.2.1.2.2.1 x.1.2.2.1 x.1.2.2.2.1.1 x.1.2.2.2.1.2.1 x.1.2.2.2.2.1 x.1.2.2.2.2.2.1.1 x.1.2.2.2.2.2.1.2.1 x.1.2.2.2.2.2.2.1 x.1.2.2.2.2.2.2.2.1 x.1.2.2.2.2.2.2.2.2.1:=by kernel_rfl
theorem ZrE(k:Nat):EOK Tryz.prog Z0 k Z2.E (.region 22 Z4 true):=Z4n (D:=Z2) (m:=444) T_ok (Z2O k) (fun x=>(ZtA k x).trans (ZVA k x.1.2.1.2.1 x.1.2.1.2.2.1 x.1.2.2.1 x.1.2.2.2.1.1 x.1.2.2.2.1.2.1 x.1.2.2.2.2.1 x.1.2.2.2.2.2.1.1 x.1.2.2.2.2.2.1.2.1 x.1.2.2.2.2.2.2.1 x.1.2.2.2.2.2.2.2.1 x.1.2.2.2.2.2.2.2.2.1))
noncomputable def Z7w:Code:=((findCond 25 ZQ).map (·.1)).getD .skip
noncomputable def Z7j:Code:=((findCond 25 ZQ).map (·.2)).getD .skip
theorem ZsF(k:Nat)(i:Zx.inp.D):Zx.lp k i=branch (Zx.inp.st Z0.n i) (.tmp 25) (fun st=>exec Z0 k Z7w st (outK Z0 Zx) (fun _ _=>none) Zx.mkB) (fun st=>exec Z0 k Z7j st (outK Z0 Zx) (fun _ _=>none) Zx.mkB):=by kernel_rfl
theorem Zrl(k:Nat):EOK Tryz.prog Z0 k Zx.E (.cond (.tmp 25) Z7w Z7j):=ZNI (D:=Zx) T_ok (Z2O k) (ZsF k) (@LOK.by _ _ _ _ Z7w [] (by kernel_rfl) AllOK.nil) (@LOK.by _ _ _ _ Z7j [] (by kernel_rfl) AllOK.nil)
noncomputable def Z7m:Code:=((findCond 44 ZQ).map (·.1)).getD .skip
noncomputable def Z7h:Code:=((findCond 44 ZQ).map (·.2)).getD .skip
theorem Zss(k:Nat)(i:Zy.inp.D):Zy.lp k i=branch (Zy.inp.st Z0.n i) (.tmp 44) (fun st=>exec Z0 k Z7m st (outK Z0 Zy) (fun _ _=>none) Zy.mkB) (fun st=>exec Z0 k Z7h st (outK Z0 Zy) (fun _ _=>none) Zy.mkB):=by kernel_rfl
theorem ZqZ(k:Nat):EOK Tryz.prog Z0 k Zy.E (.cond (.tmp 44) Z7m Z7h):=ZNI (D:=Zy) T_ok (Z2O k) (Zss k) (@LOK.by _ _ _ _ Z7m [] (by kernel_rfl) AllOK.nil) (@LOK.by _ _ _ _ Z7h [] (by kernel_rfl) AllOK.nil)
noncomputable def Z9J:Code:=(findLoop 1 ZQ).getD .skip
theorem ZwH(k:Nat)(x:Zem.D):Z44.lp (k+1) x=loopK Z0 Z44 1 Z9J k x:=by kernel_rfl
theorem ZwX(k:Nat):LOK Tryz.prog Z0 k Z9J:=LOK.by [] (by kernel_rfl) AllOK.nil
theorem Zwx(x:Zem.D):Z44.lp 0 x=none:=by kernel_rfl
theorem Zux(k:Nat):EOK Tryz.prog Z0 k Z44.E (.block 1 (.loop Z9J)):=Zd T_ok Z2O Zwx ZwH ZwX k
noncomputable def Z6Z:Code:=(findCut 40 ZQ).getD .skip
theorem ZrX(k:Nat)(i:ZV.inp.D):ZV.lp k i=exec Z0 k Z6Z (ZV.inp.st Z0.n i) (outK Z0 ZV) (fun _ _=>none) ZV.mkB:=by kernel_rfl
theorem ZrH(k:Nat):EOK Tryz.prog Z0 k ZV.E Z6Z:=Zyb (D:=ZV) T_ok (Z2O k) (ZrX k) (@LOK.by _ _ _ _ Z6Z [] (by kernel_rfl) AllOK.nil)
noncomputable def Z7r:Code:=(findCut 27 ZQ).getD .skip
theorem ZsV(k:Nat)(i:ZW.inp.D):ZW.lp k i=exec Z0 k Z7r (ZW.inp.st Z0.n i) (outK Z0 ZW) (fun _ _=>none) ZW.mkB:=by kernel_rfl
theorem Zru(k:Nat):EOK Tryz.prog Z0 k ZW.E Z7r:=Zyb (D:=ZW) T_ok (Z2O k) (ZsV k) (@LOK.by _ _ _ _ Z7r [(ZV.E,Z6Z)] (by kernel_rfl) (AllOK.cons (ZrH k) AllOK.nil))
noncomputable def Z7e:Code:=(findCut 15 ZQ).getD .skip
theorem Zsx(k:Nat)(i:ZX.inp.D):ZX.lp k i=exec Z0 k Z7e (ZX.inp.st Z0.n i) (outK Z0 ZX) (fun _ _=>none) ZX.mkB:=by kernel_rfl
theorem Zrq(k:Nat):EOK Tryz.prog Z0 k ZX.E Z7e:=Zyb (D:=ZX) T_ok (Z2O k) (Zsx k) (@LOK.by _ _ _ _ Z7e [(Z2.E,.region 22 Z4 true),(ZW.E,Z7r)] (by kernel_rfl) (AllOK.cons (ZrE k) (AllOK.cons (Zru k) AllOK.nil)))
theorem ZCR(k:Nat)(x:Tup Z2X.ps):Z2X.f (k+1) x=fnK Z2X Z0 ZQ k x:=by kernel_rfl
theorem ZDP(x:Tup Z2X.ps):Z2X.f 0 x=none:=by kernel_rfl
theorem ZDy(k:Nat):LOK Tryz.prog Z0 k ZQ:=LOK.by [(Zx.E,.cond (.tmp 25) Z7w Z7j),(Zy.E,.cond (.tmp 44) Z7m Z7h),(Z44.E,.block 1 (.loop Z9J)),(ZX.E,Z7e)] (by kernel_rfl) (AllOK.cons (Zrl k) (AllOK.cons (ZqZ k) (AllOK.cons (Zux k) (AllOK.cons (Zrq k) AllOK.nil))))
theorem ZCp(k:Nat):SoundAt Tryz.prog k 100 Z2X.E:= @Z5 Tryz.prog Z2X Z0 100 Tryz.f100 ZQ (by kernel_rfl) (by kernel_rfl) (by kernel_rfl) Tryz.func100 (by kernel_rfl) (by kernel_rfl) (by kernel_rfl) T_ok Z2O ZDy ZDP ZCR k
end
end
section
noncomputable section
noncomputable def Z8m:List PK:=[PK.mk (.slice 3 I6) false none false none,PK.mk .bool false none false none]
noncomputable def ZnX:List PK:=[PK.mk (.pair I6 (.pair I6 (.slice 76 P6))) true none false none,PK.mk I6 false none false none,PK.mk (.pair I6 (.slice 3 I6)) true none false none]
noncomputable def Zn7(r:List Int×Bool):Tup Z8m×OutD:=((r.1,r.2,()),none)
noncomputable def Zmx:Tup Z8m×OutD→Option (List Int×Bool)
 |(a,none)=>some (a.1,a.2.1)
 |_=>none
theorem ZtK: ∀b r,Zmx b=some r→Zn7 r=b:=by
 rintro ⟨a,_|_⟩ r h<;>cases h;rfl
noncomputable def ZcR:Nat→Int×Int×List (Int×Int)→Int→Int×List Int→Option (List Int×Bool)
 |0,_,_,_=>none
 |k+1,p0,p1,p2=>
  Option.bind (Zbp k (p0.1,p0.2.1,p0.2.2) p1) fun z0=>if (!z0)=true then some ([],false) else Option.bind (ZeT k (p2.1,p2.2)) fun z1=>if (!z1)=true then some ([],false) else if p2.1<0 then none else if decide (p0.2.1≠shlS (1:Int) p2.1)=true then some ([],false) else Option.bind (Za1 k (p0.1,p0.2.1,p0.2.2) p1) fun z2=>Option.bind (ZgW k z2 (p2.1,p2.2)) fun z3=>some (z3,true)
noncomputable def Z2T:FnDef:= .of ZnX Z8m (List Int×Bool) (fun k x=>ZcR k x.1 x.2.1 x.2.2.1) Zn7 Zmx ZtK
noncomputable def Zh6:Code:=Tryz.f8.body.getD .skip
noncomputable def ZcL:Ctx (Tup Z8m×OutD):={T:=T,G:=[(35,Z2z.E),(30,Z51.E),(37,Z2A.E),(36,Z30.E)],mvs:=[],no:=0,n:=30,res:=resOf T ZnX Z8m Tryz.f8.results.toList,loops:=[],regs:=[],conds:=[],cuts:=[]}
theorem ZCV(k:Nat):EnvOK Tryz.prog k ZcL.G:=(EnvOK.cons (ZzO k) (EnvOK.cons (Zy6 k) (EnvOK.cons (Zp4 k) (EnvOK.cons (ZCY k) (EnvOK.nil mixed)))))
theorem ZCt(k:Nat)(x:Tup Z2T.ps):Z2T.f (k+1) x=fnK Z2T ZcL Zh6 k x:=by kernel_rfl
theorem ZDf(x:Tup Z2T.ps):Z2T.f 0 x=none:=by kernel_rfl
theorem ZDs(k:Nat):LOK Tryz.prog ZcL k Zh6:=LOK.by [] (by kernel_rfl) AllOK.nil
theorem ZDQ(k:Nat):SoundAt Tryz.prog k 8 Z2T.E:= @Z5 Tryz.prog Z2T ZcL 8 Tryz.f8 Zh6 (by kernel_rfl) (by kernel_rfl) (by kernel_rfl) Tryz.func8 (by kernel_rfl) (by kernel_rfl) (by kernel_rfl) T_ok ZCV ZDs ZDf ZCt k
noncomputable def Z5O:List PK:=[PK.mk (.pair I6 (.slice 3 I6)) true none false none,PK.mk .bool false none false none]
noncomputable def ZnS:List PK:=[PK.mk (.pair I6 (.pair I6 (.slice 76 P6))) true none false none,PK.mk I6 false none false none,PK.mk I6 false none false none]
noncomputable def ZfK(r:(Int×List Int)×Bool):Tup Z5O×OutD:=((r.1,r.2,()),none)
noncomputable def Zg0:Tup Z5O×OutD→Option ((Int×List Int)×Bool)
 |(a,none)=>some (a.1,a.2.1)
 |_=>none
theorem Zjg: ∀b r,Zg0 b=some r→ZfK r=b:=by
 rintro ⟨a,_|_⟩ r h<;>cases h;rfl
noncomputable def Z4x:Nat→Int→List Int→List Int→Int→Int→Int→Option (LR (Int×List Int×List Int×Int) ((Int×List Int)×Bool))
 |0,_,_,_,_,_,_=>none
 |k+1,b1_0,o2,o3,v2,v44,v45=>
  if decide (v45<v44)=true then if (0:Int)≤v45 then if v45<(↑(List.length o3):Int) then if decide (List.getD o3 (Int.toNat v45) (0:Int)<0)=true then some (LR.ret (((0:Int),[]),false)) else Z4x k b1_0 o2 o3 v2 v44 (wrap64 (v45+1)) else none else none else some (LR.go (b1_0,o2,o3,v2))
noncomputable def Zel:Spec:=Spec.mk [.ro,.box 24 [.int .i64,.sl 2],O1,O1] [(2,.at (.int .i64)),(6,.at (.ptr 1 0)),(8,.at (.sl 3)),(43,.at (.sl 3)),(44,.at (.int .i64)),(45,.at (.int .i64))]
noncomputable def Zw9:Spec:=Spec.mk [.ro,.box 24 [.int .i64,.sl 2],O1,O1] [(2,.at (.int .i64)),(6,.at (.ptr 1 0)),(8,.at (.sl 3))]
noncomputable def Z3Y:LoopDef (Tup Z5O×OutD):= .rets Zel Zw9 (Int×List Int×List Int×Int) ((Int×List Int)×Bool) (fun k x=>Z4x k x.1.2.1.1 x.1.2.2.1 x.1.2.2.2.1 x.2.1 x.2.2.2.2.2.1 x.2.2.2.2.2.2.1) (fun z=>(((),(z.1,(),()),z.2.1,z.2.2.1,()),(z.2.2.2,(),(),()))) (fun y=>(y.1.2.1.1,y.1.2.2.1,y.1.2.2.2.1,y.2.1)) (fun _=>rfl) ZfK Zg0 Zjg
noncomputable def ZcK:Nat→Int×Int×List (Int×Int)→Int→Int→Option ((Int×List Int)×Bool)
 |0,_,_,_=>none
 |k+1,p0,p1,p2=>
  Option.bind (Z3W k (p0.1,p0.2.1,p0.2.2)) fun z0=>if (!z0)=true then some (((0:Int),[]),false) else if decide (p2<0)=true then some (((0:Int),[]),false) else if decide (p2>3)=true then some (((0:Int),[]),false) else if p2<0 then none else if decide (p0.2.1≠shlS (1:Int) p2)=true then some (((0:Int),[]),false) else if decide (p1<0)=true then some (((0:Int),[]),false) else if decide (p1>p0.2.1)=true then some (((0:Int),[]),false) else Option.bind (Za1 k (p0.1,p0.2.1,p0.2.2) p1) fun z1=>Option.bind (Z4x k (0:Int) [] z1 p2 (↑(List.length z1):Int) (0:Int)) fun z2=>LR.on z2 (fun y2=>some ((y2.2.2.2,y2.2.2.1),true)) fun r2=>some r2
noncomputable def Z2Y:FnDef:= .of ZnS Z5O ((Int×List Int)×Bool) (fun k x=>ZcK k x.1 x.2.1 x.2.2.1) ZfK Zg0 Zjg
noncomputable def ZcS:Code:=Tryz.f9.body.getD .skip
noncomputable def Z4h:Ctx (Tup Z5O×OutD):={T:=T,G:=[(38,Z1z.E),(37,Z2A.E)],mvs:=[],no:=0,n:=56,res:=resOf T ZnS Z5O Tryz.f9.results.toList,loops:=[(0,Z3Y.E)],regs:=[],conds:=[],cuts:=[]}
theorem ZnC(k:Nat):EnvOK Tryz.prog k Z4h.G:=(EnvOK.cons (Z8S k) (EnvOK.cons (Zp4 k) (EnvOK.nil mixed)))
noncomputable def Z9N:Code:=(findLoop 0 ZcS).getD .skip
theorem ZvY(k:Nat)(x:Zel.D):Z3Y.lp (k+1) x=loopK Z4h Z3Y 0 Z9N k x:=by kernel_rfl
theorem Zxi(k:Nat):LOK Tryz.prog Z4h k Z9N:=LOK.by [] (by kernel_rfl) AllOK.nil
theorem Zwm(x:Zel.D):Z3Y.lp 0 x=none:=by kernel_rfl
theorem ZtZ(k:Nat):EOK Tryz.prog Z4h k Z3Y.E (.block 0 (.loop Z9N)):=Zd T_ok ZnC Zwm ZvY Zxi k
theorem ZCX(k:Nat)(x:Tup Z2Y.ps):Z2Y.f (k+1) x=fnK Z2Y Z4h ZcS k x:=by kernel_rfl
theorem ZDw(x:Tup Z2Y.ps):Z2Y.f 0 x=none:=by kernel_rfl
theorem ZDO(k:Nat):LOK Tryz.prog Z4h k ZcS:=LOK.by [(Z3Y.E,.block 0 (.loop Z9N))] (by kernel_rfl) (AllOK.cons (ZtZ k) AllOK.nil)
theorem ZCJ(k:Nat):SoundAt Tryz.prog k 9 Z2Y.E:= @Z5 Tryz.prog Z2Y Z4h 9 Tryz.f9 ZcS (by kernel_rfl) (by kernel_rfl) (by kernel_rfl) Tryz.func9 (by kernel_rfl) (by kernel_rfl) (by kernel_rfl) T_ok ZnC ZDO ZDw ZCX k
noncomputable def Z5q:List PK:=[PK.mk (.pair I6 (.slice 3 I6)) true none false none]
noncomputable def Zj7:List PK:=[PK.mk (.slice 5 (.int .u8)) false none false none]
noncomputable def Zib(r:Int×List Int):Tup Z5q×OutD:=((r,()),none)
noncomputable def ZhZ:Tup Z5q×OutD→Option (Int×List Int)
 |(a,none)=>some (a.1)
 |_=>none
theorem Zpb: ∀b r,ZhZ b=some r→Zib r=b:=by
 rintro ⟨a,_|_⟩ r h<;>cases h;rfl
noncomputable def Z8d:Nat→List Int→Option (Int×List Int)
 |0,_=>none
 |k+1,p0=>
  Option.bind (Z86 k (p0,(0:Int),(0:Int))) fun z0=>some (z0.1.1,z0.1.2)
noncomputable def Z1E:FnDef:= .of Zj7 Z5q (Int×List Int) (fun k x=>Z8d k x.1) Zib ZhZ Zpb
noncomputable def Zd3:Code:=Tryz.f27.body.getD .skip
noncomputable def Z8f:Ctx (Tup Z5q×OutD):={T:=T,G:=[(60,Z1F.E)],mvs:=[],no:=0,n:=9,res:=resOf T Zj7 Z5q Tryz.f27.results.toList,loops:=[],regs:=[],conds:=[],cuts:=[]}
theorem Zuh(k:Nat):EnvOK Tryz.prog k Z8f.G:=(EnvOK.cons (Zuj k) (EnvOK.nil mixed))
theorem ZtP(k:Nat)(x:Tup Z1E.ps):Z1E.f (k+1) x=fnK Z1E Z8f Zd3 k x:=by kernel_rfl
theorem ZtV(x:Tup Z1E.ps):Z1E.f 0 x=none:=by kernel_rfl
theorem ZtJ(k:Nat):LOK Tryz.prog Z8f k Zd3:=LOK.by [] (by kernel_rfl) AllOK.nil
theorem Zu3(k:Nat):SoundAt Tryz.prog k 27 Z1E.E:= @Z5 Tryz.prog Z1E Z8f 27 Tryz.f27 Zd3 (by kernel_rfl) (by kernel_rfl) (by kernel_rfl) Tryz.func27 (by kernel_rfl) (by kernel_rfl) (by kernel_rfl) T_ok Zuh ZtJ ZtV ZtP k
noncomputable def Z4N:List PK:=[PK.mk (.pair I6 (.pair I6 (.pair (.slice 76 P6) (.pair (.slice 3 I6) (.slice 3 I6))))) true none false none]
noncomputable def Zi9:List PK:=[PK.mk (.slice 5 (.int .u8)) false none false none]
noncomputable def Zhx(r:Int×Int×List (Int×Int)×List Int×List Int):Tup Z4N×OutD:=((r,()),none)
noncomputable def Zht:Tup Z4N×OutD→Option (Int×Int×List (Int×Int)×List Int×List Int)
 |(a,none)=>some (a.1)
 |_=>none
theorem Zon: ∀b r,Zht b=some r→Zhx r=b:=by
 rintro ⟨a,_|_⟩ r h<;>cases h;rfl
noncomputable def Z7c:Nat→List Int→Option (Int×Int×List (Int×Int)×List Int×List Int)
 |0,_=>none
 |k+1,p0=>
  Option.bind (Ze3 k p0) fun z0=>some (z0.1,z0.2.1,z0.2.2.1,z0.2.2.2.1,z0.2.2.2.2)
noncomputable def Z1t:FnDef:= .of Zi9 Z4N (Int×Int×List (Int×Int)×List Int×List Int) (fun k x=>Z7c k x.1) Zhx Zht Zon
noncomputable def Zcq:Code:=Tryz.f28.body.getD .skip
noncomputable def Z7n:Ctx (Tup Z4N×OutD):={T:=T,G:=[(61,Z1V.E)],mvs:=[],no:=0,n:=5,res:=resOf T Zi9 Z4N Tryz.f28.results.toList,loops:=[],regs:=[],conds:=[],cuts:=[]}
theorem Zsw(k:Nat):EnvOK Tryz.prog k Z7n.G:=(EnvOK.cons (Zwr k) (EnvOK.nil mixed))
theorem ZtB(k:Nat)(x:Tup Z1t.ps):Z1t.f (k+1) x=fnK Z1t Z7n Zcq k x:=by kernel_rfl
theorem Zsd(x:Tup Z1t.ps):Z1t.f 0 x=none:=by kernel_rfl
theorem ZsI(k:Nat):LOK Tryz.prog Z7n k Zcq:=LOK.by [] (by kernel_rfl) AllOK.nil
theorem ZsZ(k:Nat):SoundAt Tryz.prog k 28 Z1t.E:= @Z5 Tryz.prog Z1t Z7n 28 Tryz.f28 Zcq (by kernel_rfl) (by kernel_rfl) (by kernel_rfl) Tryz.func28 (by kernel_rfl) (by kernel_rfl) (by kernel_rfl) T_ok Zsw ZsI Zsd ZtB k
noncomputable def Z62:List PK:=[PK.mk (.pair I6 (.pair I6 (.slice 76 P6))) true none false none,PK.mk (.slice 3 I6) false none false none,PK.mk (.slice 40 T6) false none false none]
noncomputable def Zk9:List PK:=[PK.mk (.slice 5 (.int .u8)) false none false none]
noncomputable def Zjc(r:(Int×Int×List (Int×Int))×List Int×List (Int×Int×Int)):Tup Z62×OutD:=((r.1,r.2.1,r.2.2,()),none)
noncomputable def Zj9:Tup Z62×OutD→Option ((Int×Int×List (Int×Int))×List Int×List (Int×Int×Int))
 |(a,none)=>some (a.1,a.2.1,a.2.2.1)
 |_=>none
theorem Zqf: ∀b r,Zj9 b=some r→Zjc r=b:=by
 rintro ⟨a,_|_⟩ r h<;>cases h;rfl
noncomputable def Z9y:Nat→List Int→Option ((Int×Int×List (Int×Int))×List Int×List (Int×Int×Int))
 |0,_=>none
 |k+1,p0=>
  Option.bind (ZcB k (p0,(0:Int),(0:Int))) fun z0=>some ((z0.1.1,z0.1.2.1,z0.1.2.2),z0.2.1,z0.2.2.1)
noncomputable def Z1R:FnDef:= .of Zk9 Z62 ((Int×Int×List (Int×Int))×List Int×List (Int×Int×Int)) (fun k x=>Z9y k x.1) Zjc Zj9 Zqf
noncomputable def Zen:Code:=Tryz.f62.body.getD .skip
noncomputable def Z9u:Ctx (Tup Z62×OutD):={T:=T,G:=[(100,Z2X.E)],mvs:=[],no:=0,n:=14,res:=resOf T Zk9 Z62 Tryz.f62.results.toList,loops:=[],regs:=[],conds:=[],cuts:=[]}
theorem Zwk(k:Nat):EnvOK Tryz.prog k Z9u.G:=(EnvOK.cons (ZCp k) (EnvOK.nil mixed))
theorem ZwB(k:Nat)(x:Tup Z1R.ps):Z1R.f (k+1) x=fnK Z1R Z9u Zen k x:=by kernel_rfl
theorem Zwo(x:Tup Z1R.ps):Z1R.f 0 x=none:=by kernel_rfl
theorem Zx6(k:Nat):LOK Tryz.prog Z9u k Zen:=LOK.by [] (by kernel_rfl) AllOK.nil
theorem Zw8(k:Nat):SoundAt Tryz.prog k 62 Z1R.E:= @Z5 Tryz.prog Z1R Z9u 62 Tryz.f62 Zen (by kernel_rfl) (by kernel_rfl) (by kernel_rfl) Tryz.func62 (by kernel_rfl) (by kernel_rfl) (by kernel_rfl) T_ok Zwk Zx6 Zwo ZwB k
end
end
section
noncomputable section
noncomputable def Z5p:List PK:=[PK.mk (.pair I6 (.pair I6 (.slice 76 P6))) true none false none,PK.mk (.slice 3 I6) false none false none,PK.mk (.slice 40 T6) false none false none]
noncomputable def Zjf:List PK:=[PK.mk (.slice 5 (.int .u8)) false none false none]
noncomputable def ZhQ(r:(Int×Int×List (Int×Int))×List Int×List (Int×Int×Int)):Tup Z5p×OutD:=((r.1,r.2.1,r.2.2,()),none)
noncomputable def Zi2:Tup Z5p×OutD→Option ((Int×Int×List (Int×Int))×List Int×List (Int×Int×Int))
 |(a,none)=>some (a.1,a.2.1,a.2.2.1)
 |_=>none
theorem Zpu: ∀b r,Zi2 b=some r→ZhQ r=b:=by
 rintro ⟨a,_|_⟩ r h<;>cases h;rfl
noncomputable def Z88:Nat→List Int→Option ((Int×Int×List (Int×Int))×List Int×List (Int×Int×Int))
 |0,_=>none
 |k+1,p0=>
  Option.bind (Z9y k p0) fun z0=>some ((z0.1.1,z0.1.2.1,z0.1.2.2),z0.2.1,z0.2.2)
noncomputable def Z1G:FnDef:= .of Zjf Z5p ((Int×Int×List (Int×Int))×List Int×List (Int×Int×Int)) (fun k x=>Z88 k x.1) ZhQ Zi2 Zpu
noncomputable def ZcY:Code:=Tryz.f29.body.getD .skip
noncomputable def Z8g:Ctx (Tup Z5p×OutD):={T:=T,G:=[(62,Z1R.E)],mvs:=[],no:=0,n:=10,res:=resOf T Zjf Z5p Tryz.f29.results.toList,loops:=[],regs:=[],conds:=[],cuts:=[]}
theorem Zu8(k:Nat):EnvOK Tryz.prog k Z8g.G:=(EnvOK.cons (Zw8 k) (EnvOK.nil mixed))
theorem ZtF(k:Nat)(x:Tup Z1G.ps):Z1G.f (k+1) x=fnK Z1G Z8g ZcY k x:=by kernel_rfl
theorem ZtR(x:Tup Z1G.ps):Z1G.f 0 x=none:=by kernel_rfl
theorem ZtG(k:Nat):LOK Tryz.prog Z8g k ZcY:=LOK.by [] (by kernel_rfl) AllOK.nil
theorem Zu0(k:Nat):SoundAt Tryz.prog k 29 Z1G.E:= @Z5 Tryz.prog Z1G Z8g 29 Tryz.f29 ZcY (by kernel_rfl) (by kernel_rfl) (by kernel_rfl) Tryz.func29 (by kernel_rfl) (by kernel_rfl) (by kernel_rfl) T_ok Zu8 ZtG ZtR ZtF k
end
end
end Go.Proofs.YtmhfhiofcoggbaaGreat.Vs
