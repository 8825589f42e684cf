/- The proof, part 11. -/
import Derived.Test.YtmhfhiofcoggbaaGreatqT2m9
set_option maxRecDepth 100000
set_option maxHeartbeats 2000000
set_option linter.unusedVariables false
set_option linter.unusedSimpArgs false
namespace Go.Proofs.YtmhfhiofcoggbaaGreat.Vs
open Go.RowKit
section
noncomputable section
noncomputable def Z7p:List PK:=[PK.mk (.pair I6 (.pair I6 (.slice 76 P6))) true none false none,PK.mk .bool false none false none]
noncomputable def Zmy:List PK:=[PK.mk (.pair I6 (.pair I6 (.pair (.slice 76 P6) (.pair (.slice 3 I6) (.slice 3 I6))))) true none false none]
noncomputable def ZlL(r:(Int×Int×List (Int×Int))×Bool):Tup Z7p×OutD:=((r.1,r.2,()),none)
noncomputable def ZlD:Tup Z7p×OutD→Option ((Int×Int×List (Int×Int))×Bool)
 |(a,none)=>some (a.1,a.2.1)
 |_=>none
theorem ZsY: ∀b r,ZlD b=some r→ZlL r=b:=by
 rintro ⟨a,_|_⟩ r h<;>cases h;rfl
noncomputable def Zbq:Nat→Int×Int×List (Int×Int)×List Int×List Int→Option ((Int×Int×List (Int×Int))×Bool)
 |0,_=>none
 |k+1,p0=>
  Option.bind (ZgL k (p0.1,p0.2.1,p0.2.2.1,p0.2.2.2.1,p0.2.2.2.2)) fun z0=>if (!z0)=true then some (((0:Int),(0:Int),[]),false) else Option.bind (Zfn k (p0.1,p0.2.1,p0.2.2.1,p0.2.2.2.1,p0.2.2.2.2)) fun z1=>if decide (z1.2.2<0)=true then some (((0:Int),(0:Int),[]),false) else Option.bind (Zi k (p0.1,p0.2.1,p0.2.2.1,p0.2.2.2.1,p0.2.2.2.2) z1.2.2) fun z2=>some ((z2.1,z2.2.1,z2.2.2),true)
noncomputable def Z2w:FnDef:= .of Zmy Z7p ((Int×Int×List (Int×Int))×Bool) (fun k x=>Zbq k x.1) ZlL ZlD ZsY
noncomputable def ZfO:Code:=Tryz.f13.body.getD .skip
noncomputable def ZbB:Ctx (Tup Z7p×OutD):={T:=T,G:=[(45,Z69.E),(46,Z5h.E),(47,Z3W.E)],mvs:=[],no:=0,n:=23,res:=resOf T Zmy Z7p Tryz.f13.results.toList,loops:=[],regs:=[],conds:=[],cuts:=[]}
theorem ZzI(k:Nat):EnvOK Tryz.prog k ZbB.G:=(EnvOK.cons (ZB5 k) (EnvOK.cons (Zzj k) (EnvOK.cons (Zoy k) (EnvOK.nil mixed))))
theorem ZAz(k:Nat)(x:Tup Z2w.ps):Z2w.f (k+1) x=fnK Z2w ZbB ZfO k x:=by kernel_rfl
theorem ZAC(x:Tup Z2w.ps):Z2w.f 0 x=none:=by kernel_rfl
theorem ZAF(k:Nat):LOK Tryz.prog ZbB k ZfO:=LOK.by [] (by kernel_rfl) AllOK.nil
theorem ZzH(k:Nat):SoundAt Tryz.prog k 13 Z2w.E:= @Z5 Tryz.prog Z2w ZbB 13 Tryz.f13 ZfO (by kernel_rfl) (by kernel_rfl) (by kernel_rfl) Tryz.func13 (by kernel_rfl) (by kernel_rfl) (by kernel_rfl) T_ok ZzI ZAF ZAC ZAz k
noncomputable def Z63:List PK:=[PK.mk (.slice 3 I6) false none false none,PK.mk .bool false none false none]
noncomputable def Zk2:List PK:=[PK.mk (.pair I6 (.pair I6 (.pair (.slice 76 P6) (.pair (.slice 3 I6) (.slice 3 I6))))) true none false none]
noncomputable def Zjg(r:List Int×Bool):Tup Z63×OutD:=((r.1,r.2,()),none)
noncomputable def Zji:Tup Z63×OutD→Option (List Int×Bool)
 |(a,none)=>some (a.1,a.2.1)
 |_=>none
theorem Zq8: ∀b r,Zji b=some r→Zjg r=b:=by
 rintro ⟨a,_|_⟩ r h<;>cases h;rfl
noncomputable def Z9H:Nat→Int×Int×List (Int×Int)×List Int×List Int→Option (List Int×Bool)
 |0,_=>none
 |k+1,p0=>
  Option.bind (ZgL k (p0.1,p0.2.1,p0.2.2.1,p0.2.2.2.1,p0.2.2.2.2)) fun z0=>if (!z0)=true then some ([],false) else Option.bind (Zfn k (p0.1,p0.2.1,p0.2.2.1,p0.2.2.2.1,p0.2.2.2.2)) fun z1=>some (z1.1,true)
noncomputable def Z1Q:FnDef:= .of Zk2 Z63 (List Int×Bool) (fun k x=>Z9H k x.1) Zjg Zji Zq8
noncomputable def Zej:Code:=Tryz.f16.body.getD .skip
noncomputable def Z9s:Ctx (Tup Z63×OutD):={T:=T,G:=[(45,Z69.E),(46,Z5h.E)],mvs:=[],no:=0,n:=17,res:=resOf T Zk2 Z63 Tryz.f16.results.toList,loops:=[],regs:=[],conds:=[],cuts:=[]}
theorem Zx6(k:Nat):EnvOK Tryz.prog k Z9s.G:=(EnvOK.cons (ZB5 k) (EnvOK.cons (Zzj k) (EnvOK.nil mixed)))
theorem ZwO(k:Nat)(x:Tup Z1Q.ps):Z1Q.f (k+1) x=fnK Z1Q Z9s Zej k x:=by kernel_rfl
theorem Zxk(x:Tup Z1Q.ps):Z1Q.f 0 x=none:=by kernel_rfl
theorem Zwj(k:Nat):LOK Tryz.prog Z9s k Zej:=LOK.by [] (by kernel_rfl) AllOK.nil
theorem Zwx(k:Nat):SoundAt Tryz.prog k 16 Z1Q.E:= @Z5 Tryz.prog Z1Q Z9s 16 Tryz.f16 Zej (by kernel_rfl) (by kernel_rfl) (by kernel_rfl) Tryz.func16 (by kernel_rfl) (by kernel_rfl) (by kernel_rfl) T_ok Zx6 Zwj Zxk ZwO k
noncomputable def Z8u:List PK:=[PK.mk (.slice 58 T6) false none false none,PK.mk .bool false none false none]
noncomputable def ZnU:List PK:=[PK.mk (.pair I6 (.pair I6 (.slice 76 P6))) true none false none,PK.mk (.slice 3 I6) false none false none,PK.mk (.slice 40 T6) false none false none]
noncomputable def Zmk(r:List (Int×Int×Int)×Bool):Tup Z8u×OutD:=((r.1,r.2,()),none)
noncomputable def ZlY:Tup Z8u×OutD→Option (List (Int×Int×Int)×Bool)
 |(a,none)=>some (a.1,a.2.1)
 |_=>none
theorem Zu1: ∀b r,ZlY b=some r→Zmk r=b:=by
 rintro ⟨a,_|_⟩ r h<;>cases h;rfl
noncomputable def ZcV:Nat→Int×Int×List (Int×Int)→List Int→List (Int×Int×Int)→Option (List (Int×Int×Int)×Bool)
 |0,_,_,_=>none
 |k+1,p0,p1,p2=>
  Option.bind (ZgQ k (p0.1,p0.2.1,p0.2.2) p1 p2) fun z0=>if (!z0)=true then some ([],false) else Option.bind (ZcO k (p0.1,p0.2.1,p0.2.2) p1 p2) fun z1=>some (z1,true)
noncomputable def Z2S:FnDef:= .of ZnU Z8u (List (Int×Int×Int)×Bool) (fun k x=>ZcV k x.1 x.2.1 x.2.2.1) Zmk ZlY Zu1
noncomputable def ZgZ:Code:=Tryz.f21.body.getD .skip
noncomputable def ZcG:Ctx (Tup Z8u×OutD):={T:=T,G:=[(52,Z6g.E),(53,Z2Q.E)],mvs:=[],no:=0,n:=17,res:=resOf T ZnU Z8u Tryz.f21.results.toList,loops:=[],regs:=[],conds:=[],cuts:=[]}
theorem ZD2(k:Nat):EnvOK Tryz.prog k ZcG.G:=(EnvOK.cons (ZBf k) (EnvOK.cons (ZDC k) (EnvOK.nil mixed)))
theorem ZDE(k:Nat)(x:Tup Z2S.ps):Z2S.f (k+1) x=fnK Z2S ZcG ZgZ k x:=by kernel_rfl
theorem ZCH(x:Tup Z2S.ps):Z2S.f 0 x=none:=by kernel_rfl
theorem ZDB(k:Nat):LOK Tryz.prog ZcG k ZgZ:=LOK.by [] (by kernel_rfl) AllOK.nil
theorem ZCp(k:Nat):SoundAt Tryz.prog k 21 Z2S.E:= @Z5 Tryz.prog Z2S ZcG 21 Tryz.f21 ZgZ (by kernel_rfl) (by kernel_rfl) (by kernel_rfl) Tryz.func21 (by kernel_rfl) (by kernel_rfl) (by kernel_rfl) T_ok ZD2 ZDB ZCH ZDE k
noncomputable def Z8k:List PK:=[PK.mk (.slice 58 T6) false none false none,PK.mk .bool false none false none]
noncomputable def Zns:List PK:=[PK.mk (.pair I6 (.pair I6 (.slice 76 P6))) true none false none,PK.mk (.slice 3 I6) false none false none,PK.mk (.slice 40 T6) false none false none]
noncomputable def Znc(r:List (Int×Int×Int)×Bool):Tup Z8k×OutD:=((r.1,r.2,()),none)
noncomputable def Zmd:Tup Z8k×OutD→Option (List (Int×Int×Int)×Bool)
 |(a,none)=>some (a.1,a.2.1)
 |_=>none
theorem Zuc: ∀b r,Zmd b=some r→Znc r=b:=by
 rintro ⟨a,_|_⟩ r h<;>cases h;rfl
noncomputable def ZcF:Nat→Int×Int×List (Int×Int)→List Int→List (Int×Int×Int)→Option (List (Int×Int×Int)×Bool)
 |0,_,_,_=>none
 |k+1,p0,p1,p2=>
  Option.bind (Zks k (p0.1,p0.2.1,p0.2.2) p1 p2) fun z0=>if (!z0)=true then some ([],false) else Option.bind (Zhh k (p0.1,p0.2.1,p0.2.2) p1 p2) fun z1=>some (z1,true)
noncomputable def Z2Z:FnDef:= .of Zns Z8k (List (Int×Int×Int)×Bool) (fun k x=>ZcF k x.1 x.2.1 x.2.2.1) Znc Zmd Zuc
noncomputable def Zh7:Code:=Tryz.f22.body.getD .skip
noncomputable def ZcL:Ctx (Tup Z8k×OutD):={T:=T,G:=[(54,Z85.E),(55,Z5H.E)],mvs:=[],no:=0,n:=17,res:=resOf T Zns Z8k Tryz.f22.results.toList,loops:=[],regs:=[],conds:=[],cuts:=[]}
theorem ZCo(k:Nat):EnvOK Tryz.prog k ZcL.G:=(EnvOK.cons (ZQH k) (EnvOK.cons (ZM2 k) (EnvOK.nil mixed)))
theorem ZDW(k:Nat)(x:Tup Z2Z.ps):Z2Z.f (k+1) x=fnK Z2Z ZcL Zh7 k x:=by kernel_rfl
theorem ZD3(x:Tup Z2Z.ps):Z2Z.f 0 x=none:=by kernel_rfl
theorem ZCO(k:Nat):LOK Tryz.prog ZcL k Zh7:=LOK.by [] (by kernel_rfl) AllOK.nil
theorem ZCS(k:Nat):SoundAt Tryz.prog k 22 Z2Z.E:= @Z5 Tryz.prog Z2Z ZcL 22 Tryz.f22 Zh7 (by kernel_rfl) (by kernel_rfl) (by kernel_rfl) Tryz.func22 (by kernel_rfl) (by kernel_rfl) (by kernel_rfl) T_ok ZCo ZCO ZD3 ZDW k
noncomputable def Z6y:List PK:=[PK.mk (.slice 3 I6) false none false none]
noncomputable def Zp3:List PK:=[PK.mk (.pair I6 (.pair I6 (.slice 76 P6))) true none false none,PK.mk I6 false none false none]
noncomputable def ZnR(r:List Int):Tup Z6y×OutD:=((r,()),none)
noncomputable def Zny:Tup Z6y×OutD→Option (List Int)
 |(a,none)=>some (a.1)
 |_=>none
theorem ZwU: ∀b r,Zny b=some r→ZnR r=b:=by
 rintro ⟨a,_|_⟩ r h<;>cases h;rfl
noncomputable def Z5k:Nat→Int→Int→List (Int×Int)→List Int→Int→Int→Option (List Int)
 |0,_,_,_,_,_,_=>none
 |k+1,b1_0,b1_1,b1_2,o2,v1,v6=>
  if decide (v6<b1_1)=true then Option.bind (ZcE k (b1_0,b1_1,b1_2) v1 v6) fun z0=>if List.length o2+List.length [z0]≤(140737488355328/8:Nat) then Z5k k b1_0 b1_1 b1_2 (o2++[z0]) v1 (wrap64 (v6+1)) else none else some o2
noncomputable def ZeP:Spec:=Spec.mk [.ro,O2,O1] [(1,.at (.int .i64)),(2,.at (.ptr 1 0)),(5,.at (.sl 2)),(6,.at (.int .i64))]
noncomputable def ZxT:Spec:=Spec.mk [.ro,O1] [(5,.at (.sl 1))]
noncomputable def Z4B:LoopDef (Tup Z6y×OutD):= .plain ZeP ZxT (List Int) (fun k x=>Z5k k x.1.2.1.1 x.1.2.1.2.1 x.1.2.1.2.2.1 x.1.2.2.1 x.2.1 x.2.2.2.2.1) (fun z=>(((),z,()),((),()))) (fun y=>(y.1.2.1)) (fun _=>rfl)
noncomputable def Za2:Nat→Int×Int×List (Int×Int)→Int→Option (List Int)
 |0,_,_=>none
 |k+1,p0,p1=>
  Option.bind (Z5k k p0.1 p0.2.1 p0.2.2 [] p1 (0:Int)) fun z1=>some z1
noncomputable def Z2y:FnDef:= .of Zp3 Z6y (List Int) (fun k x=>Za2 k x.1 x.2.1) ZnR Zny ZwU
noncomputable def Zdx:Code:=Tryz.f37.body.getD .skip
noncomputable def Z4S:Ctx (Tup Z6y×OutD):={T:=T,G:=[(68,Z2O.E)],mvs:=[],no:=0,n:=22,res:=resOf T Zp3 Z6y Tryz.f37.results.toList,loops:=[(0,Z4B.E)],regs:=[],conds:=[],cuts:=[]}
theorem ZpD(k:Nat):EnvOK Tryz.prog k Z4S.G:=(EnvOK.cons (ZCx k) (EnvOK.nil mixed))
noncomputable def ZaA:Code:=(findLoop 0 Zdx).getD .skip
theorem Zyc(k:Nat)(x:ZeP.D):Z4B.lp (k+1) x=loopK Z4S Z4B 0 ZaA k x:=by kernel_rfl
theorem Zzk(k:Nat):LOK Tryz.prog Z4S k ZaA:=LOK.by [] (by kernel_rfl) AllOK.nil
theorem Zz7(x:ZeP.D):Z4B.lp 0 x=none:=by kernel_rfl
theorem ZvX(k:Nat):EOK Tryz.prog Z4S k Z4B.E (.block 0 (.loop ZaA)):=Zd T_ok ZpD Zz7 Zyc Zzk k
theorem ZEf(k:Nat)(x:Tup Z2y.ps):Z2y.f (k+1) x=fnK Z2y Z4S Zdx k x:=by kernel_rfl
theorem ZFB(x:Tup Z2y.ps):Z2y.f 0 x=none:=by kernel_rfl
theorem ZE5(k:Nat):LOK Tryz.prog Z4S k Zdx:=LOK.by [(Z4B.E,.block 0 (.loop ZaA))] (by kernel_rfl) (AllOK.cons (ZvX k) AllOK.nil)
theorem ZpG(k:Nat):SoundAt Tryz.prog k 37 Z2y.E:= @Z5 Tryz.prog Z2y Z4S 37 Tryz.f37 Zdx (by kernel_rfl) (by kernel_rfl) (by kernel_rfl) Tryz.func37 (by kernel_rfl) (by kernel_rfl) (by kernel_rfl) T_ok ZpD ZE5 ZFB ZEf k
noncomputable def Z5q:List PK:=[PK.mk (.pair I6 (.slice 3 I6)) true none false none]
noncomputable def Zja:List PK:=[PK.mk (.pair (.slice 5 (.int .u8)) (.pair I6 (.int .u64))) false none false (some 105)]
noncomputable def Zis(r:(Int×List Int)×Int×Int):Tup Z5q×OutD:=((r.1,()),some ⟨Ty.pair (Ty.slice (5:Nat) (Ty.int .u8)) (Ty.pair (Ty.int .i64) (Ty.int .u64)),[([],r.2)]⟩)
noncomputable def Zcc:Tup Z5q×OutD→Option ((Int×List Int)×Int×Int)
 |(a,some ⟨u,ys⟩)=>if h:u=Ty.pair (Ty.slice (5:Nat) (Ty.int .u8)) (Ty.pair (Ty.int .i64) (Ty.int .u64)) then (match castU h ys with
  |[([],y)]=>some (a.1,y)
  |_=>none) else none
 |_=>none
theorem Zph: ∀b r,Zcc b=some r→Zis r=b:=by
 rintro ⟨a,o⟩ r h
 cases o with
 |none=>cases h
 |some s=>
  obtain ⟨u,ys⟩:=s
  simp only[Zcc]at h
  split at h
  ·rename_i hu
   subst hu
   match ys,h with
   |[],h=>cases (show (none:Option _)=some r from h)
   |[([],y)],h=>injection (show some _=some r from h) with h;subst h;rfl
   |[(_::_,y)],h=>cases (show (none:Option _)=some r from h)
   |(h1,_)::_::_,h=>cases h1<;>cases (show (none:Option _)=some r from h)
  ·cases h
noncomputable def Z8a:Nat→List Int×Int×Int→Option ((Int×List Int)×Int×Int)
 |0,_=>none
 |k+1,p0=>
  Option.bind (ZK k (p0.1,p0.2.1,p0.2.2) (8:Int)) fun z0=>if z0.1=true then Option.bind (Zat k (p0.1,z0.2.1,z0.2.2)) fun z1=>some ((z1.1.1,z1.1.2),z1.2.1,z1.2.2) else Option.bind (Zb k (p0.1,z0.2.1,z0.2.2) [(0:Int),(1:Int),(2:Int),(3:Int),(3:Int)]) fun z2=>Option.bind (Z70 k (p0.1,z2.2.1,z2.2.2) z2.1) fun z3=>some ((z3.1.1,z3.1.2),z3.2.1,z3.2.2)
noncomputable def Z1H:FnDef:= .of Zja Z5q ((Int×List Int)×Int×Int) (fun k x=>Z8a k x.1) Zis Zcc Zph
noncomputable def ZcY:Code:=Tryz.f60.body.getD .skip
noncomputable def Z8b:Ctx (Tup Z5q×OutD):={T:=T,G:=[(95,ZU.E),(96,Z29.E),(98,Zp.E),(97,Z1N.E)],mvs:=[],no:=2,n:=12,res:=resOf T Zja Z5q Tryz.f60.results.toList,loops:=[],regs:=[],conds:=[],cuts:=[]}
theorem ZtR(k:Nat):EnvOK Tryz.prog k Z8b.G:=(EnvOK.cons (Z6l k) (EnvOK.cons (Zxv k) (EnvOK.cons (Z1S k) (EnvOK.cons (Zmn k) (EnvOK.nil mixed)))))
theorem Zug(k:Nat)(x:Tup Z1H.ps):Z1H.f (k+1) x=fnK Z1H Z8b ZcY k x:=by kernel_rfl
theorem Zu2(x:Tup Z1H.ps):Z1H.f 0 x=none:=by kernel_rfl
theorem ZtW(k:Nat):LOK Tryz.prog Z8b k ZcY:=LOK.by [] (by kernel_rfl) AllOK.nil
theorem Zu8(k:Nat):SoundAt Tryz.prog k 60 Z1H.E:= @Z5 Tryz.prog Z1H Z8b 60 Tryz.f60 ZcY (by kernel_rfl) (by kernel_rfl) (by kernel_rfl) Tryz.func60 (by kernel_rfl) (by kernel_rfl) (by kernel_rfl) T_ok ZtR ZtW Zu2 Zug k
noncomputable def Z61:List PK:=[PK.mk (.pair I6 (.pair I6 (.pair (.slice 76 P6) (.pair (.slice 3 I6) (.slice 3 I6))))) true none false none]
noncomputable def Zka:List PK:=[PK.mk (.slice 5 (.int .u8)) false none false none]
noncomputable def Zjh(r:Int×Int×List (Int×Int)×List Int×List Int):Tup Z61×OutD:=((r,()),none)
noncomputable def Zj9:Tup Z61×OutD→Option (Int×Int×List (Int×Int)×List Int×List Int)
 |(a,none)=>some (a.1)
 |_=>none
theorem Zq5: ∀b r,Zj9 b=some r→Zjh r=b:=by
 rintro ⟨a,_|_⟩ r h<;>cases h;rfl
noncomputable def Zel:Nat→List Int→Option (Int×Int×List (Int×Int)×List Int×List Int)
 |0,_=>none
 |k+1,p0=>
  Option.bind (Z6X k (p0,(0:Int),(0:Int))) fun z0=>some (z0.1.1,z0.1.2.1,z0.1.2.2.1,z0.1.2.2.2.1,z0.1.2.2.2.2)
noncomputable def Z1T:FnDef:= .of Zka Z61 (Int×Int×List (Int×Int)×List Int×List Int) (fun k x=>Zel k x.1) Zjh Zj9 Zq5
noncomputable def Ze7:Code:=Tryz.f61.body.getD .skip
noncomputable def Z9r:Ctx (Tup Z61×OutD):={T:=T,G:=[(99,Z1j.E)],mvs:=[],no:=0,n:=9,res:=resOf T Zka Z61 Tryz.f61.results.toList,loops:=[],regs:=[],conds:=[],cuts:=[]}
theorem ZwX(k:Nat):EnvOK Tryz.prog k Z9r.G:=(EnvOK.cons (Zr8 k) (EnvOK.nil mixed))
theorem Zw1(k:Nat)(x:Tup Z1T.ps):Z1T.f (k+1) x=fnK Z1T Z9r Ze7 k x:=by kernel_rfl
theorem Zwl(x:Tup Z1T.ps):Z1T.f 0 x=none:=by kernel_rfl
theorem Zxc(k:Nat):LOK Tryz.prog Z9r k Ze7:=LOK.by [] (by kernel_rfl) AllOK.nil
theorem ZwW(k:Nat):SoundAt Tryz.prog k 61 Z1T.E:= @Z5 Tryz.prog Z1T Z9r 61 Tryz.f61 Ze7 (by kernel_rfl) (by kernel_rfl) (by kernel_rfl) Tryz.func61 (by kernel_rfl) (by kernel_rfl) (by kernel_rfl) T_ok ZwX Zxc Zwl Zw1 k
noncomputable def ZS:List PK:=[PK.mk (.pair I6 (.pair I6 (.slice 76 P6))) true none false none,PK.mk (.slice 3 I6) false none false none,PK.mk (.slice 40 T6) false none false none]
noncomputable def ZnX:List PK:=[PK.mk (.pair (.slice 5 (.int .u8)) (.pair I6 (.int .u64))) false none false (some 105)]
noncomputable def Z7o(r:(Int×Int×List (Int×Int))×List Int×List (Int×Int×Int)×Int×Int):Tup ZS×OutD:=((r.1,r.2.1,r.2.2.1,()),some ⟨Ty.pair (Ty.slice (5:Nat) (Ty.int .u8)) (Ty.pair (Ty.int .i64) (Ty.int .u64)),[([],r.2.2.2)]⟩)
noncomputable def Z56:Tup ZS×OutD→Option ((Int×Int×List (Int×Int))×List Int×List (Int×Int×Int)×Int×Int)
 |(a,some ⟨u,ys⟩)=>if h:u=Ty.pair (Ty.slice (5:Nat) (Ty.int .u8)) (Ty.pair (Ty.int .i64) (Ty.int .u64)) then (match castU h ys with
  |[([],y)]=>some (a.1,a.2.1,a.2.2.1,y)
  |_=>none) else none
 |_=>none
theorem Z8d: ∀b r,Z56 b=some r→Z7o r=b:=by
 rintro ⟨a,o⟩ r h
 cases o with
 |none=>cases h
 |some s=>
  obtain ⟨u,ys⟩:=s
  simp only[Z56]at h
  split at h
  ·rename_i hu
   subst hu
   match ys,h with
   |[],h=>cases (show (none:Option _)=some r from h)
   |[([],y)],h=>injection (show some _=some r from h) with h;subst h;rfl
   |[(_::_,y)],h=>cases (show (none:Option _)=some r from h)
   |(h1,_)::_::_,h=>cases h1<;>cases (show (none:Option _)=some r from h)
  ·cases h
noncomputable def Zd5:Nat→Int→Int→List Int→Int→Int→List (Int×Int)→Int→Int→List (Int×Int)→Int→Bool→Option (Int×Int×List Int×Int×Int×List (Int×Int)×Int×Int×List (Int×Int)):=fun k b1_1 b1_2 o2 b3_0 b3_1 o4 b5_0 b5_1 o6 v24 v25=>
  if v25=true then Option.bind (ZM k (o2,b1_1,b1_2)) fun z4=>some (z4.2.1,z4.2.2,o2,b3_0,b3_1,o4,z4.1.1,z4.1.2.1,z4.1.2.2) else if decide (v24=1)=true then Option.bind (Z1 k (o2,b1_1,b1_2) (2:Int)) fun z5=>Option.bind (Z2A k (o2,z5.2.1,z5.2.2) (wrap64 ((4:Int)+z5.1)) (6:Int)) fun z6=>some (z6.2.1,z6.2.2,o2,b3_0,b3_1,o4,z6.1.1,z6.1.2.1,z6.1.2.2) else some (b1_1,b1_2,o2,b3_0,b3_1,o4,b5_0,b5_1,o6)
noncomputable def ZsC:Spec:=Spec.mk [.ro,O3,Oc,O6,O0,O7,O0] [(0,.at (.ptr 1 0)),(2,.at (.ptr 3 0)),(5,.at (.ptr 5 0)),(24,.at (.int .i64)),(25,.at .bool)]
noncomputable def ZsL:Spec:=Spec.mk [.ro,O3,Oc,O6,O0,O7,O0] [(0,.at (.ptr 1 0)),(2,.at (.ptr 3 0)),(5,.at (.ptr 5 0))]
noncomputable def Zy:LoopDef (Tup ZS×OutD):= .plain ZsC ZsL (Int×Int×List Int×Int×Int×List (Int×Int)×Int×Int×List (Int×Int)) (fun k x=>Zd5 k x.1.2.1.2.1 x.1.2.1.2.2.1 x.1.2.2.1 x.1.2.2.2.1.1 x.1.2.2.2.1.2.1 x.1.2.2.2.2.1 x.1.2.2.2.2.2.1.1 x.1.2.2.2.2.2.1.2.1 x.1.2.2.2.2.2.2.1 x.2.2.2.2.1 x.2.2.2.2.2.1) (fun z=>(((),((),z.1,z.2.1,()),z.2.2.1,(z.2.2.2.1,z.2.2.2.2.1,(),()),z.2.2.2.2.2.1,(z.2.2.2.2.2.2.1,z.2.2.2.2.2.2.2.1,(),()),z.2.2.2.2.2.2.2.2,()),((),(),(),()))) (fun y=>(y.1.2.1.2.1,y.1.2.1.2.2.1,y.1.2.2.1,y.1.2.2.2.1.1,y.1.2.2.2.1.2.1,y.1.2.2.2.2.1,y.1.2.2.2.2.2.1.1,y.1.2.2.2.2.2.1.2.1,y.1.2.2.2.2.2.2.1)) (fun _=>rfl)
noncomputable def Zd3:Nat→Int→Int→List Int→Int→Int→List (Int×Int)→Int→Int→List (Int×Int)→List Int→Int→Bool→Option (Int×Int×List Int×Int×Int×List (Int×Int)×Int×Int×List (Int×Int)×List Int×Int):=fun k b1_1 b1_2 o2 b3_0 b3_1 o4 b5_0 b5_1 o6 o7 v7 v44=>
  if v44=true then Option.bind (Z1 k (o2,b1_1,b1_2) (2:Int)) fun z11=>some (z11.2.1,z11.2.2,o2,b3_0,b3_1,o4,b5_0,b5_1,o6,o7,wrap64 ((20:Int)+z11.1)) else some (b1_1,b1_2,o2,b3_0,b3_1,o4,b5_0,b5_1,o6,o7,v7)
noncomputable def Zsm:Spec:=Spec.mk [.ro,O3,Oc,O6,O0,O7,O0,O1] [(0,.at (.ptr 1 0)),(2,.at (.ptr 3 0)),(5,.at (.ptr 5 0)),(6,.at (.sl 7)),(7,.at (.int .i64)),(44,.at .bool)]
noncomputable def Zsv:Spec:=Spec.mk [.ro,O3,Oc,O6,O0,O7,O0,O1] [(0,.at (.ptr 1 0)),(2,.at (.ptr 3 0)),(5,.at (.ptr 5 0)),(6,.at (.sl 7)),(7,.at (.int .i64))]
noncomputable def Zx:LoopDef (Tup ZS×OutD):= .plain Zsm Zsv (Int×Int×List Int×Int×Int×List (Int×Int)×Int×Int×List (Int×Int)×List Int×Int) (fun k x=>Zd3 k x.1.2.1.2.1 x.1.2.1.2.2.1 x.1.2.2.1 x.1.2.2.2.1.1 x.1.2.2.2.1.2.1 x.1.2.2.2.2.1 x.1.2.2.2.2.2.1.1 x.1.2.2.2.2.2.1.2.1 x.1.2.2.2.2.2.2.1 x.1.2.2.2.2.2.2.2.1 x.2.2.2.2.2.1 x.2.2.2.2.2.2.1) (fun z=>(((),((),z.1,z.2.1,()),z.2.2.1,(z.2.2.2.1,z.2.2.2.2.1,(),()),z.2.2.2.2.2.1,(z.2.2.2.2.2.2.1,z.2.2.2.2.2.2.2.1,(),()),z.2.2.2.2.2.2.2.2.1,z.2.2.2.2.2.2.2.2.2.1,()),((),(),(),(),z.2.2.2.2.2.2.2.2.2.2,()))) (fun y=>(y.1.2.1.2.1,y.1.2.1.2.2.1,y.1.2.2.1,y.1.2.2.2.1.1,y.1.2.2.2.1.2.1,y.1.2.2.2.2.1,y.1.2.2.2.2.2.1.1,y.1.2.2.2.2.2.1.2.1,y.1.2.2.2.2.2.2.1,y.1.2.2.2.2.2.2.2.1,y.2.2.2.2.2.1)) (fun _=>rfl)
noncomputable def Z4x:Nat→Int→Int→List Int→Int→Int→List (Int×Int)→Int→Int→List (Int×Int)→List Int→Int→Option (Int×Int×List Int×Int×Int×List (Int×Int)×Int×Int×List (Int×Int)×List Int)
 |0,_,_,_,_,_,_,_,_,_,_,_=>none
 |k+1,b1_1,b1_2,o2,b3_0,b3_1,o4,b5_0,b5_1,o6,o7,v7=>
  if decide ((↑(List.length o7):Int)<v7)=true then Option.bind (Z1 k (o2,b1_1,b1_2) b5_1) fun z13=>if List.length o7+List.length [z13.1]≤(140737488355328/8:Nat) then Z4x k z13.2.1 z13.2.2 o2 b3_0 b3_1 o4 b5_0 b5_1 o6 (o7++[z13.1]) v7 else none else some (b1_1,b1_2,o2,b3_0,b3_1,o4,b5_0,b5_1,o6,o7)
noncomputable def Zei:Spec:=Spec.mk [.ro,O3,Oc,O6,O0,O7,O0,O1] [(0,.at (.ptr 1 0)),(2,.at (.ptr 3 0)),(5,.at (.ptr 5 0)),(6,.at (.sl 7)),(7,.at (.int .i64))]
noncomputable def ZwY:Spec:=Spec.mk [.ro,O3,Oc,O6,O0,O7,O0,O1] [(0,.at (.ptr 1 0)),(2,.at (.ptr 3 0)),(5,.at (.ptr 5 0)),(6,.at (.sl 7))]
noncomputable def Z3V:LoopDef (Tup ZS×OutD):= .plain Zei ZwY (Int×Int×List Int×Int×Int×List (Int×Int)×Int×Int×List (Int×Int)×List Int) (fun k x=>Z4x k x.1.2.1.2.1 x.1.2.1.2.2.1 x.1.2.2.1 x.1.2.2.2.1.1 x.1.2.2.2.1.2.1 x.1.2.2.2.2.1 x.1.2.2.2.2.2.1.1 x.1.2.2.2.2.2.1.2.1 x.1.2.2.2.2.2.2.1 x.1.2.2.2.2.2.2.2.1 x.2.2.2.2.2.1) (fun z=>(((),((),z.1,z.2.1,()),z.2.2.1,(z.2.2.2.1,z.2.2.2.2.1,(),()),z.2.2.2.2.2.1,(z.2.2.2.2.2.2.1,z.2.2.2.2.2.2.2.1,(),()),z.2.2.2.2.2.2.2.2.1,z.2.2.2.2.2.2.2.2.2,()),((),(),(),(),()))) (fun y=>(y.1.2.1.2.1,y.1.2.1.2.2.1,y.1.2.2.1,y.1.2.2.2.1.1,y.1.2.2.2.1.2.1,y.1.2.2.2.2.1,y.1.2.2.2.2.2.1.1,y.1.2.2.2.2.2.1.2.1,y.1.2.2.2.2.2.2.1,y.1.2.2.2.2.2.2.2.1)) (fun _=>rfl)
noncomputable def ZC:Nat→Int→Int→List Int→Int→Int→List (Int×Int)→Int→Int→List (Int×Int)→List Int→List (Int×Int×Int)→Option ((Int×Int×List (Int×Int))×List Int×List (Int×Int×Int)×Int×Int):=fun k b1_1 b1_2 o2 b3_0 b3_1 o4 b5_0 b5_1 o6 o7 o8=>
  some ((b5_0,b5_1,o6),o7,o8,b1_1,b1_2)
noncomputable def ZsR:Spec:=Spec.mk [.ro,O3,Oc,O6,O0,O7,O0,O1,Om] [(2,.at (.ptr 3 0)),(5,.at (.ptr 5 0)),(6,.at (.sl 7)),(12,.at (.sl 8))]
noncomputable def ZZ:LoopDef (Tup ZS×OutD):= .ends ZsR ((Int×Int×List (Int×Int))×List Int×List (Int×Int×Int)×Int×Int) (fun k x=>ZC k x.1.2.1.2.1 x.1.2.1.2.2.1 x.1.2.2.1 x.1.2.2.2.1.1 x.1.2.2.2.1.2.1 x.1.2.2.2.2.1 x.1.2.2.2.2.2.1.1 x.1.2.2.2.2.2.1.2.1 x.1.2.2.2.2.2.2.1 x.1.2.2.2.2.2.2.2.1 x.1.2.2.2.2.2.2.2.2.1) Z7o Z56 Z8d
noncomputable def Z2o:Nat→Int→Int→List Int→Int→Int→List (Int×Int)→Int→Int→List (Int×Int)→List Int→List (Int×Int×Int)→Option ((Int×Int×List (Int×Int))×List Int×List (Int×Int×Int)×Int×Int):=fun k b1_1 b1_2 o2 b3_0 b3_1 o4 b5_0 b5_1 o6 o7 o8=>
  if decide ((↑(List.length o8):Int)>0)=true then Option.bind (Z1 k (o2,b1_1,b1_2) (↑(List.length o8):Int)) fun z18=>if (0:Int)≤z18.1 then if z18.1<(↑(List.length o8):Int) then Option.bind (Z1 k (o2,z18.2.1,z18.2.2) (30:Int)) fun z19=>if decide (z19.1=0)=true then Option.bind (Zb k (o2,z19.2.1,z19.2.2) [(0:Int),(1:Int),(3:Int),(4:Int)]) fun z20=>Option.bind (ZC k z20.2.1 z20.2.2 o2 b3_0 b3_1 o4 b5_0 b5_1 o6 o7 (List.set o8 (Int.toNat z18.1) (z20.1,Prod.snd (List.getD o8 (Int.toNat z18.1) ((0:Int),(0:Int),(0:Int)))))) fun z21=>some z21 else if decide (z19.1=1)=true then Option.bind (Zb k (o2,z19.2.1,z19.2.2) [(-1:Int),(0:Int),b5_0,wrap64 (b5_0+1)]) fun z22=>Option.bind (ZC k z22.2.1 z22.2.2 o2 b3_0 b3_1 o4 b5_0 b5_1 o6 o7 (List.set o8 (Int.toNat z18.1) (Prod.fst (List.getD o8 (Int.toNat z18.1) ((0:Int),(0:Int),(0:Int))),z22.1,Prod.snd (Prod.snd (List.getD o8 (Int.toNat z18.1) ((0:Int),(0:Int),(0:Int))))))) fun z23=>some z23 else if decide (z19.1=2)=true then Option.bind (Zb k (o2,z19.2.1,z19.2.2) [(-2:Int),(-1:Int),b5_1,wrap64 (b5_1+1)]) fun z24=>Option.bind (ZC k z24.2.1 z24.2.2 o2 b3_0 b3_1 o4 b5_0 b5_1 o6 o7 (List.set o8 (Int.toNat z18.1) (Prod.fst (List.getD o8 (Int.toNat z18.1) ((0:Int),(0:Int),(0:Int))),Prod.fst (Prod.snd (List.getD o8 (Int.toNat z18.1) ((0:Int),(0:Int),(0:Int)))),z24.1))) fun z25=>some z25 else if decide (z19.1=3)=true then if (1:Int)≤(↑(List.length o8):Int) then if (↑(List.length o8):Int)≤(↑(List.length o8):Int) then Option.bind (ZC k z19.2.1 z19.2.2 o2 b3_0 b3_1 o4 b5_0 b5_1 o6 o7 (List.drop (Int.toNat (1:Int)) o8)) fun z26=>some z26 else none else none else if decide (z19.1=4)=true then Option.bind (Zb k (o2,z19.2.1,z19.2.2) [(-1:Int),b5_1]) fun z27=>if (0:Int)<(↑(List.length o7):Int) then Option.bind (ZC k z27.2.1 z27.2.2 o2 b3_0 b3_1 o4 b5_0 b5_1 o6 (List.set o7 (Int.toNat (0:Int)) z27.1) o8) fun z28=>some z28 else none else Option.bind (ZC k z19.2.1 z19.2.2 o2 b3_0 b3_1 o4 b5_0 b5_1 o6 o7 o8) fun z29=>some z29 else none else none else Option.bind (ZC k b1_1 b1_2 o2 b3_0 b3_1 o4 b5_0 b5_1 o6 o7 o8) fun z30=>some z30
noncomputable def Zta:Spec:=Spec.mk [.ro,O3,Oc,O6,O0,O7,O0,O1,Om] [(0,.at (.ptr 1 0)),(2,.at (.ptr 3 0)),(5,.at (.ptr 5 0)),(6,.at (.sl 7)),(12,.at (.sl 8))]
noncomputable def ZV:LoopDef (Tup ZS×OutD):= .ends Zta ((Int×Int×List (Int×Int))×List Int×List (Int×Int×Int)×Int×Int) (fun k x=>Z2o k x.1.2.1.2.1 x.1.2.1.2.2.1 x.1.2.2.1 x.1.2.2.2.1.1 x.1.2.2.2.1.2.1 x.1.2.2.2.2.1 x.1.2.2.2.2.2.1.1 x.1.2.2.2.2.2.1.2.1 x.1.2.2.2.2.2.2.1 x.1.2.2.2.2.2.2.2.1 x.1.2.2.2.2.2.2.2.2.1) Z7o Z56 Z8d
noncomputable def ZcX:Nat→Int→Int→List Int→Int→Int→List (Int×Int)→Int→Int→List (Int×Int)→List Int→List (Int×Int×Int)→Option (Int×Int×List Int×Int×Int×List (Int×Int)×Int×Int×List (Int×Int)×List Int×Int×Int×Int×Int×Int×Int):=fun k b1_1 b1_2 o2 b3_0 b3_1 o4 b5_0 b5_1 o6 o7 o8=>
  Option.bind (Z1 k (o2,b1_1,b1_2) (↑(List.length o8):Int)) fun z32=>if (0:Int)≤z32.1 then if z32.1<(↑(List.length o8):Int) then Option.bind (Z1 k (o2,z32.2.1,z32.2.2) (↑(List.length o8):Int)) fun z33=>if (0:Int)≤z33.1 then if z33.1<(↑(List.length o8):Int) then some (z33.2.1,z33.2.2,o2,b3_0,b3_1,o4,b5_0,b5_1,o6,o7,Prod.fst (List.getD o8 (Int.toNat z32.1) ((0:Int),(0:Int),(0:Int))),Prod.fst (Prod.snd (List.getD o8 (Int.toNat z32.1) ((0:Int),(0:Int),(0:Int)))),Prod.snd (Prod.snd (List.getD o8 (Int.toNat z32.1) ((0:Int),(0:Int),(0:Int)))),Prod.fst (List.getD o8 (Int.toNat z33.1) ((0:Int),(0:Int),(0:Int))),Prod.fst (Prod.snd (List.getD o8 (Int.toNat z33.1) ((0:Int),(0:Int),(0:Int)))),Prod.snd (Prod.snd (List.getD o8 (Int.toNat z33.1) ((0:Int),(0:Int),(0:Int))))) else none else none else none else none
noncomputable def Zih:Spec:=Spec.mk [.ro,O3,Oc,O6,O0,O7,O0,O1,Og] [(0,.at (.ptr 1 0)),(2,.at (.ptr 3 0)),(5,.at (.ptr 5 0)),(6,.at (.sl 7)),(8,.at (.sl 8))]
noncomputable def Zt1:Spec:=Spec.mk [.ro,O3,Oc,O6,O0,O7,O0,O1,On,On] [(0,.at (.ptr 1 0)),(2,.at (.ptr 3 0)),(5,.at (.ptr 5 0)),(6,.at (.sl 7)),(10,.at (.ptr 8 0)),(11,.at (.ptr 9 0))]
noncomputable def Z2:LoopDef (Tup ZS×OutD):= .plain Zih Zt1 (Int×Int×List Int×Int×Int×List (Int×Int)×Int×Int×List (Int×Int)×List Int×Int×Int×Int×Int×Int×Int) (fun k x=>ZcX k x.1.2.1.2.1 x.1.2.1.2.2.1 x.1.2.2.1 x.1.2.2.2.1.1 x.1.2.2.2.1.2.1 x.1.2.2.2.2.1 x.1.2.2.2.2.2.1.1 x.1.2.2.2.2.2.1.2.1 x.1.2.2.2.2.2.2.1 x.1.2.2.2.2.2.2.2.1 x.1.2.2.2.2.2.2.2.2.1) (fun z=>(((),((),z.1,z.2.1,()),z.2.2.1,(z.2.2.2.1,z.2.2.2.2.1,(),()),z.2.2.2.2.2.1,(z.2.2.2.2.2.2.1,z.2.2.2.2.2.2.2.1,(),()),z.2.2.2.2.2.2.2.2.1,z.2.2.2.2.2.2.2.2.2.1,(z.2.2.2.2.2.2.2.2.2.2.1,z.2.2.2.2.2.2.2.2.2.2.2.1,z.2.2.2.2.2.2.2.2.2.2.2.2.1,()),(z.2.2.2.2.2.2.2.2.2.2.2.2.2.1,z.2.2.2.2.2.2.2.2.2.2.2.2.2.2.1,z.2.2.2.2.2.2.2.2.2.2.2.2.2.2.2,()),()),((),(),(),(),(),(),()))) (fun y=>(y.1.2.1.2.1,y.1.2.1.2.2.1,y.1.2.2.1,y.1.2.2.2.1.1,y.1.2.2.2.1.2.1,y.1.2.2.2.2.1,y.1.2.2.2.2.2.1.1,y.1.2.2.2.2.2.1.2.1,y.1.2.2.2.2.2.2.1,y.1.2.2.2.2.2.2.2.1,y.1.2.2.2.2.2.2.2.2.1.1,y.1.2.2.2.2.2.2.2.2.1.2.1,y.1.2.2.2.2.2.2.2.2.1.2.2.1,y.1.2.2.2.2.2.2.2.2.2.1.1,y.1.2.2.2.2.2.2.2.2.2.1.2.1,y.1.2.2.2.2.2.2.2.2.2.1.2.2.1)) (fun _=>rfl)
noncomputable def Zd7:Nat→Int→Int→List Int→Int→Int→List (Int×Int)→Int→Int→List (Int×Int)→List Int→Option ((Int×Int×List (Int×Int))×List Int×List (Int×Int×Int)×Int×Int):=fun k b1_1 b1_2 o2 b3_0 b3_1 o4 b5_0 b5_1 o6 o7=>
  Option.bind (Zbc k (b5_0,b5_1,o6)) fun z15=>Option.bind (Z1 k (o2,b1_1,b1_2) (4:Int)) fun z16=>if decide (z16.1=0)=true then Option.bind (Za7 k (b5_0,b5_1,o6) [] o7) fun z17=>Option.bind (Z2o k z16.2.1 z16.2.2 o2 b3_0 b3_1 o4 b5_0 b5_1 o6 o7 z17.1) fun z31=>some z31 else if decide (z16.1=1)=true then Option.bind (ZcX k z16.2.1 z16.2.2 o2 b3_0 b3_1 o4 b5_0 b5_1 o6 o7 z15) fun z94=>Option.bind (ZkF k (z94.2.2.2.2.2.2.1,z94.2.2.2.2.2.2.2.1,z94.2.2.2.2.2.2.2.2.1) [(z94.2.2.2.2.2.2.2.2.2.2.1,z94.2.2.2.2.2.2.2.2.2.2.2.1,z94.2.2.2.2.2.2.2.2.2.2.2.2.1),(z94.2.2.2.2.2.2.2.2.2.2.2.2.2.1,z94.2.2.2.2.2.2.2.2.2.2.2.2.2.2.1,z94.2.2.2.2.2.2.2.2.2.2.2.2.2.2.2)]) fun z95=>if (!z95)=true then Option.bind (Za7 k (z94.2.2.2.2.2.2.1,z94.2.2.2.2.2.2.2.1,z94.2.2.2.2.2.2.2.2.1) [(z94.2.2.2.2.2.2.2.2.2.2.1,z94.2.2.2.2.2.2.2.2.2.2.2.1,z94.2.2.2.2.2.2.2.2.2.2.2.2.1)] z94.2.2.2.2.2.2.2.2.2.1) fun z96=>Option.bind (Z2o k z94.1 z94.2.1 z94.2.2.1 z94.2.2.2.1 z94.2.2.2.2.1 z94.2.2.2.2.2.1 z94.2.2.2.2.2.2.1 z94.2.2.2.2.2.2.2.1 z94.2.2.2.2.2.2.2.2.1 z94.2.2.2.2.2.2.2.2.2.1 z96.1) fun z97=>some z97 else Option.bind (Za7 k (z94.2.2.2.2.2.2.1,z94.2.2.2.2.2.2.2.1,z94.2.2.2.2.2.2.2.2.1) [(z94.2.2.2.2.2.2.2.2.2.2.1,z94.2.2.2.2.2.2.2.2.2.2.2.1,z94.2.2.2.2.2.2.2.2.2.2.2.2.1),(z94.2.2.2.2.2.2.2.2.2.2.2.2.2.1,z94.2.2.2.2.2.2.2.2.2.2.2.2.2.2.1,z94.2.2.2.2.2.2.2.2.2.2.2.2.2.2.2)] z94.2.2.2.2.2.2.2.2.2.1) fun z98=>Option.bind (Z2o k z94.1 z94.2.1 z94.2.2.1 z94.2.2.2.1 z94.2.2.2.2.1 z94.2.2.2.2.2.1 z94.2.2.2.2.2.2.1 z94.2.2.2.2.2.2.2.1 z94.2.2.2.2.2.2.2.2.1 z94.2.2.2.2.2.2.2.2.2.1 z98.1) fun z99=>some z99 else Option.bind (Z1 k (o2,z16.2.1,z16.2.2) (↑(List.length z15):Int)) fun z100=>if (0:Int)≤z100.1 then if z100.1<(↑(List.length z15):Int) then Option.bind (Za7 k (b5_0,b5_1,o6) [(Prod.fst (List.getD z15 (Int.toNat z100.1) ((0:Int),(0:Int),(0:Int))),Prod.fst (Prod.snd (List.getD z15 (Int.toNat z100.1) ((0:Int),(0:Int),(0:Int)))),Prod.snd (Prod.snd (List.getD z15 (Int.toNat z100.1) ((0:Int),(0:Int),(0:Int)))))] o7) fun z101=>Option.bind (Z2o k z100.2.1 z100.2.2 o2 b3_0 b3_1 o4 b5_0 b5_1 o6 o7 z101.1) fun z102=>some z102 else none else none
noncomputable def Ztc:Spec:=Spec.mk [.ro,O3,Oc,O6,O0,O7,O0,O1] [(0,.at (.ptr 1 0)),(2,.at (.ptr 3 0)),(5,.at (.ptr 5 0)),(6,.at (.sl 7))]
noncomputable def ZX:LoopDef (Tup ZS×OutD):= .ends Ztc ((Int×Int×List (Int×Int))×List Int×List (Int×Int×Int)×Int×Int) (fun k x=>Zd7 k x.1.2.1.2.1 x.1.2.1.2.2.1 x.1.2.2.1 x.1.2.2.2.1.1 x.1.2.2.2.1.2.1 x.1.2.2.2.2.1 x.1.2.2.2.2.2.1.1 x.1.2.2.2.2.2.1.2.1 x.1.2.2.2.2.2.2.1 x.1.2.2.2.2.2.2.2.1) Z7o Z56 Z8d
noncomputable def ZcQ:Nat→List Int×Int×Int→Option ((Int×Int×List (Int×Int))×List Int×List (Int×Int×Int)×Int×Int)
 |0,_=>none
 |k+1,p0=>
  Option.bind (Z1 k (p0.1,p0.2.1,p0.2.2) (4:Int)) fun z0=>Option.bind (Z1 k (p0.1,z0.2.1,z0.2.2) (4:Int)) fun z1=>Option.bind (Z2A k (p0.1,z1.2.1,z1.2.2) (wrap64 ((1:Int)+z0.1)) (wrap64 ((1:Int)+z1.1))) fun z2=>Option.bind (Z1 k (p0.1,z2.2.1,z2.2.2) (20:Int)) fun z3=>Option.bind (Zd5 k z3.2.1 z3.2.2 p0.1 (0:Int) (0:Int) [] z2.1.1 z2.1.2.1 z2.1.2.2 z3.1 (decide (z3.1=0))) fun z7=>Option.bind (Zgs k (z7.2.2.2.2.2.2.1,z7.2.2.2.2.2.2.2.1,z7.2.2.2.2.2.2.2.2)) fun z8=>if (!z8)=true then some ((z7.2.2.2.2.2.2.1,z7.2.2.2.2.2.2.2.1,z7.2.2.2.2.2.2.2.2),[],[],z7.1,z7.2.1) else Option.bind (Z1 k (z7.2.2.1,z7.1,z7.2.1) (6:Int)) fun z9=>Option.bind (ZK k (z7.2.2.1,z9.2.1,z9.2.2) (20:Int)) fun z10=>Option.bind (Zd3 k z10.2.1 z10.2.2 z7.2.2.1 z7.2.2.2.1 z7.2.2.2.2.1 z7.2.2.2.2.2.1 z7.2.2.2.2.2.2.1 z7.2.2.2.2.2.2.2.1 z7.2.2.2.2.2.2.2.2 [] (wrap64 ((1:Int)+z9.1)) z10.1) fun z12=>Option.bind (Z4x k z12.1 z12.2.1 z12.2.2.1 z12.2.2.2.1 z12.2.2.2.2.1 z12.2.2.2.2.2.1 z12.2.2.2.2.2.2.1 z12.2.2.2.2.2.2.2.1 z12.2.2.2.2.2.2.2.2.1 z12.2.2.2.2.2.2.2.2.2.1 z12.2.2.2.2.2.2.2.2.2.2) fun z14=>Option.bind (Zd7 k z14.1 z14.2.1 z14.2.2.1 z14.2.2.2.1 z14.2.2.2.2.1 z14.2.2.2.2.2.1 z14.2.2.2.2.2.2.1 z14.2.2.2.2.2.2.2.1 z14.2.2.2.2.2.2.2.2.1 z14.2.2.2.2.2.2.2.2.2) fun z103=>some z103
noncomputable def Z2T:FnDef:= .of ZnX ZS ((Int×Int×List (Int×Int))×List Int×List (Int×Int×Int)×Int×Int) (fun k x=>ZcQ k x.1) Z7o Z56 Z8d
noncomputable def ZR:Code:=Tryz.f100.body.getD .skip
noncomputable def Z0:Ctx (Tup ZS×OutD):={T:=T,G:=[(116,Zq.E),(121,Z1P.E),(122,Z2h.E),(110,Z6c.E),(95,ZU.E),(88,Z33.E),(123,Z7U.E),(112,Z7f.E),(98,Zp.E)],mvs:=[153],no:=2,n:=166,res:=resOf T ZnX ZS Tryz.f100.results.toList,loops:=[(1,Z3V.E)],regs:=[(22,Z2.E)],conds:=[(25,Zy.E),(44,Zx.E)],cuts:=[(40,ZZ.E),(27,ZV.E),(15,ZX.E)]}
theorem Z2R(k:Nat):EnvOK Tryz.prog k Z0.G:=(EnvOK.cons (Z1I k) (EnvOK.cons (Zm2 k) (EnvOK.cons (Zzv k) (EnvOK.cons (ZCg k) (EnvOK.cons (Z6l k) (EnvOK.cons (ZqN k) (EnvOK.cons (ZPQ k) (EnvOK.cons (ZFh k) (EnvOK.cons (Z1S k) (EnvOK.nil mixed))))))))))
noncomputable def Z4:Array Oper:=(findReg 22 ZR).getD #[]
noncomputable abbrev U0:TV:=TV.sv (SV.at At.un)
noncomputable abbrev J0(x:Int):At:=At.int .i64 x
noncomputable abbrev L0(n:Nat):TV:=TV.sv (SV.at (At.sl n))
noncomputable abbrev P0(n:Nat):TV:=TV.sv (SV.at (At.ptr n 0))
noncomputable abbrev T1:Ty:=Ty.int .i64
noncomputable abbrev T2:Ty:=Ty.pair T1 T1
noncomputable abbrev T3:Ty:=Ty.pair T1 T2
noncomputable def sets(l:List TV)(s:List (Nat×TV)):List TV:=s.foldl (fun a p=>a.set p.1 p.2) l
noncomputable abbrev Z1z:Type:=Int×Int×List Int×Int×Int×List (Int×Int)×Int×Int×List (Int×Int)×List Int×Int×Int×Int×Int×Int×Int
section
variable (k:Nat) (b1_1:Int) (b1_2:Int) (o2:List Int) (b3_0:Int) (b3_1:Int) (o4:List (Int×Int)) (b5_0:Int) (b5_1:Int) (o6:List (Int×Int)) (o7:List Int) (o8:List (Int×Int×Int))
noncomputable def Z20:List TV:=[P0 1,U0,P0 3,U0,U0,P0 5,L0 7,U0,L0 8,U0,U0,U0,U0,U0,U0,U0,U0,U0,U0,U0,U0,U0,U0,U0,U0,U0,U0,U0,U0,U0,U0,U0,U0,U0,U0,U0,U0,U0,U0,U0,U0,U0,U0,U0,U0,U0,U0,U0,U0,U0,U0,U0,U0,U0,U0,U0,U0,U0,U0,U0,U0,U0,U0,U0,U0,U0,U0,U0,U0,U0,U0,U0,U0,U0,U0,L0 8,P0 1,L0 8,TV.sv (SV.at (J0 (↑(List.length o8):Int))),U0,U0,U0,L0 8,P0 1,L0 8,U0,U0,U0,U0,U0,U0,U0,U0,U0,U0,U0,U0,U0,U0,U0,U0,U0,U0,U0,U0,U0,U0,U0,U0,U0,U0,U0,U0,U0,U0,U0,U0,U0,U0,U0,U0,U0,U0,U0,U0,U0,U0,U0,U0,U0,U0,U0,U0,U0,U0,U0,U0,U0,U0,U0,U0,U0,U0,U0,U0,U0,U0,U0,U0,U0,U0,U0,U0,U0,U0,U0,U0,U0,U0,U0,U0,U0,U0,U0,U0,U0]
noncomputable def Z1b:Ob:=Ob.fx (Ty.int .u8) o2
noncomputable def Z15:Ob:=Ob.box 29 [J0 b3_0,J0 b3_1,At.sl 4]
noncomputable def Z17:Ob:=Ob.row true 76 T2 o4
noncomputable def Z14:Ob:=Ob.box 29 [J0 b5_0,J0 b5_1,At.sl 6]
noncomputable def Z16:Ob:=Ob.row true 76 T2 o6
noncomputable def Z1a:Ob:=Ob.row true 3 T1 o7
noncomputable def Z19:Ob:=Ob.row true 58 T3 o8
noncomputable def Z18:Ob:=Ob.box 58 [J0 (0:Int),J0 (0:Int),J0 (0:Int)]
noncomputable def Zlz:Ob:=Ob.box 105 [At.sl 2,J0 b1_1,At.int IntKind.u64 b1_2]
noncomputable def Z3M:TV:=TV.sv (SV.at (J0 (↑(List.length o8):Int)))
noncomputable def Zs(f0:Int×Int×Int)(f1:Int×Int×Int):Option Z1z:=some (f0.2.1,f0.2.2,o2,b3_0,b3_1,o4,b5_0,b5_1,o6,o7,Prod.fst (List.getD o8 (Int.toNat f1.1) ((0:Int),(0:Int),(0:Int))),Prod.fst (Prod.snd (List.getD o8 (Int.toNat f1.1) ((0:Int),(0:Int),(0:Int)))),Prod.snd (Prod.snd (List.getD o8 (Int.toNat f1.1) ((0:Int),(0:Int),(0:Int)))),Prod.fst (List.getD o8 (Int.toNat f0.1) ((0:Int),(0:Int),(0:Int))),Prod.fst (Prod.snd (List.getD o8 (Int.toNat f0.1) ((0:Int),(0:Int),(0:Int)))),Prod.snd (Prod.snd (List.getD o8 (Int.toNat f0.1) ((0:Int),(0:Int),(0:Int)))))
noncomputable def Zo(f0:Int×Int×Int):Option Z1z:=Option.bind (Z1 k (o2,f0.2.1,f0.2.2) (↑(List.length o8):Int)) fun y0=>if (0:Int)≤y0.1 then if y0.1<(↑(List.length o8):Int) then some (y0.2.1,y0.2.2,o2,b3_0,b3_1,o4,b5_0,b5_1,o6,o7,Prod.fst (List.getD o8 (Int.toNat f0.1) ((0:Int),(0:Int),(0:Int))),Prod.fst (Prod.snd (List.getD o8 (Int.toNat f0.1) ((0:Int),(0:Int),(0:Int)))),Prod.snd (Prod.snd (List.getD o8 (Int.toNat f0.1) ((0:Int),(0:Int),(0:Int)))),Prod.fst (List.getD o8 (Int.toNat y0.1) ((0:Int),(0:Int),(0:Int))),Prod.fst (Prod.snd (List.getD o8 (Int.toNat y0.1) ((0:Int),(0:Int),(0:Int)))),Prod.snd (Prod.snd (List.getD o8 (Int.toNat y0.1) ((0:Int),(0:Int),(0:Int))))) else none else none
noncomputable def ZB:Option Z1z:=Option.bind (Z1 k (o2,b1_1,b1_2) (↑(List.length o8):Int)) fun y0=>if (0:Int)≤y0.1 then if y0.1<(↑(List.length o8):Int) then Option.bind (Z1 k (o2,y0.2.1,y0.2.2) (↑(List.length o8):Int)) fun y1=>if (0:Int)≤y1.1 then if y1.1<(↑(List.length o8):Int) then some (y1.2.1,y1.2.2,o2,b3_0,b3_1,o4,b5_0,b5_1,o6,o7,Prod.fst (List.getD o8 (Int.toNat y0.1) ((0:Int),(0:Int),(0:Int))),Prod.fst (Prod.snd (List.getD o8 (Int.toNat y0.1) ((0:Int),(0:Int),(0:Int)))),Prod.snd (Prod.snd (List.getD o8 (Int.toNat y0.1) ((0:Int),(0:Int),(0:Int)))),Prod.fst (List.getD o8 (Int.toNat y1.1) ((0:Int),(0:Int),(0:Int))),Prod.fst (Prod.snd (List.getD o8 (Int.toNat y1.1) ((0:Int),(0:Int),(0:Int)))),Prod.snd (Prod.snd (List.getD o8 (Int.toNat y1.1) ((0:Int),(0:Int),(0:Int))))) else none else none else none else none
noncomputable def ZRl(z34:Int×Int×Int)(z35:Int×Int×Int):Option (List Z1z):=execT Z0.G (stepOp Z0.T Z0.G Z0.mvs k) Z4 4 #[true,true,true,true,true,true,true,true,true,true,true,true,true,true,false,false,false,false] ⟨sets (Z20 o8) [(79,TV.sv (SV.at (J0 z34.1))),(80,TV.sv (SV.at (At.ep 8 T3 z34.1 0))),(81,TV.sv (SV.agg [J0 (Prod.fst (List.getD o8 (Int.toNat z34.1) ((0:Int),(0:Int),(0:Int)))),J0 (Prod.fst (Prod.snd (List.getD o8 (Int.toNat z34.1) ((0:Int),(0:Int),(0:Int))))),J0 (Prod.snd (Prod.snd (List.getD o8 (Int.toNat z34.1) ((0:Int),(0:Int),(0:Int)))))])),(85,Z3M o8),(86,TV.sv (SV.at (J0 z35.1))),(87,TV.sv (SV.at (At.ep 8 T3 z35.1 0))),(88,TV.sv (SV.agg [J0 (Prod.fst (List.getD o8 (Int.toNat z35.1) ((0:Int),(0:Int),(0:Int)))),J0 (Prod.fst (Prod.snd (List.getD o8 (Int.toNat z35.1) ((0:Int),(0:Int),(0:Int))))),J0 (Prod.snd (Prod.snd (List.getD o8 (Int.toNat z35.1) ((0:Int),(0:Int),(0:Int)))))]))],[Ob.ro,Ob.box 105 [At.sl 2,J0 z35.2.1,At.int IntKind.u64 z35.2.2],Z1b o2,Z15 b3_0 b3_1,Z17 o4,Z14 b5_0 b5_1,Z16 o6,Z1a o7,Z19 o8]⟩ (outK Z0 Z2)
theorem ZWA(z34:Int×Int×Int)(z35:Int×Int×Int):ZRl k o2 b3_0 b3_1 o4 b5_0 b5_1 o6 o7 o8 z34 z35=joinL (some [(z35.2.1,z35.2.2,o2,b3_0,b3_1,o4,b5_0,b5_1,o6,o7,Prod.fst (List.getD o8 (Int.toNat z34.1) ((0:Int),(0:Int),(0:Int))),Prod.fst (Prod.snd (List.getD o8 (Int.toNat z34.1) ((0:Int),(0:Int),(0:Int)))),Prod.snd (Prod.snd (List.getD o8 (Int.toNat z34.1) ((0:Int),(0:Int),(0:Int)))),Prod.fst (List.getD o8 (Int.toNat z35.1) ((0:Int),(0:Int),(0:Int))),Prod.fst (Prod.snd (List.getD o8 (Int.toNat z35.1) ((0:Int),(0:Int),(0:Int)))),Prod.snd (Prod.snd (List.getD o8 (Int.toNat z35.1) ((0:Int),(0:Int),(0:Int)))))]) (some [(z35.2.1,z35.2.2,o2,b3_0,b3_1,o4,b5_0,b5_1,o6,o7,Prod.fst (List.getD o8 (Int.toNat z34.1) ((0:Int),(0:Int),(0:Int))),Prod.fst (Prod.snd (List.getD o8 (Int.toNat z34.1) ((0:Int),(0:Int),(0:Int)))),Prod.snd (Prod.snd (List.getD o8 (Int.toNat z34.1) ((0:Int),(0:Int),(0:Int)))),Prod.fst (List.getD o8 (Int.toNat z35.1) ((0:Int),(0:Int),(0:Int))),Prod.fst (Prod.snd (List.getD o8 (Int.toNat z35.1) ((0:Int),(0:Int),(0:Int)))),Prod.snd (Prod.snd (List.getD o8 (Int.toNat z35.1) ((0:Int),(0:Int),(0:Int)))))]):=by kernel_rfl
theorem ZUI(z34:Int×Int×Int)(z35:Int×Int×Int):ZRl k o2 b3_0 b3_1 o4 b5_0 b5_1 o6 o7 o8 z34 z35=repl 2 (Zs o2 b3_0 b3_1 o4 b5_0 b5_1 o6 o7 o8 z35 z34):=by
 rw[ZWA]
 simp only[Zs,Zo,ZB,Z9,Zc,Z6,Z8,Z7,Z3,if_true]
noncomputable def ZuH(z34:Int×Int×Int)(z35:Int×Int×Int):Option (List Z1z):=execT Z0.G (stepOp Z0.T Z0.G Z0.mvs k) Z4 3 #[true,true,true,true,true,true,true,true,true,true,true,true,true,false,true,true,false,false] ⟨sets (Z20 o8) [(10,P0 9),(11,P0 10),(79,TV.sv (SV.at (J0 z34.1))),(80,TV.sv (SV.at (At.ep 8 T3 z34.1 0))),(81,TV.sv (SV.agg [J0 (Prod.fst (List.getD o8 (Int.toNat z34.1) ((0:Int),(0:Int),(0:Int)))),J0 (Prod.fst (Prod.snd (List.getD o8 (Int.toNat z34.1) ((0:Int),(0:Int),(0:Int))))),J0 (Prod.snd (Prod.snd (List.getD o8 (Int.toNat z34.1) ((0:Int),(0:Int),(0:Int)))))])),(85,Z3M o8),(86,TV.sv (SV.at (J0 z35.1))),(87,TV.sv (SV.at (At.ep 8 T3 z35.1 0)))],[Ob.ro,Ob.box 105 [At.sl 2,J0 z35.2.1,At.int IntKind.u64 z35.2.2],Z1b o2,Z15 b3_0 b3_1,Z17 o4,Z14 b5_0 b5_1,Z16 o6,Z1a o7,Z19 o8,Z18,Z18]⟩ (outK Z0 Z2)
theorem ZWV(z34:Int×Int×Int)(z35:Int×Int×Int):ZuH k o2 b3_0 b3_1 o4 b5_0 b5_1 o6 o7 o8 z34 z35=joinL (some [(z35.2.1,z35.2.2,o2,b3_0,b3_1,o4,b5_0,b5_1,o6,o7,Prod.fst (List.getD o8 (Int.toNat z34.1) ((0:Int),(0:Int),(0:Int))),Prod.fst (Prod.snd (List.getD o8 (Int.toNat z34.1) ((0:Int),(0:Int),(0:Int)))),Prod.snd (Prod.snd (List.getD o8 (Int.toNat z34.1) ((0:Int),(0:Int),(0:Int)))),Prod.fst (List.getD o8 (Int.toNat z35.1) ((0:Int),(0:Int),(0:Int))),Prod.fst (Prod.snd (List.getD o8 (Int.toNat z35.1) ((0:Int),(0:Int),(0:Int)))),Prod.snd (Prod.snd (List.getD o8 (Int.toNat z35.1) ((0:Int),(0:Int),(0:Int)))))]) (some [(z35.2.1,z35.2.2,o2,b3_0,b3_1,o4,b5_0,b5_1,o6,o7,Prod.fst (List.getD o8 (Int.toNat z34.1) ((0:Int),(0:Int),(0:Int))),Prod.fst (Prod.snd (List.getD o8 (Int.toNat z34.1) ((0:Int),(0:Int),(0:Int)))),Prod.snd (Prod.snd (List.getD o8 (Int.toNat z34.1) ((0:Int),(0:Int),(0:Int)))),Prod.fst (List.getD o8 (Int.toNat z35.1) ((0:Int),(0:Int),(0:Int))),Prod.fst (Prod.snd (List.getD o8 (Int.toNat z35.1) ((0:Int),(0:Int),(0:Int)))),Prod.snd (Prod.snd (List.getD o8 (Int.toNat z35.1) ((0:Int),(0:Int),(0:Int)))))]):=by kernel_rfl
theorem ZyV(z34:Int×Int×Int)(z35:Int×Int×Int):ZuH k o2 b3_0 b3_1 o4 b5_0 b5_1 o6 o7 o8 z34 z35=repl 2 (Zs o2 b3_0 b3_1 o4 b5_0 b5_1 o6 o7 o8 z35 z34):=by
 rw[ZWV]
 simp only[Zs,Zo,ZB,Z9,Zc,Z6,Z8,Z7,Z3,if_true]
noncomputable def ZLJ(z34:Int×Int×Int)(z35:Int×Int×Int):Option (List Z1z):=execT Z0.G (stepOp Z0.T Z0.G Z0.mvs k) Z4 4 #[true,true,true,true,true,true,true,true,true,true,true,true,true,false,true,false,false,false] ⟨sets (Z20 o8) [(10,P0 9),(79,TV.sv (SV.at (J0 z34.1))),(80,TV.sv (SV.at (At.ep 8 T3 z34.1 0))),(81,TV.sv (SV.agg [J0 (Prod.fst (List.getD o8 (Int.toNat z34.1) ((0:Int),(0:Int),(0:Int)))),J0 (Prod.fst (Prod.snd (List.getD o8 (Int.toNat z34.1) ((0:Int),(0:Int),(0:Int))))),J0 (Prod.snd (Prod.snd (List.getD o8 (Int.toNat z34.1) ((0:Int),(0:Int),(0:Int)))))])),(85,Z3M o8),(86,TV.sv (SV.at (J0 z35.1))),(87,TV.sv (SV.at (At.ep 8 T3 z35.1 0)))],[Ob.ro,Ob.box 105 [At.sl 2,J0 z35.2.1,At.int IntKind.u64 z35.2.2],Z1b o2,Z15 b3_0 b3_1,Z17 o4,Z14 b5_0 b5_1,Z16 o6,Z1a o7,Z19 o8,Z18]⟩ (outK Z0 Z2)
theorem ZWz(z34:Int×Int×Int)(z35:Int×Int×Int):ZLJ k o2 b3_0 b3_1 o4 b5_0 b5_1 o6 o7 o8 z34 z35=joinL (some [(z35.2.1,z35.2.2,o2,b3_0,b3_1,o4,b5_0,b5_1,o6,o7,Prod.fst (List.getD o8 (Int.toNat z34.1) ((0:Int),(0:Int),(0:Int))),Prod.fst (Prod.snd (List.getD o8 (Int.toNat z34.1) ((0:Int),(0:Int),(0:Int)))),Prod.snd (Prod.snd (List.getD o8 (Int.toNat z34.1) ((0:Int),(0:Int),(0:Int)))),Prod.fst (List.getD o8 (Int.toNat z35.1) ((0:Int),(0:Int),(0:Int))),Prod.fst (Prod.snd (List.getD o8 (Int.toNat z35.1) ((0:Int),(0:Int),(0:Int)))),Prod.snd (Prod.snd (List.getD o8 (Int.toNat z35.1) ((0:Int),(0:Int),(0:Int)))))]) (ZuH k o2 b3_0 b3_1 o4 b5_0 b5_1 o6 o7 o8 z34 z35):=by kernel_rfl
theorem ZSx(z34:Int×Int×Int)(z35:Int×Int×Int):ZLJ k o2 b3_0 b3_1 o4 b5_0 b5_1 o6 o7 o8 z34 z35=repl 3 (Zs o2 b3_0 b3_1 o4 b5_0 b5_1 o6 o7 o8 z35 z34):=by
 rw[ZWz]
 simp only[ZyV,Zs,Zo,ZB,Z9,Zc,Z6,Z8,Z7,Z3,if_true]
noncomputable def ZuU(z34:Int×Int×Int)(z35:Int×Int×Int):Option (List Z1z):=execT Z0.G (stepOp Z0.T Z0.G Z0.mvs k) Z4 3 #[true,true,true,true,true,true,true,true,true,true,true,true,true,false,true,true,false,false] ⟨sets (Z20 o8) [(10,P0 10),(11,P0 9),(79,TV.sv (SV.at (J0 z34.1))),(80,TV.sv (SV.at (At.ep 8 T3 z34.1 0))),(81,TV.sv (SV.agg [J0 (Prod.fst (List.getD o8 (Int.toNat z34.1) ((0:Int),(0:Int),(0:Int)))),J0 (Prod.fst (Prod.snd (List.getD o8 (Int.toNat z34.1) ((0:Int),(0:Int),(0:Int))))),J0 (Prod.snd (Prod.snd (List.getD o8 (Int.toNat z34.1) ((0:Int),(0:Int),(0:Int)))))])),(85,Z3M o8),(86,TV.sv (SV.at (J0 z35.1))),(87,TV.sv (SV.at (At.ep 8 T3 z35.1 0)))],[Ob.ro,Ob.box 105 [At.sl 2,J0 z35.2.1,At.int IntKind.u64 z35.2.2],Z1b o2,Z15 b3_0 b3_1,Z17 o4,Z14 b5_0 b5_1,Z16 o6,Z1a o7,Z19 o8,Z18,Z18]⟩ (outK Z0 Z2)
theorem ZWM(z34:Int×Int×Int)(z35:Int×Int×Int):ZuU k o2 b3_0 b3_1 o4 b5_0 b5_1 o6 o7 o8 z34 z35=joinL (some [(z35.2.1,z35.2.2,o2,b3_0,b3_1,o4,b5_0,b5_1,o6,o7,Prod.fst (List.getD o8 (Int.toNat z34.1) ((0:Int),(0:Int),(0:Int))),Prod.fst (Prod.snd (List.getD o8 (Int.toNat z34.1) ((0:Int),(0:Int),(0:Int)))),Prod.snd (Prod.snd (List.getD o8 (Int.toNat z34.1) ((0:Int),(0:Int),(0:Int)))),Prod.fst (List.getD o8 (Int.toNat z35.1) ((0:Int),(0:Int),(0:Int))),Prod.fst (Prod.snd (List.getD o8 (Int.toNat z35.1) ((0:Int),(0:Int),(0:Int)))),Prod.snd (Prod.snd (List.getD o8 (Int.toNat z35.1) ((0:Int),(0:Int),(0:Int)))))]) (some [(z35.2.1,z35.2.2,o2,b3_0,b3_1,o4,b5_0,b5_1,o6,o7,Prod.fst (List.getD o8 (Int.toNat z34.1) ((0:Int),(0:Int),(0:Int))),Prod.fst (Prod.snd (List.getD o8 (Int.toNat z34.1) ((0:Int),(0:Int),(0:Int)))),Prod.snd (Prod.snd (List.getD o8 (Int.toNat z34.1) ((0:Int),(0:Int),(0:Int)))),Prod.fst (List.getD o8 (Int.toNat z35.1) ((0:Int),(0:Int),(0:Int))),Prod.fst (Prod.snd (List.getD o8 (Int.toNat z35.1) ((0:Int),(0:Int),(0:Int)))),Prod.snd (Prod.snd (List.getD o8 (Int.toNat z35.1) ((0:Int),(0:Int),(0:Int)))))]):=by kernel_rfl
theorem Zxx(z34:Int×Int×Int)(z35:Int×Int×Int):ZuU k o2 b3_0 b3_1 o4 b5_0 b5_1 o6 o7 o8 z34 z35=repl 2 (Zs o2 b3_0 b3_1 o4 b5_0 b5_1 o6 o7 o8 z35 z34):=by
 rw[ZWM]
 simp only[Zs,Zo,ZB,Z9,Zc,Z6,Z8,Z7,Z3,if_true]
noncomputable def ZLM(z34:Int×Int×Int)(z35:Int×Int×Int):Option (List Z1z):=execT Z0.G (stepOp Z0.T Z0.G Z0.mvs k) Z4 4 #[true,true,true,true,true,true,true,true,true,true,true,true,true,false,false,true,false,false] ⟨sets (Z20 o8) [(11,P0 9),(79,TV.sv (SV.at (J0 z34.1))),(80,TV.sv (SV.at (At.ep 8 T3 z34.1 0))),(81,TV.sv (SV.agg [J0 (Prod.fst (List.getD o8 (Int.toNat z34.1) ((0:Int),(0:Int),(0:Int)))),J0 (Prod.fst (Prod.snd (List.getD o8 (Int.toNat z34.1) ((0:Int),(0:Int),(0:Int))))),J0 (Prod.snd (Prod.snd (List.getD o8 (Int.toNat z34.1) ((0:Int),(0:Int),(0:Int)))))])),(85,Z3M o8),(86,TV.sv (SV.at (J0 z35.1))),(87,TV.sv (SV.at (At.ep 8 T3 z35.1 0)))],[Ob.ro,Ob.box 105 [At.sl 2,J0 z35.2.1,At.int IntKind.u64 z35.2.2],Z1b o2,Z15 b3_0 b3_1,Z17 o4,Z14 b5_0 b5_1,Z16 o6,Z1a o7,Z19 o8,Z18]⟩ (outK Z0 Z2)
theorem ZWI(z34:Int×Int×Int)(z35:Int×Int×Int):ZLM k o2 b3_0 b3_1 o4 b5_0 b5_1 o6 o7 o8 z34 z35=joinL (some [(z35.2.1,z35.2.2,o2,b3_0,b3_1,o4,b5_0,b5_1,o6,o7,Prod.fst (List.getD o8 (Int.toNat z34.1) ((0:Int),(0:Int),(0:Int))),Prod.fst (Prod.snd (List.getD o8 (Int.toNat z34.1) ((0:Int),(0:Int),(0:Int)))),Prod.snd (Prod.snd (List.getD o8 (Int.toNat z34.1) ((0:Int),(0:Int),(0:Int)))),Prod.fst (List.getD o8 (Int.toNat z35.1) ((0:Int),(0:Int),(0:Int))),Prod.fst (Prod.snd (List.getD o8 (Int.toNat z35.1) ((0:Int),(0:Int),(0:Int)))),Prod.snd (Prod.snd (List.getD o8 (Int.toNat z35.1) ((0:Int),(0:Int),(0:Int)))))]) (ZuU k o2 b3_0 b3_1 o4 b5_0 b5_1 o6 o7 o8 z34 z35):=by kernel_rfl
theorem ZRv(z34:Int×Int×Int)(z35:Int×Int×Int):ZLM k o2 b3_0 b3_1 o4 b5_0 b5_1 o6 o7 o8 z34 z35=repl 3 (Zs o2 b3_0 b3_1 o4 b5_0 b5_1 o6 o7 o8 z35 z34):=by
 rw[ZWI]
 simp only[Zxx,Zs,Zo,ZB,Z9,Zc,Z6,Z8,Z7,Z3,if_true]
noncomputable def ZRn(z34:Int×Int×Int)(z35:Int×Int×Int):Option (List Z1z):=execT Z0.G (stepOp Z0.T Z0.G Z0.mvs k) Z4 5 #[true,true,true,true,true,true,true,true,true,true,true,true,true,false,false,false,false,false] ⟨sets (Z20 o8) [(79,TV.sv (SV.at (J0 z34.1))),(80,TV.sv (SV.at (At.ep 8 T3 z34.1 0))),(81,TV.sv (SV.agg [J0 (Prod.fst (List.getD o8 (Int.toNat z34.1) ((0:Int),(0:Int),(0:Int)))),J0 (Prod.fst (Prod.snd (List.getD o8 (Int.toNat z34.1) ((0:Int),(0:Int),(0:Int))))),J0 (Prod.snd (Prod.snd (List.getD o8 (Int.toNat z34.1) ((0:Int),(0:Int),(0:Int)))))])),(85,Z3M o8),(86,TV.sv (SV.at (J0 z35.1))),(87,TV.sv (SV.at (At.ep 8 T3 z35.1 0)))],[Ob.ro,Ob.box 105 [At.sl 2,J0 z35.2.1,At.int IntKind.u64 z35.2.2],Z1b o2,Z15 b3_0 b3_1,Z17 o4,Z14 b5_0 b5_1,Z16 o6,Z1a o7,Z19 o8]⟩ (outK Z0 Z2)
theorem ZWQ(z34:Int×Int×Int)(z35:Int×Int×Int):ZRn k o2 b3_0 b3_1 o4 b5_0 b5_1 o6 o7 o8 z34 z35=joinL (ZRl k o2 b3_0 b3_1 o4 b5_0 b5_1 o6 o7 o8 z34 z35) (joinL (ZLJ k o2 b3_0 b3_1 o4 b5_0 b5_1 o6 o7 o8 z34 z35) (ZLM k o2 b3_0 b3_1 o4 b5_0 b5_1 o6 o7 o8 z34 z35)):=by kernel_rfl
theorem ZUQ(z34:Int×Int×Int)(z35:Int×Int×Int):ZRn k o2 b3_0 b3_1 o4 b5_0 b5_1 o6 o7 o8 z34 z35=repl 8 (Zs o2 b3_0 b3_1 o4 b5_0 b5_1 o6 o7 o8 z35 z34):=by
 rw[ZWQ]
 simp only[ZUI,ZSx,ZRv,Zs,Zo,ZB,Z9,Zc,Z6,Z8,Z7,Z3,if_true]
noncomputable def ZMN(z34:Int×Int×Int):Option (List Z1z):=execT Z0.G (stepOp Z0.T Z0.G Z0.mvs k) Z4 6 #[true,true,true,true,true,true,true,true,true,true,true,false,false,false,true,false,false,false] ⟨sets (Z20 o8) [(10,P0 9),(79,TV.sv (SV.at (J0 z34.1))),(80,TV.sv (SV.at (At.ep 8 T3 z34.1 0))),(81,TV.sv (SV.agg [J0 (Prod.fst (List.getD o8 (Int.toNat z34.1) ((0:Int),(0:Int),(0:Int)))),J0 (Prod.fst (Prod.snd (List.getD o8 (Int.toNat z34.1) ((0:Int),(0:Int),(0:Int))))),J0 (Prod.snd (Prod.snd (List.getD o8 (Int.toNat z34.1) ((0:Int),(0:Int),(0:Int)))))])),(85,Z3M o8)],[Ob.ro,Ob.box 105 [At.sl 2,J0 z34.2.1,At.int IntKind.u64 z34.2.2],Z1b o2,Z15 b3_0 b3_1,Z17 o4,Z14 b5_0 b5_1,Z16 o6,Z1a o7,Z19 o8,Z18]⟩ (outK Z0 Z2)
theorem ZWR(z34:Int×Int×Int):ZMN k o2 b3_0 b3_1 o4 b5_0 b5_1 o6 o7 o8 z34=joinL (Option.bind (Z1 k (o2,z34.2.1,z34.2.2) (↑(List.length o8):Int)) fun z36=>if (0:Int)≤z36.1 then if z36.1<(↑(List.length o8):Int) then ZLJ k o2 b3_0 b3_1 o4 b5_0 b5_1 o6 o7 o8 z34 z36 else none else none) (Option.bind (Z1 k (o2,z34.2.1,z34.2.2) (↑(List.length o8):Int)) fun z37=>if (0:Int)≤z37.1 then if z37.1<(↑(List.length o8):Int) then ZuH k o2 b3_0 b3_1 o4 b5_0 b5_1 o6 o7 o8 z34 z37 else none else none):=by kernel_rfl
theorem ZRu(z34:Int×Int×Int):ZMN k o2 b3_0 b3_1 o4 b5_0 b5_1 o6 o7 o8 z34=repl 5 (Zo k o2 b3_0 b3_1 o4 b5_0 b5_1 o6 o7 o8 z34):=by
 rw[ZWR]
 simp only[ZSx,ZyV,Zs,Zo,ZB,Z9,Zc,Z6,Z8,Z7,Z3,if_true]
noncomputable def ZMu(z34:Int×Int×Int):Option (List Z1z):=execT Z0.G (stepOp Z0.T Z0.G Z0.mvs k) Z4 6 #[true,true,true,true,true,true,true,true,true,true,true,false,false,false,false,true,false,false] ⟨sets (Z20 o8) [(11,P0 9),(79,TV.sv (SV.at (J0 z34.1))),(80,TV.sv (SV.at (At.ep 8 T3 z34.1 0))),(81,TV.sv (SV.agg [J0 (Prod.fst (List.getD o8 (Int.toNat z34.1) ((0:Int),(0:Int),(0:Int)))),J0 (Prod.fst (Prod.snd (List.getD o8 (Int.toNat z34.1) ((0:Int),(0:Int),(0:Int))))),J0 (Prod.snd (Prod.snd (List.getD o8 (Int.toNat z34.1) ((0:Int),(0:Int),(0:Int)))))])),(85,Z3M o8)],[Ob.ro,Ob.box 105 [At.sl 2,J0 z34.2.1,At.int IntKind.u64 z34.2.2],Z1b o2,Z15 b3_0 b3_1,Z17 o4,Z14 b5_0 b5_1,Z16 o6,Z1a o7,Z19 o8,Z18]⟩ (outK Z0 Z2)
theorem ZWE(z34:Int×Int×Int):ZMu k o2 b3_0 b3_1 o4 b5_0 b5_1 o6 o7 o8 z34=joinL (Option.bind (Z1 k (o2,z34.2.1,z34.2.2) (↑(List.length o8):Int)) fun z39=>if (0:Int)≤z39.1 then if z39.1<(↑(List.length o8):Int) then ZLM k o2 b3_0 b3_1 o4 b5_0 b5_1 o6 o7 o8 z34 z39 else none else none) (Option.bind (Z1 k (o2,z34.2.1,z34.2.2) (↑(List.length o8):Int)) fun z40=>if (0:Int)≤z40.1 then if z40.1<(↑(List.length o8):Int) then ZuU k o2 b3_0 b3_1 o4 b5_0 b5_1 o6 o7 o8 z34 z40 else none else none):=by kernel_rfl
theorem ZSc(z34:Int×Int×Int):ZMu k o2 b3_0 b3_1 o4 b5_0 b5_1 o6 o7 o8 z34=repl 5 (Zo k o2 b3_0 b3_1 o4 b5_0 b5_1 o6 o7 o8 z34):=by
 rw[ZWE]
 simp only[ZRv,Zxx,Zs,Zo,ZB,Z9,Zc,Z6,Z8,Z7,Z3,if_true]
noncomputable def ZRm(z34:Int×Int×Int):Option (List Z1z):=execT Z0.G (stepOp Z0.T Z0.G Z0.mvs k) Z4 7 #[true,true,true,true,true,true,true,true,true,true,true,false,false,false,false,false,false,false] ⟨sets (Z20 o8) [(79,TV.sv (SV.at (J0 z34.1))),(80,TV.sv (SV.at (At.ep 8 T3 z34.1 0))),(81,TV.sv (SV.agg [J0 (Prod.fst (List.getD o8 (Int.toNat z34.1) ((0:Int),(0:Int),(0:Int)))),J0 (Prod.fst (Prod.snd (List.getD o8 (Int.toNat z34.1) ((0:Int),(0:Int),(0:Int))))),J0 (Prod.snd (Prod.snd (List.getD o8 (Int.toNat z34.1) ((0:Int),(0:Int),(0:Int)))))])),(85,Z3M o8)],[Ob.ro,Ob.box 105 [At.sl 2,J0 z34.2.1,At.int IntKind.u64 z34.2.2],Z1b o2,Z15 b3_0 b3_1,Z17 o4,Z14 b5_0 b5_1,Z16 o6,Z1a o7,Z19 o8]⟩ (outK Z0 Z2)
theorem ZWH(z34:Int×Int×Int):ZRm k o2 b3_0 b3_1 o4 b5_0 b5_1 o6 o7 o8 z34=joinL (Option.bind (Z1 k (o2,z34.2.1,z34.2.2) (↑(List.length o8):Int)) fun z35=>if (0:Int)≤z35.1 then if z35.1<(↑(List.length o8):Int) then ZRn k o2 b3_0 b3_1 o4 b5_0 b5_1 o6 o7 o8 z34 z35 else none else none) (joinL (ZMN k o2 b3_0 b3_1 o4 b5_0 b5_1 o6 o7 o8 z34) (ZMu k o2 b3_0 b3_1 o4 b5_0 b5_1 o6 o7 o8 z34)):=by kernel_rfl
theorem ZUR(z34:Int×Int×Int):ZRm k o2 b3_0 b3_1 o4 b5_0 b5_1 o6 o7 o8 z34=repl 18 (Zo k o2 b3_0 b3_1 o4 b5_0 b5_1 o6 o7 o8 z34):=by
 rw[ZWH]
 simp only[ZUQ,ZRu,ZSc,Zs,Zo,ZB,Z9,Zc,Z6,Z8,Z7,Z3,if_true]
noncomputable def ZRk(z34:Int×Int×Int):Option (List Z1z):=execT Z0.G (stepOp Z0.T Z0.G Z0.mvs k) Z4 7 #[true,true,true,true,true,true,true,true,true,true,false,false,false,false,true,false,false,false] ⟨sets (Z20 o8) [(10,P0 9),(79,TV.sv (SV.at (J0 z34.1))),(80,TV.sv (SV.at (At.ep 8 T3 z34.1 0))),(81,TV.sv (SV.agg [J0 (Prod.fst (List.getD o8 (Int.toNat z34.1) ((0:Int),(0:Int),(0:Int)))),J0 (Prod.fst (Prod.snd (List.getD o8 (Int.toNat z34.1) ((0:Int),(0:Int),(0:Int))))),J0 (Prod.snd (Prod.snd (List.getD o8 (Int.toNat z34.1) ((0:Int),(0:Int),(0:Int)))))]))],[Ob.ro,Ob.box 105 [At.sl 2,J0 z34.2.1,At.int IntKind.u64 z34.2.2],Z1b o2,Z15 b3_0 b3_1,Z17 o4,Z14 b5_0 b5_1,Z16 o6,Z1a o7,Z19 o8,Z18]⟩ (outK Z0 Z2)
theorem ZWT(z34:Int×Int×Int):ZRk k o2 b3_0 b3_1 o4 b5_0 b5_1 o6 o7 o8 z34=joinL (ZMN k o2 b3_0 b3_1 o4 b5_0 b5_1 o6 o7 o8 z34) (Option.bind (Z1 k (o2,z34.2.1,z34.2.2) (↑(List.length o8):Int)) fun z43=>if (0:Int)≤z43.1 then if z43.1<(↑(List.length o8):Int) then ZuH k o2 b3_0 b3_1 o4 b5_0 b5_1 o6 o7 o8 z34 z43 else none else none):=by kernel_rfl
theorem ZUy(z34:Int×Int×Int):ZRk k o2 b3_0 b3_1 o4 b5_0 b5_1 o6 o7 o8 z34=repl 7 (Zo k o2 b3_0 b3_1 o4 b5_0 b5_1 o6 o7 o8 z34):=by
 rw[ZWT]
 simp only[ZRu,ZyV,Zs,Zo,ZB,Z9,Zc,Z6,Z8,Z7,Z3,if_true]
noncomputable def ZLI(z34:Int×Int×Int):Option (List Z1z):=execT Z0.G (stepOp Z0.T Z0.G Z0.mvs k) Z4 7 #[true,true,true,true,true,true,true,true,true,true,false,false,false,false,false,true,false,false] ⟨sets (Z20 o8) [(11,P0 9),(79,TV.sv (SV.at (J0 z34.1))),(80,TV.sv (SV.at (At.ep 8 T3 z34.1 0))),(81,TV.sv (SV.agg [J0 (Prod.fst (List.getD o8 (Int.toNat z34.1) ((0:Int),(0:Int),(0:Int)))),J0 (Prod.fst (Prod.snd (List.getD o8 (Int.toNat z34.1) ((0:Int),(0:Int),(0:Int))))),J0 (Prod.snd (Prod.snd (List.getD o8 (Int.toNat z34.1) ((0:Int),(0:Int),(0:Int)))))]))],[Ob.ro,Ob.box 105 [At.sl 2,J0 z34.2.1,At.int IntKind.u64 z34.2.2],Z1b o2,Z15 b3_0 b3_1,Z17 o4,Z14 b5_0 b5_1,Z16 o6,Z1a o7,Z19 o8,Z18]⟩ (outK Z0 Z2)
theorem ZVO(z34:Int×Int×Int):ZLI k o2 b3_0 b3_1 o4 b5_0 b5_1 o6 o7 o8 z34=joinL (ZMu k o2 b3_0 b3_1 o4 b5_0 b5_1 o6 o7 o8 z34) (Option.bind (Z1 k (o2,z34.2.1,z34.2.2) (↑(List.length o8):Int)) fun z45=>if (0:Int)≤z45.1 then if z45.1<(↑(List.length o8):Int) then ZuU k o2 b3_0 b3_1 o4 b5_0 b5_1 o6 o7 o8 z34 z45 else none else none):=by kernel_rfl
theorem ZTQ(z34:Int×Int×Int):ZLI k o2 b3_0 b3_1 o4 b5_0 b5_1 o6 o7 o8 z34=repl 7 (Zo k o2 b3_0 b3_1 o4 b5_0 b5_1 o6 o7 o8 z34):=by
 rw[ZVO]
 simp only[ZSc,Zxx,Zs,Zo,ZB,Z9,Zc,Z6,Z8,Z7,Z3,if_true]
noncomputable def ZRw(z34:Int×Int×Int):Option (List Z1z):=execT Z0.G (stepOp Z0.T Z0.G Z0.mvs k) Z4 8 #[true,true,true,true,true,true,true,true,true,true,false,false,false,false,false,false,false,false] ⟨sets (Z20 o8) [(79,TV.sv (SV.at (J0 z34.1))),(80,TV.sv (SV.at (At.ep 8 T3 z34.1 0))),(81,TV.sv (SV.agg [J0 (Prod.fst (List.getD o8 (Int.toNat z34.1) ((0:Int),(0:Int),(0:Int)))),J0 (Prod.fst (Prod.snd (List.getD o8 (Int.toNat z34.1) ((0:Int),(0:Int),(0:Int))))),J0 (Prod.snd (Prod.snd (List.getD o8 (Int.toNat z34.1) ((0:Int),(0:Int),(0:Int)))))]))],[Ob.ro,Ob.box 105 [At.sl 2,J0 z34.2.1,At.int IntKind.u64 z34.2.2],Z1b o2,Z15 b3_0 b3_1,Z17 o4,Z14 b5_0 b5_1,Z16 o6,Z1a o7,Z19 o8]⟩ (outK Z0 Z2)
theorem ZVV(z34:Int×Int×Int):ZRw k o2 b3_0 b3_1 o4 b5_0 b5_1 o6 o7 o8 z34=joinL (ZRm k o2 b3_0 b3_1 o4 b5_0 b5_1 o6 o7 o8 z34) (joinL (ZRk k o2 b3_0 b3_1 o4 b5_0 b5_1 o6 o7 o8 z34) (ZLI k o2 b3_0 b3_1 o4 b5_0 b5_1 o6 o7 o8 z34)):=by kernel_rfl
theorem ZVW(z34:Int×Int×Int):ZRw k o2 b3_0 b3_1 o4 b5_0 b5_1 o6 o7 o8 z34=repl 32 (Zo k o2 b3_0 b3_1 o4 b5_0 b5_1 o6 o7 o8 z34):=by
 rw[ZVV]
 simp only[ZUR,ZUy,ZTQ,Zs,Zo,ZB,Z9,Zc,Z6,Z8,Z7,Z3,if_true]
noncomputable def ZMj(z34:Int×Int×Int)(z48:Int×Int×Int):Option (List Z1z):=execT Z0.G (stepOp Z0.T Z0.G Z0.mvs k) Z4 4 #[true,true,true,true,true,true,false,true,true,true,true,true,true,true,true,false,false,false] ⟨sets (Z20 o8) [(10,P0 9),(79,TV.sv (SV.at (J0 z34.1))),(80,TV.sv (SV.at (At.ep 8 T3 z34.1 0))),(85,Z3M o8),(86,TV.sv (SV.at (J0 z48.1))),(87,TV.sv (SV.at (At.ep 8 T3 z48.1 0))),(88,TV.sv (SV.agg [J0 (Prod.fst (List.getD o8 (Int.toNat z48.1) ((0:Int),(0:Int),(0:Int)))),J0 (Prod.fst (Prod.snd (List.getD o8 (Int.toNat z48.1) ((0:Int),(0:Int),(0:Int))))),J0 (Prod.snd (Prod.snd (List.getD o8 (Int.toNat z48.1) ((0:Int),(0:Int),(0:Int)))))]))],[Ob.ro,Ob.box 105 [At.sl 2,J0 z48.2.1,At.int IntKind.u64 z48.2.2],Z1b o2,Z15 b3_0 b3_1,Z17 o4,Z14 b5_0 b5_1,Z16 o6,Z1a o7,Z19 o8,Z18]⟩ (outK Z0 Z2)
theorem ZW3(z34:Int×Int×Int)(z48:Int×Int×Int):ZMj k o2 b3_0 b3_1 o4 b5_0 b5_1 o6 o7 o8 z34 z48=joinL (some [(z48.2.1,z48.2.2,o2,b3_0,b3_1,o4,b5_0,b5_1,o6,o7,Prod.fst (List.getD o8 (Int.toNat z34.1) ((0:Int),(0:Int),(0:Int))),Prod.fst (Prod.snd (List.getD o8 (Int.toNat z34.1) ((0:Int),(0:Int),(0:Int)))),Prod.snd (Prod.snd (List.getD o8 (Int.toNat z34.1) ((0:Int),(0:Int),(0:Int)))),Prod.fst (List.getD o8 (Int.toNat z48.1) ((0:Int),(0:Int),(0:Int))),Prod.fst (Prod.snd (List.getD o8 (Int.toNat z48.1) ((0:Int),(0:Int),(0:Int)))),Prod.snd (Prod.snd (List.getD o8 (Int.toNat z48.1) ((0:Int),(0:Int),(0:Int)))))]) (some [(z48.2.1,z48.2.2,o2,b3_0,b3_1,o4,b5_0,b5_1,o6,o7,Prod.fst (List.getD o8 (Int.toNat z34.1) ((0:Int),(0:Int),(0:Int))),Prod.fst (Prod.snd (List.getD o8 (Int.toNat z34.1) ((0:Int),(0:Int),(0:Int)))),Prod.snd (Prod.snd (List.getD o8 (Int.toNat z34.1) ((0:Int),(0:Int),(0:Int)))),Prod.fst (List.getD o8 (Int.toNat z48.1) ((0:Int),(0:Int),(0:Int))),Prod.fst (Prod.snd (List.getD o8 (Int.toNat z48.1) ((0:Int),(0:Int),(0:Int)))),Prod.snd (Prod.snd (List.getD o8 (Int.toNat z48.1) ((0:Int),(0:Int),(0:Int)))))]):=by kernel_rfl
theorem ZTO(z34:Int×Int×Int)(z48:Int×Int×Int):ZMj k o2 b3_0 b3_1 o4 b5_0 b5_1 o6 o7 o8 z34 z48=repl 2 (Zs o2 b3_0 b3_1 o4 b5_0 b5_1 o6 o7 o8 z48 z34):=by
 rw[ZW3]
 simp only[Zs,Zo,ZB,Z9,Zc,Z6,Z8,Z7,Z3,if_true]
noncomputable def ZMd(z34:Int×Int×Int)(z48:Int×Int×Int):Option (List Z1z):=execT Z0.G (stepOp Z0.T Z0.G Z0.mvs k) Z4 4 #[true,true,true,true,true,true,false,true,true,true,true,true,true,true,false,true,false,false] ⟨sets (Z20 o8) [(11,P0 9),(79,TV.sv (SV.at (J0 z34.1))),(80,TV.sv (SV.at (At.ep 8 T3 z34.1 0))),(85,Z3M o8),(86,TV.sv (SV.at (J0 z48.1))),(87,TV.sv (SV.at (At.ep 8 T3 z48.1 0))),(88,TV.sv (SV.agg [J0 (Prod.fst (List.getD o8 (Int.toNat z48.1) ((0:Int),(0:Int),(0:Int)))),J0 (Prod.fst (Prod.snd (List.getD o8 (Int.toNat z48.1) ((0:Int),(0:Int),(0:Int))))),J0 (Prod.snd (Prod.snd (List.getD o8 (Int.toNat z48.1) ((0:Int),(0:Int),(0:Int)))))]))],[Ob.ro,Ob.box 105 [At.sl 2,J0 z48.2.1,At.int IntKind.u64 z48.2.2],Z1b o2,Z15 b3_0 b3_1,Z17 o4,Z14 b5_0 b5_1,Z16 o6,Z1a o7,Z19 o8,Z18]⟩ (outK Z0 Z2)
theorem ZWt(z34:Int×Int×Int)(z48:Int×Int×Int):ZMd k o2 b3_0 b3_1 o4 b5_0 b5_1 o6 o7 o8 z34 z48=joinL (some [(z48.2.1,z48.2.2,o2,b3_0,b3_1,o4,b5_0,b5_1,o6,o7,Prod.fst (List.getD o8 (Int.toNat z34.1) ((0:Int),(0:Int),(0:Int))),Prod.fst (Prod.snd (List.getD o8 (Int.toNat z34.1) ((0:Int),(0:Int),(0:Int)))),Prod.snd (Prod.snd (List.getD o8 (Int.toNat z34.1) ((0:Int),(0:Int),(0:Int)))),Prod.fst (List.getD o8 (Int.toNat z48.1) ((0:Int),(0:Int),(0:Int))),Prod.fst (Prod.snd (List.getD o8 (Int.toNat z48.1) ((0:Int),(0:Int),(0:Int)))),Prod.snd (Prod.snd (List.getD o8 (Int.toNat z48.1) ((0:Int),(0:Int),(0:Int)))))]) (some [(z48.2.1,z48.2.2,o2,b3_0,b3_1,o4,b5_0,b5_1,o6,o7,Prod.fst (List.getD o8 (Int.toNat z34.1) ((0:Int),(0:Int),(0:Int))),Prod.fst (Prod.snd (List.getD o8 (Int.toNat z34.1) ((0:Int),(0:Int),(0:Int)))),Prod.snd (Prod.snd (List.getD o8 (Int.toNat z34.1) ((0:Int),(0:Int),(0:Int)))),Prod.fst (List.getD o8 (Int.toNat z48.1) ((0:Int),(0:Int),(0:Int))),Prod.fst (Prod.snd (List.getD o8 (Int.toNat z48.1) ((0:Int),(0:Int),(0:Int)))),Prod.snd (Prod.snd (List.getD o8 (Int.toNat z48.1) ((0:Int),(0:Int),(0:Int)))))]):=by kernel_rfl
theorem ZTI(z34:Int×Int×Int)(z48:Int×Int×Int):ZMd k o2 b3_0 b3_1 o4 b5_0 b5_1 o6 o7 o8 z34 z48=repl 2 (Zs o2 b3_0 b3_1 o4 b5_0 b5_1 o6 o7 o8 z48 z34):=by
 rw[ZWt]
 simp only[Zs,Zo,ZB,Z9,Zc,Z6,Z8,Z7,Z3,if_true]
noncomputable def ZRA(z34:Int×Int×Int)(z48:Int×Int×Int):Option (List Z1z):=execT Z0.G (stepOp Z0.T Z0.G Z0.mvs k) Z4 5 #[true,true,true,true,true,true,false,true,true,true,true,true,true,true,false,false,false,false] ⟨sets (Z20 o8) [(79,TV.sv (SV.at (J0 z34.1))),(80,TV.sv (SV.at (At.ep 8 T3 z34.1 0))),(85,Z3M o8),(86,TV.sv (SV.at (J0 z48.1))),(87,TV.sv (SV.at (At.ep 8 T3 z48.1 0))),(88,TV.sv (SV.agg [J0 (Prod.fst (List.getD o8 (Int.toNat z48.1) ((0:Int),(0:Int),(0:Int)))),J0 (Prod.fst (Prod.snd (List.getD o8 (Int.toNat z48.1) ((0:Int),(0:Int),(0:Int))))),J0 (Prod.snd (Prod.snd (List.getD o8 (Int.toNat z48.1) ((0:Int),(0:Int),(0:Int)))))]))],[Ob.ro,Ob.box 105 [At.sl 2,J0 z48.2.1,At.int IntKind.u64 z48.2.2],Z1b o2,Z15 b3_0 b3_1,Z17 o4,Z14 b5_0 b5_1,Z16 o6,Z1a o7,Z19 o8]⟩ (outK Z0 Z2)
theorem ZVC(z34:Int×Int×Int)(z48:Int×Int×Int):ZRA k o2 b3_0 b3_1 o4 b5_0 b5_1 o6 o7 o8 z34 z48=joinL (ZRl k o2 b3_0 b3_1 o4 b5_0 b5_1 o6 o7 o8 z34 z48) (joinL (ZMj k o2 b3_0 b3_1 o4 b5_0 b5_1 o6 o7 o8 z34 z48) (ZMd k o2 b3_0 b3_1 o4 b5_0 b5_1 o6 o7 o8 z34 z48)):=by kernel_rfl
theorem ZVI(z34:Int×Int×Int)(z48:Int×Int×Int):ZRA k o2 b3_0 b3_1 o4 b5_0 b5_1 o6 o7 o8 z34 z48=repl 6 (Zs o2 b3_0 b3_1 o4 b5_0 b5_1 o6 o7 o8 z48 z34):=by
 rw[ZVC]
 simp only[ZUI,ZTO,ZTI,Zs,Zo,ZB,Z9,Zc,Z6,Z8,Z7,Z3,if_true]
noncomputable def ZMz(z34:Int×Int×Int)(z48:Int×Int×Int):Option (List Z1z):=execT Z0.G (stepOp Z0.T Z0.G Z0.mvs k) Z4 4 #[true,true,true,true,true,true,false,true,true,true,true,true,true,false,true,true,false,false] ⟨sets (Z20 o8) [(10,P0 9),(11,P0 10),(79,TV.sv (SV.at (J0 z34.1))),(80,TV.sv (SV.at (At.ep 8 T3 z34.1 0))),(85,Z3M o8),(86,TV.sv (SV.at (J0 z48.1))),(87,TV.sv (SV.at (At.ep 8 T3 z48.1 0)))],[Ob.ro,Ob.box 105 [At.sl 2,J0 z48.2.1,At.int IntKind.u64 z48.2.2],Z1b o2,Z15 b3_0 b3_1,Z17 o4,Z14 b5_0 b5_1,Z16 o6,Z1a o7,Z19 o8,Z18,Z18]⟩ (outK Z0 Z2)
theorem ZVG(z34:Int×Int×Int)(z48:Int×Int×Int):ZMz k o2 b3_0 b3_1 o4 b5_0 b5_1 o6 o7 o8 z34 z48=joinL (ZuH k o2 b3_0 b3_1 o4 b5_0 b5_1 o6 o7 o8 z34 z48) (some [(z48.2.1,z48.2.2,o2,b3_0,b3_1,o4,b5_0,b5_1,o6,o7,Prod.fst (List.getD o8 (Int.toNat z34.1) ((0:Int),(0:Int),(0:Int))),Prod.fst (Prod.snd (List.getD o8 (Int.toNat z34.1) ((0:Int),(0:Int),(0:Int)))),Prod.snd (Prod.snd (List.getD o8 (Int.toNat z34.1) ((0:Int),(0:Int),(0:Int)))),Prod.fst (List.getD o8 (Int.toNat z48.1) ((0:Int),(0:Int),(0:Int))),Prod.fst (Prod.snd (List.getD o8 (Int.toNat z48.1) ((0:Int),(0:Int),(0:Int)))),Prod.snd (Prod.snd (List.getD o8 (Int.toNat z48.1) ((0:Int),(0:Int),(0:Int)))))]):=by kernel_rfl
theorem ZU0(z34:Int×Int×Int)(z48:Int×Int×Int):ZMz k o2 b3_0 b3_1 o4 b5_0 b5_1 o6 o7 o8 z34 z48=repl 3 (Zs o2 b3_0 b3_1 o4 b5_0 b5_1 o6 o7 o8 z48 z34):=by
 rw[ZVG]
 simp only[ZyV,Zs,Zo,ZB,Z9,Zc,Z6,Z8,Z7,Z3,if_true]
noncomputable def ZMJ(z34:Int×Int×Int)(z48:Int×Int×Int):Option (List Z1z):=execT Z0.G (stepOp Z0.T Z0.G Z0.mvs k) Z4 5 #[true,true,true,true,true,true,false,true,true,true,true,true,true,false,true,false,false,false] ⟨sets (Z20 o8) [(10,P0 9),(79,TV.sv (SV.at (J0 z34.1))),(80,TV.sv (SV.at (At.ep 8 T3 z34.1 0))),(85,Z3M o8),(86,TV.sv (SV.at (J0 z48.1))),(87,TV.sv (SV.at (At.ep 8 T3 z48.1 0)))],[Ob.ro,Ob.box 105 [At.sl 2,J0 z48.2.1,At.int IntKind.u64 z48.2.2],Z1b o2,Z15 b3_0 b3_1,Z17 o4,Z14 b5_0 b5_1,Z16 o6,Z1a o7,Z19 o8,Z18]⟩ (outK Z0 Z2)
theorem ZVH(z34:Int×Int×Int)(z48:Int×Int×Int):ZMJ k o2 b3_0 b3_1 o4 b5_0 b5_1 o6 o7 o8 z34 z48=joinL (ZLJ k o2 b3_0 b3_1 o4 b5_0 b5_1 o6 o7 o8 z34 z48) (joinL (ZMj k o2 b3_0 b3_1 o4 b5_0 b5_1 o6 o7 o8 z34 z48) (ZMz k o2 b3_0 b3_1 o4 b5_0 b5_1 o6 o7 o8 z34 z48)):=by kernel_rfl
theorem ZTB(z34:Int×Int×Int)(z48:Int×Int×Int):ZMJ k o2 b3_0 b3_1 o4 b5_0 b5_1 o6 o7 o8 z34 z48=repl 8 (Zs o2 b3_0 b3_1 o4 b5_0 b5_1 o6 o7 o8 z48 z34):=by
 rw[ZVH]
 simp only[ZSx,ZTO,ZU0,Zs,Zo,ZB,Z9,Zc,Z6,Z8,Z7,Z3,if_true]
noncomputable def ZN2(z34:Int×Int×Int)(z48:Int×Int×Int):Option (List Z1z):=execT Z0.G (stepOp Z0.T Z0.G Z0.mvs k) Z4 4 #[true,true,true,true,true,true,false,true,true,true,true,true,true,false,true,true,false,false] ⟨sets (Z20 o8) [(10,P0 10),(11,P0 9),(79,TV.sv (SV.at (J0 z34.1))),(80,TV.sv (SV.at (At.ep 8 T3 z34.1 0))),(85,Z3M o8),(86,TV.sv (SV.at (J0 z48.1))),(87,TV.sv (SV.at (At.ep 8 T3 z48.1 0)))],[Ob.ro,Ob.box 105 [At.sl 2,J0 z48.2.1,At.int IntKind.u64 z48.2.2],Z1b o2,Z15 b3_0 b3_1,Z17 o4,Z14 b5_0 b5_1,Z16 o6,Z1a o7,Z19 o8,Z18,Z18]⟩ (outK Z0 Z2)
theorem ZW5(z34:Int×Int×Int)(z48:Int×Int×Int):ZN2 k o2 b3_0 b3_1 o4 b5_0 b5_1 o6 o7 o8 z34 z48=joinL (ZuU k o2 b3_0 b3_1 o4 b5_0 b5_1 o6 o7 o8 z34 z48) (some [(z48.2.1,z48.2.2,o2,b3_0,b3_1,o4,b5_0,b5_1,o6,o7,Prod.fst (List.getD o8 (Int.toNat z34.1) ((0:Int),(0:Int),(0:Int))),Prod.fst (Prod.snd (List.getD o8 (Int.toNat z34.1) ((0:Int),(0:Int),(0:Int)))),Prod.snd (Prod.snd (List.getD o8 (Int.toNat z34.1) ((0:Int),(0:Int),(0:Int)))),Prod.fst (List.getD o8 (Int.toNat z48.1) ((0:Int),(0:Int),(0:Int))),Prod.fst (Prod.snd (List.getD o8 (Int.toNat z48.1) ((0:Int),(0:Int),(0:Int)))),Prod.snd (Prod.snd (List.getD o8 (Int.toNat z48.1) ((0:Int),(0:Int),(0:Int)))))]):=by kernel_rfl
theorem ZTV(z34:Int×Int×Int)(z48:Int×Int×Int):ZN2 k o2 b3_0 b3_1 o4 b5_0 b5_1 o6 o7 o8 z34 z48=repl 3 (Zs o2 b3_0 b3_1 o4 b5_0 b5_1 o6 o7 o8 z48 z34):=by
 rw[ZW5]
 simp only[Zxx,Zs,Zo,ZB,Z9,Zc,Z6,Z8,Z7,Z3,if_true]
noncomputable def ZN6(z34:Int×Int×Int)(z48:Int×Int×Int):Option (List Z1z):=execT Z0.G (stepOp Z0.T Z0.G Z0.mvs k) Z4 5 #[true,true,true,true,true,true,false,true,true,true,true,true,true,false,false,true,false,false] ⟨sets (Z20 o8) [(11,P0 9),(79,TV.sv (SV.at (J0 z34.1))),(80,TV.sv (SV.at (At.ep 8 T3 z34.1 0))),(85,Z3M o8),(86,TV.sv (SV.at (J0 z48.1))),(87,TV.sv (SV.at (At.ep 8 T3 z48.1 0)))],[Ob.ro,Ob.box 105 [At.sl 2,J0 z48.2.1,At.int IntKind.u64 z48.2.2],Z1b o2,Z15 b3_0 b3_1,Z17 o4,Z14 b5_0 b5_1,Z16 o6,Z1a o7,Z19 o8,Z18]⟩ (outK Z0 Z2)
theorem ZVs(z34:Int×Int×Int)(z48:Int×Int×Int):ZN6 k o2 b3_0 b3_1 o4 b5_0 b5_1 o6 o7 o8 z34 z48=joinL (ZLM k o2 b3_0 b3_1 o4 b5_0 b5_1 o6 o7 o8 z34 z48) (joinL (ZMd k o2 b3_0 b3_1 o4 b5_0 b5_1 o6 o7 o8 z34 z48) (ZN2 k o2 b3_0 b3_1 o4 b5_0 b5_1 o6 o7 o8 z34 z48)):=by kernel_rfl
theorem ZTT(z34:Int×Int×Int)(z48:Int×Int×Int):ZN6 k o2 b3_0 b3_1 o4 b5_0 b5_1 o6 o7 o8 z34 z48=repl 8 (Zs o2 b3_0 b3_1 o4 b5_0 b5_1 o6 o7 o8 z48 z34):=by
 rw[ZVs]
 simp only[ZRv,ZTI,ZTV,Zs,Zo,ZB,Z9,Zc,Z6,Z8,Z7,Z3,if_true]
noncomputable def ZRK(z34:Int×Int×Int)(z48:Int×Int×Int):Option (List Z1z):=execT Z0.G (stepOp Z0.T Z0.G Z0.mvs k) Z4 6 #[true,true,true,true,true,true,false,true,true,true,true,true,true,false,false,false,false,false] ⟨sets (Z20 o8) [(79,TV.sv (SV.at (J0 z34.1))),(80,TV.sv (SV.at (At.ep 8 T3 z34.1 0))),(85,Z3M o8),(86,TV.sv (SV.at (J0 z48.1))),(87,TV.sv (SV.at (At.ep 8 T3 z48.1 0)))],[Ob.ro,Ob.box 105 [At.sl 2,J0 z48.2.1,At.int IntKind.u64 z48.2.2],Z1b o2,Z15 b3_0 b3_1,Z17 o4,Z14 b5_0 b5_1,Z16 o6,Z1a o7,Z19 o8]⟩ (outK Z0 Z2)
theorem ZW7(z34:Int×Int×Int)(z48:Int×Int×Int):ZRK k o2 b3_0 b3_1 o4 b5_0 b5_1 o6 o7 o8 z34 z48=joinL (ZRn k o2 b3_0 b3_1 o4 b5_0 b5_1 o6 o7 o8 z34 z48) (joinL (ZRA k o2 b3_0 b3_1 o4 b5_0 b5_1 o6 o7 o8 z34 z48) (joinL (ZMJ k o2 b3_0 b3_1 o4 b5_0 b5_1 o6 o7 o8 z34 z48) (ZN6 k o2 b3_0 b3_1 o4 b5_0 b5_1 o6 o7 o8 z34 z48))):=by kernel_rfl
theorem ZWh(z34:Int×Int×Int)(z48:Int×Int×Int):ZRK k o2 b3_0 b3_1 o4 b5_0 b5_1 o6 o7 o8 z34 z48=repl 30 (Zs o2 b3_0 b3_1 o4 b5_0 b5_1 o6 o7 o8 z48 z34):=by
 rw[ZW7]
 simp only[ZUQ,ZVI,ZTB,ZTT,Zs,Zo,ZB,Z9,Zc,Z6,Z8,Z7,Z3,if_true]
noncomputable def Zyr(z34:Int×Int×Int):Option (List Z1z):=execT Z0.G (stepOp Z0.T Z0.G Z0.mvs k) Z4 6 #[true,true,true,true,true,true,false,true,true,true,true,false,false,false,true,true,false,false] ⟨sets (Z20 o8) [(10,P0 9),(11,P0 10),(79,TV.sv (SV.at (J0 z34.1))),(80,TV.sv (SV.at (At.ep 8 T3 z34.1 0))),(85,Z3M o8)],[Ob.ro,Ob.box 105 [At.sl 2,J0 z34.2.1,At.int IntKind.u64 z34.2.2],Z1b o2,Z15 b3_0 b3_1,Z17 o4,Z14 b5_0 b5_1,Z16 o6,Z1a o7,Z19 o8,Z18,Z18]⟩ (outK Z0 Z2)
theorem ZWw(z34:Int×Int×Int):Zyr k o2 b3_0 b3_1 o4 b5_0 b5_1 o6 o7 o8 z34=joinL (Option.bind (Z1 k (o2,z34.2.1,z34.2.2) (↑(List.length o8):Int)) fun z50=>if (0:Int)≤z50.1 then if z50.1<(↑(List.length o8):Int) then ZuH k o2 b3_0 b3_1 o4 b5_0 b5_1 o6 o7 o8 z34 z50 else none else none) (Option.bind (Z1 k (o2,z34.2.1,z34.2.2) (↑(List.length o8):Int)) fun z51=>if (0:Int)≤z51.1 then if z51.1<(↑(List.length o8):Int) then ZMz k o2 b3_0 b3_1 o4 b5_0 b5_1 o6 o7 o8 z34 z51 else none else none):=by kernel_rfl
theorem ZGF(z34:Int×Int×Int):Zyr k o2 b3_0 b3_1 o4 b5_0 b5_1 o6 o7 o8 z34=repl 5 (Zo k o2 b3_0 b3_1 o4 b5_0 b5_1 o6 o7 o8 z34):=by
 rw[ZWw]
 simp only[ZyV,ZU0,Zs,Zo,ZB,Z9,Zc,Z6,Z8,Z7,Z3,if_true]
noncomputable def ZGb(z34:Int×Int×Int):Option (List Z1z):=execT Z0.G (stepOp Z0.T Z0.G Z0.mvs k) Z4 7 #[true,true,true,true,true,true,false,true,true,true,true,false,false,false,true,false,false,false] ⟨sets (Z20 o8) [(10,P0 9),(79,TV.sv (SV.at (J0 z34.1))),(80,TV.sv (SV.at (At.ep 8 T3 z34.1 0))),(85,Z3M o8)],[Ob.ro,Ob.box 105 [At.sl 2,J0 z34.2.1,At.int IntKind.u64 z34.2.2],Z1b o2,Z15 b3_0 b3_1,Z17 o4,Z14 b5_0 b5_1,Z16 o6,Z1a o7,Z19 o8,Z18]⟩ (outK Z0 Z2)
theorem ZWu(z34:Int×Int×Int):ZGb k o2 b3_0 b3_1 o4 b5_0 b5_1 o6 o7 o8 z34=joinL (ZMN k o2 b3_0 b3_1 o4 b5_0 b5_1 o6 o7 o8 z34) (joinL (Option.bind (Z1 k (o2,z34.2.1,z34.2.2) (↑(List.length o8):Int)) fun z49=>if (0:Int)≤z49.1 then if z49.1<(↑(List.length o8):Int) then ZMJ k o2 b3_0 b3_1 o4 b5_0 b5_1 o6 o7 o8 z34 z49 else none else none) (Zyr k o2 b3_0 b3_1 o4 b5_0 b5_1 o6 o7 o8 z34)):=by kernel_rfl
theorem ZOJ(z34:Int×Int×Int):ZGb k o2 b3_0 b3_1 o4 b5_0 b5_1 o6 o7 o8 z34=repl 18 (Zo k o2 b3_0 b3_1 o4 b5_0 b5_1 o6 o7 o8 z34):=by
 rw[ZWu]
 simp only[ZRu,ZTB,ZGF,Zs,Zo,ZB,Z9,Zc,Z6,Z8,Z7,Z3,if_true]
noncomputable def ZyT(z34:Int×Int×Int):Option (List Z1z):=execT Z0.G (stepOp Z0.T Z0.G Z0.mvs k) Z4 6 #[true,true,true,true,true,true,false,true,true,true,true,false,false,false,true,true,false,false] ⟨sets (Z20 o8) [(10,P0 10),(11,P0 9),(79,TV.sv (SV.at (J0 z34.1))),(80,TV.sv (SV.at (At.ep 8 T3 z34.1 0))),(85,Z3M o8)],[Ob.ro,Ob.box 105 [At.sl 2,J0 z34.2.1,At.int IntKind.u64 z34.2.2],Z1b o2,Z15 b3_0 b3_1,Z17 o4,Z14 b5_0 b5_1,Z16 o6,Z1a o7,Z19 o8,Z18,Z18]⟩ (outK Z0 Z2)
theorem ZWy(z34:Int×Int×Int):ZyT k o2 b3_0 b3_1 o4 b5_0 b5_1 o6 o7 o8 z34=joinL (Option.bind (Z1 k (o2,z34.2.1,z34.2.2) (↑(List.length o8):Int)) fun z55=>if (0:Int)≤z55.1 then if z55.1<(↑(List.length o8):Int) then ZuU k o2 b3_0 b3_1 o4 b5_0 b5_1 o6 o7 o8 z34 z55 else none else none) (Option.bind (Z1 k (o2,z34.2.1,z34.2.2) (↑(List.length o8):Int)) fun z56=>if (0:Int)≤z56.1 then if z56.1<(↑(List.length o8):Int) then ZN2 k o2 b3_0 b3_1 o4 b5_0 b5_1 o6 o7 o8 z34 z56 else none else none):=by kernel_rfl
theorem ZGD(z34:Int×Int×Int):ZyT k o2 b3_0 b3_1 o4 b5_0 b5_1 o6 o7 o8 z34=repl 5 (Zo k o2 b3_0 b3_1 o4 b5_0 b5_1 o6 o7 o8 z34):=by
 rw[ZWy]
 simp only[Zxx,ZTV,Zs,Zo,ZB,Z9,Zc,Z6,Z8,Z7,Z3,if_true]
noncomputable def ZGc(z34:Int×Int×Int):Option (List Z1z):=execT Z0.G (stepOp Z0.T Z0.G Z0.mvs k) Z4 7 #[true,true,true,true,true,true,false,true,true,true,true,false,false,false,false,true,false,false] ⟨sets (Z20 o8) [(11,P0 9),(79,TV.sv (SV.at (J0 z34.1))),(80,TV.sv (SV.at (At.ep 8 T3 z34.1 0))),(85,Z3M o8)],[Ob.ro,Ob.box 105 [At.sl 2,J0 z34.2.1,At.int IntKind.u64 z34.2.2],Z1b o2,Z15 b3_0 b3_1,Z17 o4,Z14 b5_0 b5_1,Z16 o6,Z1a o7,Z19 o8,Z18]⟩ (outK Z0 Z2)
theorem ZVE(z34:Int×Int×Int):ZGc k o2 b3_0 b3_1 o4 b5_0 b5_1 o6 o7 o8 z34=joinL (ZMu k o2 b3_0 b3_1 o4 b5_0 b5_1 o6 o7 o8 z34) (joinL (Option.bind (Z1 k (o2,z34.2.1,z34.2.2) (↑(List.length o8):Int)) fun z54=>if (0:Int)≤z54.1 then if z54.1<(↑(List.length o8):Int) then ZN6 k o2 b3_0 b3_1 o4 b5_0 b5_1 o6 o7 o8 z34 z54 else none else none) (ZyT k o2 b3_0 b3_1 o4 b5_0 b5_1 o6 o7 o8 z34)):=by kernel_rfl
theorem ZOl(z34:Int×Int×Int):ZGc k o2 b3_0 b3_1 o4 b5_0 b5_1 o6 o7 o8 z34=repl 18 (Zo k o2 b3_0 b3_1 o4 b5_0 b5_1 o6 o7 o8 z34):=by
 rw[ZVE]
 simp only[ZSc,ZTT,ZGD,Zs,Zo,ZB,Z9,Zc,Z6,Z8,Z7,Z3,if_true]
noncomputable def ZM3(z34:Int×Int×Int):Option (List Z1z):=execT Z0.G (stepOp Z0.T Z0.G Z0.mvs k) Z4 8 #[true,true,true,true,true,true,false,true,true,true,true,false,false,false,false,false,false,false] ⟨sets (Z20 o8) [(79,TV.sv (SV.at (J0 z34.1))),(80,TV.sv (SV.at (At.ep 8 T3 z34.1 0))),(85,Z3M o8)],[Ob.ro,Ob.box 105 [At.sl 2,J0 z34.2.1,At.int IntKind.u64 z34.2.2],Z1b o2,Z15 b3_0 b3_1,Z17 o4,Z14 b5_0 b5_1,Z16 o6,Z1a o7,Z19 o8]⟩ (outK Z0 Z2)
theorem ZVw(z34:Int×Int×Int):ZM3 k o2 b3_0 b3_1 o4 b5_0 b5_1 o6 o7 o8 z34=joinL (ZRm k o2 b3_0 b3_1 o4 b5_0 b5_1 o6 o7 o8 z34) (joinL (Option.bind (Z1 k (o2,z34.2.1,z34.2.2) (↑(List.length o8):Int)) fun z48=>if (0:Int)≤z48.1 then if z48.1<(↑(List.length o8):Int) then ZRK k o2 b3_0 b3_1 o4 b5_0 b5_1 o6 o7 o8 z34 z48 else none else none) (joinL (ZGb k o2 b3_0 b3_1 o4 b5_0 b5_1 o6 o7 o8 z34) (ZGc k o2 b3_0 b3_1 o4 b5_0 b5_1 o6 o7 o8 z34))):=by kernel_rfl
theorem ZTP(z34:Int×Int×Int):ZM3 k o2 b3_0 b3_1 o4 b5_0 b5_1 o6 o7 o8 z34=repl 84 (Zo k o2 b3_0 b3_1 o4 b5_0 b5_1 o6 o7 o8 z34):=by
 rw[ZVw]
 simp only[ZUR,ZWh,ZOJ,ZOl,Zs,Zo,ZB,Z9,Zc,Z6,Z8,Z7,Z3,if_true]
noncomputable def ZN1(z34:Int×Int×Int):Option (List Z1z):=execT Z0.G (stepOp Z0.T Z0.G Z0.mvs k) Z4 7 #[true,true,true,true,true,true,false,true,true,true,false,false,false,false,true,true,false,false] ⟨sets (Z20 o8) [(10,P0 9),(11,P0 10),(79,TV.sv (SV.at (J0 z34.1))),(80,TV.sv (SV.at (At.ep 8 T3 z34.1 0)))],[Ob.ro,Ob.box 105 [At.sl 2,J0 z34.2.1,At.int IntKind.u64 z34.2.2],Z1b o2,Z15 b3_0 b3_1,Z17 o4,Z14 b5_0 b5_1,Z16 o6,Z1a o7,Z19 o8,Z18,Z18]⟩ (outK Z0 Z2)
theorem ZWr(z34:Int×Int×Int):ZN1 k o2 b3_0 b3_1 o4 b5_0 b5_1 o6 o7 o8 z34=joinL (Option.bind (Z1 k (o2,z34.2.1,z34.2.2) (↑(List.length o8):Int)) fun z60=>if (0:Int)≤z60.1 then if z60.1<(↑(List.length o8):Int) then ZuH k o2 b3_0 b3_1 o4 b5_0 b5_1 o6 o7 o8 z34 z60 else none else none) (Zyr k o2 b3_0 b3_1 o4 b5_0 b5_1 o6 o7 o8 z34):=by kernel_rfl
theorem ZTH(z34:Int×Int×Int):ZN1 k o2 b3_0 b3_1 o4 b5_0 b5_1 o6 o7 o8 z34=repl 7 (Zo k o2 b3_0 b3_1 o4 b5_0 b5_1 o6 o7 o8 z34):=by
 rw[ZWr]
 simp only[ZyV,ZGF,Zs,Zo,ZB,Z9,Zc,Z6,Z8,Z7,Z3,if_true]
noncomputable def ZM5(z34:Int×Int×Int):Option (List Z1z):=execT Z0.G (stepOp Z0.T Z0.G Z0.mvs k) Z4 8 #[true,true,true,true,true,true,false,true,true,true,false,false,false,false,true,false,false,false] ⟨sets (Z20 o8) [(10,P0 9),(79,TV.sv (SV.at (J0 z34.1))),(80,TV.sv (SV.at (At.ep 8 T3 z34.1 0)))],[Ob.ro,Ob.box 105 [At.sl 2,J0 z34.2.1,At.int IntKind.u64 z34.2.2],Z1b o2,Z15 b3_0 b3_1,Z17 o4,Z14 b5_0 b5_1,Z16 o6,Z1a o7,Z19 o8,Z18]⟩ (outK Z0 Z2)
theorem ZVU(z34:Int×Int×Int):ZM5 k o2 b3_0 b3_1 o4 b5_0 b5_1 o6 o7 o8 z34=joinL (ZRk k o2 b3_0 b3_1 o4 b5_0 b5_1 o6 o7 o8 z34) (joinL (ZGb k o2 b3_0 b3_1 o4 b5_0 b5_1 o6 o7 o8 z34) (ZN1 k o2 b3_0 b3_1 o4 b5_0 b5_1 o6 o7 o8 z34)):=by kernel_rfl
theorem ZTX(z34:Int×Int×Int):ZM5 k o2 b3_0 b3_1 o4 b5_0 b5_1 o6 o7 o8 z34=repl 32 (Zo k o2 b3_0 b3_1 o4 b5_0 b5_1 o6 o7 o8 z34):=by
 rw[ZVU]
 simp only[ZUy,ZOJ,ZTH,Zs,Zo,ZB,Z9,Zc,Z6,Z8,Z7,Z3,if_true]
noncomputable def ZMl(z34:Int×Int×Int):Option (List Z1z):=execT Z0.G (stepOp Z0.T Z0.G Z0.mvs k) Z4 7 #[true,true,true,true,true,true,false,true,true,true,false,false,false,false,true,true,false,false] ⟨sets (Z20 o8) [(10,P0 10),(11,P0 9),(79,TV.sv (SV.at (J0 z34.1))),(80,TV.sv (SV.at (At.ep 8 T3 z34.1 0)))],[Ob.ro,Ob.box 105 [At.sl 2,J0 z34.2.1,At.int IntKind.u64 z34.2.2],Z1b o2,Z15 b3_0 b3_1,Z17 o4,Z14 b5_0 b5_1,Z16 o6,Z1a o7,Z19 o8,Z18,Z18]⟩ (outK Z0 Z2)
theorem ZW2(z34:Int×Int×Int):ZMl k o2 b3_0 b3_1 o4 b5_0 b5_1 o6 o7 o8 z34=joinL (Option.bind (Z1 k (o2,z34.2.1,z34.2.2) (↑(List.length o8):Int)) fun z63=>if (0:Int)≤z63.1 then if z63.1<(↑(List.length o8):Int) then ZuU k o2 b3_0 b3_1 o4 b5_0 b5_1 o6 o7 o8 z34 z63 else none else none) (ZyT k o2 b3_0 b3_1 o4 b5_0 b5_1 o6 o7 o8 z34):=by kernel_rfl
theorem ZTJ(z34:Int×Int×Int):ZMl k o2 b3_0 b3_1 o4 b5_0 b5_1 o6 o7 o8 z34=repl 7 (Zo k o2 b3_0 b3_1 o4 b5_0 b5_1 o6 o7 o8 z34):=by
 rw[ZW2]
 simp only[Zxx,ZGD,Zs,Zo,ZB,Z9,Zc,Z6,Z8,Z7,Z3,if_true]
noncomputable def ZLD(z34:Int×Int×Int):Option (List Z1z):=execT Z0.G (stepOp Z0.T Z0.G Z0.mvs k) Z4 8 #[true,true,true,true,true,true,false,true,true,true,false,false,false,false,false,true,false,false] ⟨sets (Z20 o8) [(11,P0 9),(79,TV.sv (SV.at (J0 z34.1))),(80,TV.sv (SV.at (At.ep 8 T3 z34.1 0)))],[Ob.ro,Ob.box 105 [At.sl 2,J0 z34.2.1,At.int IntKind.u64 z34.2.2],Z1b o2,Z15 b3_0 b3_1,Z17 o4,Z14 b5_0 b5_1,Z16 o6,Z1a o7,Z19 o8,Z18]⟩ (outK Z0 Z2)
theorem ZVZ(z34:Int×Int×Int):ZLD k o2 b3_0 b3_1 o4 b5_0 b5_1 o6 o7 o8 z34=joinL (ZLI k o2 b3_0 b3_1 o4 b5_0 b5_1 o6 o7 o8 z34) (joinL (ZGc k o2 b3_0 b3_1 o4 b5_0 b5_1 o6 o7 o8 z34) (ZMl k o2 b3_0 b3_1 o4 b5_0 b5_1 o6 o7 o8 z34)):=by kernel_rfl
theorem ZU1(z34:Int×Int×Int):ZLD k o2 b3_0 b3_1 o4 b5_0 b5_1 o6 o7 o8 z34=repl 32 (Zo k o2 b3_0 b3_1 o4 b5_0 b5_1 o6 o7 o8 z34):=by
 rw[ZVZ]
 simp only[ZTQ,ZOl,ZTJ,Zs,Zo,ZB,Z9,Zc,Z6,Z8,Z7,Z3,if_true]
noncomputable def ZRt(z34:Int×Int×Int):Option (List Z1z):=execT Z0.G (stepOp Z0.T Z0.G Z0.mvs k) Z4 9 #[true,true,true,true,true,true,false,true,true,true,false,false,false,false,false,false,false,false] ⟨sets (Z20 o8) [(79,TV.sv (SV.at (J0 z34.1))),(80,TV.sv (SV.at (At.ep 8 T3 z34.1 0)))],[Ob.ro,Ob.box 105 [At.sl 2,J0 z34.2.1,At.int IntKind.u64 z34.2.2],Z1b o2,Z15 b3_0 b3_1,Z17 o4,Z14 b5_0 b5_1,Z16 o6,Z1a o7,Z19 o8]⟩ (outK Z0 Z2)
theorem ZVB(z34:Int×Int×Int):ZRt k o2 b3_0 b3_1 o4 b5_0 b5_1 o6 o7 o8 z34=joinL (ZRw k o2 b3_0 b3_1 o4 b5_0 b5_1 o6 o7 o8 z34) (joinL (ZM3 k o2 b3_0 b3_1 o4 b5_0 b5_1 o6 o7 o8 z34) (joinL (ZM5 k o2 b3_0 b3_1 o4 b5_0 b5_1 o6 o7 o8 z34) (ZLD k o2 b3_0 b3_1 o4 b5_0 b5_1 o6 o7 o8 z34))):=by kernel_rfl
theorem ZVP(z34:Int×Int×Int):ZRt k o2 b3_0 b3_1 o4 b5_0 b5_1 o6 o7 o8 z34=repl 180 (Zo k o2 b3_0 b3_1 o4 b5_0 b5_1 o6 o7 o8 z34):=by
 rw[ZVB]
 simp only[ZVW,ZTP,ZTX,ZU1,Zs,Zo,ZB,Z9,Zc,Z6,Z8,Z7,Z3,if_true]
noncomputable def ZMC:Option (List Z1z):=execT Z0.G (stepOp Z0.T Z0.G Z0.mvs k) Z4 9 #[true,true,true,true,false,false,false,true,true,true,true,false,false,false,true,false,false,false] ⟨sets (Z20 o8) [(10,P0 9),(85,Z3M o8)],[Ob.ro,Zlz b1_1 b1_2,Z1b o2,Z15 b3_0 b3_1,Z17 o4,Z14 b5_0 b5_1,Z16 o6,Z1a o7,Z19 o8,Z18]⟩ (outK Z0 Z2)
theorem ZWc:ZMC k b1_1 b1_2 o2 b3_0 b3_1 o4 b5_0 b5_1 o6 o7 o8=joinL (Option.bind (Z1 k (o2,b1_1,b1_2) (↑(List.length o8):Int)) fun z68=>if (0:Int)≤z68.1 then if z68.1<(↑(List.length o8):Int) then ZGb k o2 b3_0 b3_1 o4 b5_0 b5_1 o6 o7 o8 z68 else none else none) (Option.bind (Z1 k (o2,b1_1,b1_2) (↑(List.length o8):Int)) fun z69=>if (0:Int)≤z69.1 then if z69.1<(↑(List.length o8):Int) then Zyr k o2 b3_0 b3_1 o4 b5_0 b5_1 o6 o7 o8 z69 else none else none):=by kernel_rfl
theorem ZTE:ZMC k b1_1 b1_2 o2 b3_0 b3_1 o4 b5_0 b5_1 o6 o7 o8=repl 23 (ZB k b1_1 b1_2 o2 b3_0 b3_1 o4 b5_0 b5_1 o6 o7 o8):=by
 rw[ZWc]
 simp only[ZOJ,ZGF,Zs,Zo,ZB,Z9,Zc,Z6,Z8,Z7,Z3,if_true]
noncomputable def ZMc:Option (List Z1z):=execT Z0.G (stepOp Z0.T Z0.G Z0.mvs k) Z4 9 #[true,true,true,true,false,false,false,true,true,true,true,false,false,false,false,true,false,false] ⟨sets (Z20 o8) [(11,P0 9),(85,Z3M o8)],[Ob.ro,Zlz b1_1 b1_2,Z1b o2,Z15 b3_0 b3_1,Z17 o4,Z14 b5_0 b5_1,Z16 o6,Z1a o7,Z19 o8,Z18]⟩ (outK Z0 Z2)
theorem ZWv:ZMc k b1_1 b1_2 o2 b3_0 b3_1 o4 b5_0 b5_1 o6 o7 o8=joinL (Option.bind (Z1 k (o2,b1_1,b1_2) (↑(List.length o8):Int)) fun z72=>if (0:Int)≤z72.1 then if z72.1<(↑(List.length o8):Int) then ZGc k o2 b3_0 b3_1 o4 b5_0 b5_1 o6 o7 o8 z72 else none else none) (Option.bind (Z1 k (o2,b1_1,b1_2) (↑(List.length o8):Int)) fun z73=>if (0:Int)≤z73.1 then if z73.1<(↑(List.length o8):Int) then ZyT k o2 b3_0 b3_1 o4 b5_0 b5_1 o6 o7 o8 z73 else none else none):=by kernel_rfl
theorem ZTS:ZMc k b1_1 b1_2 o2 b3_0 b3_1 o4 b5_0 b5_1 o6 o7 o8=repl 23 (ZB k b1_1 b1_2 o2 b3_0 b3_1 o4 b5_0 b5_1 o6 o7 o8):=by
 rw[ZWv]
 simp only[ZOl,ZGD,Zs,Zo,ZB,Z9,Zc,Z6,Z8,Z7,Z3,if_true]
noncomputable def ZSq:Option (List Z1z):=execT Z0.G (stepOp Z0.T Z0.G Z0.mvs k) Z4 10 #[true,true,true,true,false,false,false,true,true,true,true,false,false,false,false,false,false,false] ⟨sets (Z20 o8) [(85,Z3M o8)],[Ob.ro,Zlz b1_1 b1_2,Z1b o2,Z15 b3_0 b3_1,Z17 o4,Z14 b5_0 b5_1,Z16 o6,Z1a o7,Z19 o8]⟩ (outK Z0 Z2)
theorem ZWm:ZSq k b1_1 b1_2 o2 b3_0 b3_1 o4 b5_0 b5_1 o6 o7 o8=joinL (Option.bind (Z1 k (o2,b1_1,b1_2) (↑(List.length o8):Int)) fun z67=>if (0:Int)≤z67.1 then if z67.1<(↑(List.length o8):Int) then ZM3 k o2 b3_0 b3_1 o4 b5_0 b5_1 o6 o7 o8 z67 else none else none) (joinL (ZMC k b1_1 b1_2 o2 b3_0 b3_1 o4 b5_0 b5_1 o6 o7 o8) (ZMc k b1_1 b1_2 o2 b3_0 b3_1 o4 b5_0 b5_1 o6 o7 o8)):=by kernel_rfl
theorem ZVT:ZSq k b1_1 b1_2 o2 b3_0 b3_1 o4 b5_0 b5_1 o6 o7 o8=repl 130 (ZB k b1_1 b1_2 o2 b3_0 b3_1 o4 b5_0 b5_1 o6 o7 o8):=by
 rw[ZWm]
 simp only[ZTP,ZTE,ZTS,Zs,Zo,ZB,Z9,Zc,Z6,Z8,Z7,Z3,if_true]
noncomputable def ZSE:Option (List Z1z):=execT Z0.G (stepOp Z0.T Z0.G Z0.mvs k) Z4 9 #[true,true,true,true,false,false,false,true,true,true,false,false,false,false,true,true,false,false] ⟨sets (Z20 o8) [(10,P0 9),(11,P0 10)],[Ob.ro,Zlz b1_1 b1_2,Z1b o2,Z15 b3_0 b3_1,Z17 o4,Z14 b5_0 b5_1,Z16 o6,Z1a o7,Z19 o8,Z18,Z18]⟩ (outK Z0 Z2)
theorem ZWf:ZSE k b1_1 b1_2 o2 b3_0 b3_1 o4 b5_0 b5_1 o6 o7 o8=joinL (Option.bind (Z1 k (o2,b1_1,b1_2) (↑(List.length o8):Int)) fun z79=>if (0:Int)≤z79.1 then if z79.1<(↑(List.length o8):Int) then ZN1 k o2 b3_0 b3_1 o4 b5_0 b5_1 o6 o7 o8 z79 else none else none) (Option.bind (Z1 k (o2,b1_1,b1_2) (↑(List.length o8):Int)) fun z80=>if (0:Int)≤z80.1 then if z80.1<(↑(List.length o8):Int) then Zyr k o2 b3_0 b3_1 o4 b5_0 b5_1 o6 o7 o8 z80 else none else none):=by kernel_rfl
theorem ZWp:ZSE k b1_1 b1_2 o2 b3_0 b3_1 o4 b5_0 b5_1 o6 o7 o8=repl 12 (ZB k b1_1 b1_2 o2 b3_0 b3_1 o4 b5_0 b5_1 o6 o7 o8):=by
 rw[ZWf]
 simp only[ZTH,ZGF,Zs,Zo,ZB,Z9,Zc,Z6,Z8,Z7,Z3,if_true]
noncomputable def ZRY:Option (List Z1z):=execT Z0.G (stepOp Z0.T Z0.G Z0.mvs k) Z4 10 #[true,true,true,true,false,false,false,true,true,true,false,false,false,false,true,false,false,false] ⟨sets (Z20 o8) [(10,P0 9)],[Ob.ro,Zlz b1_1 b1_2,Z1b o2,Z15 b3_0 b3_1,Z17 o4,Z14 b5_0 b5_1,Z16 o6,Z1a o7,Z19 o8,Z18]⟩ (outK Z0 Z2)
theorem ZVz:ZRY k b1_1 b1_2 o2 b3_0 b3_1 o4 b5_0 b5_1 o6 o7 o8=joinL (Option.bind (Z1 k (o2,b1_1,b1_2) (↑(List.length o8):Int)) fun z78=>if (0:Int)≤z78.1 then if z78.1<(↑(List.length o8):Int) then ZM5 k o2 b3_0 b3_1 o4 b5_0 b5_1 o6 o7 o8 z78 else none else none) (joinL (ZMC k b1_1 b1_2 o2 b3_0 b3_1 o4 b5_0 b5_1 o6 o7 o8) (ZSE k b1_1 b1_2 o2 b3_0 b3_1 o4 b5_0 b5_1 o6 o7 o8)):=by kernel_rfl
theorem ZW8:ZRY k b1_1 b1_2 o2 b3_0 b3_1 o4 b5_0 b5_1 o6 o7 o8=repl 67 (ZB k b1_1 b1_2 o2 b3_0 b3_1 o4 b5_0 b5_1 o6 o7 o8):=by
 rw[ZVz]
 simp only[ZTX,ZTE,ZWp,Zs,Zo,ZB,Z9,Zc,Z6,Z8,Z7,Z3,if_true]
noncomputable def ZRE:Option (List Z1z):=execT Z0.G (stepOp Z0.T Z0.G Z0.mvs k) Z4 9 #[true,true,true,true,false,false,false,true,true,true,false,false,false,false,true,true,false,false] ⟨sets (Z20 o8) [(10,P0 10),(11,P0 9)],[Ob.ro,Zlz b1_1 b1_2,Z1b o2,Z15 b3_0 b3_1,Z17 o4,Z14 b5_0 b5_1,Z16 o6,Z1a o7,Z19 o8,Z18,Z18]⟩ (outK Z0 Z2)
theorem ZVD:ZRE k b1_1 b1_2 o2 b3_0 b3_1 o4 b5_0 b5_1 o6 o7 o8=joinL (Option.bind (Z1 k (o2,b1_1,b1_2) (↑(List.length o8):Int)) fun z86=>if (0:Int)≤z86.1 then if z86.1<(↑(List.length o8):Int) then ZMl k o2 b3_0 b3_1 o4 b5_0 b5_1 o6 o7 o8 z86 else none else none) (Option.bind (Z1 k (o2,b1_1,b1_2) (↑(List.length o8):Int)) fun z87=>if (0:Int)≤z87.1 then if z87.1<(↑(List.length o8):Int) then ZyT k o2 b3_0 b3_1 o4 b5_0 b5_1 o6 o7 o8 z87 else none else none):=by kernel_rfl
theorem ZW6:ZRE k b1_1 b1_2 o2 b3_0 b3_1 o4 b5_0 b5_1 o6 o7 o8=repl 12 (ZB k b1_1 b1_2 o2 b3_0 b3_1 o4 b5_0 b5_1 o6 o7 o8):=by
 rw[ZVD]
 simp only[ZTJ,ZGD,Zs,Zo,ZB,Z9,Zc,Z6,Z8,Z7,Z3,if_true]
noncomputable def ZRp:Option (List Z1z):=execT Z0.G (stepOp Z0.T Z0.G Z0.mvs k) Z4 10 #[true,true,true,true,false,false,false,true,true,true,false,false,false,false,false,true,false,false] ⟨sets (Z20 o8) [(11,P0 9)],[Ob.ro,Zlz b1_1 b1_2,Z1b o2,Z15 b3_0 b3_1,Z17 o4,Z14 b5_0 b5_1,Z16 o6,Z1a o7,Z19 o8,Z18]⟩ (outK Z0 Z2)
theorem ZWg:ZRp k b1_1 b1_2 o2 b3_0 b3_1 o4 b5_0 b5_1 o6 o7 o8=joinL (Option.bind (Z1 k (o2,b1_1,b1_2) (↑(List.length o8):Int)) fun z85=>if (0:Int)≤z85.1 then if z85.1<(↑(List.length o8):Int) then ZLD k o2 b3_0 b3_1 o4 b5_0 b5_1 o6 o7 o8 z85 else none else none) (joinL (ZMc k b1_1 b1_2 o2 b3_0 b3_1 o4 b5_0 b5_1 o6 o7 o8) (ZRE k b1_1 b1_2 o2 b3_0 b3_1 o4 b5_0 b5_1 o6 o7 o8)):=by kernel_rfl
theorem ZWa:ZRp k b1_1 b1_2 o2 b3_0 b3_1 o4 b5_0 b5_1 o6 o7 o8=repl 67 (ZB k b1_1 b1_2 o2 b3_0 b3_1 o4 b5_0 b5_1 o6 o7 o8):=by
 rw[ZWg]
 simp only[ZU1,ZTS,ZW6,Zs,Zo,ZB,Z9,Zc,Z6,Z8,Z7,Z3,if_true]
noncomputable def ZRy:Option (List Z1z):=execT Z0.G (stepOp Z0.T Z0.G Z0.mvs k) Z4 11 #[true,true,true,true,false,false,false,true,true,true,false,false,false,false,false,false,false,false] ⟨sets (Z20 o8) [],[Ob.ro,Zlz b1_1 b1_2,Z1b o2,Z15 b3_0 b3_1,Z17 o4,Z14 b5_0 b5_1,Z16 o6,Z1a o7,Z19 o8]⟩ (outK Z0 Z2)
theorem ZVS:ZRy k b1_1 b1_2 o2 b3_0 b3_1 o4 b5_0 b5_1 o6 o7 o8=joinL (Option.bind (Z1 k (o2,b1_1,b1_2) (↑(List.length o8):Int)) fun z34=>if (0:Int)≤z34.1 then if z34.1<(↑(List.length o8):Int) then ZRt k o2 b3_0 b3_1 o4 b5_0 b5_1 o6 o7 o8 z34 else none else none) (joinL (ZSq k b1_1 b1_2 o2 b3_0 b3_1 o4 b5_0 b5_1 o6 o7 o8) (joinL (ZRY k b1_1 b1_2 o2 b3_0 b3_1 o4 b5_0 b5_1 o6 o7 o8) (ZRp k b1_1 b1_2 o2 b3_0 b3_1 o4 b5_0 b5_1 o6 o7 o8))):=by kernel_rfl
theorem ZVX:ZRy k b1_1 b1_2 o2 b3_0 b3_1 o4 b5_0 b5_1 o6 o7 o8=repl 444 (ZB k b1_1 b1_2 o2 b3_0 b3_1 o4 b5_0 b5_1 o6 o7 o8):=by
 rw[ZVS]
 simp only[ZVP,ZVT,ZW8,ZWa,Zs,Zo,ZB,Z9,Zc,Z6,Z8,Z7,Z3,if_true]
end
theorem ZrN(k:Nat)(x:Zih.D):execD Z0.T Z0.G Z0.mvs k Z4 (Z2.inp.st Z0.n x) (outK Z0 Z2)=ZRy k x.1.2.1.2.1 x.1.2.1.2.2.1 x.1.2.2.1 x.1.2.2.2.1.1 x.1.2.2.2.1.2.1 x.1.2.2.2.2.1 x.1.2.2.2.2.2.1.1 x.1.2.2.2.2.2.1.2.1 x.1.2.2.2.2.2.2.1 x.1.2.2.2.2.2.2.2.1 x.1.2.2.2.2.2.2.2.2.1:=by kernel_rfl
theorem Zra(k:Nat):EOK Tryz.prog Z0 k Z2.E (.region 22 Z4 true):=Z4m (D:=Z2) (m:=444) T_ok (Z2R k) (fun x=>(ZrN k x).trans (ZVX k x.1.2.1.2.1 x.1.2.1.2.2.1 x.1.2.2.1 x.1.2.2.2.1.1 x.1.2.2.2.1.2.1 x.1.2.2.2.2.1 x.1.2.2.2.2.2.1.1 x.1.2.2.2.2.2.1.2.1 x.1.2.2.2.2.2.2.1 x.1.2.2.2.2.2.2.2.1 x.1.2.2.2.2.2.2.2.2.1))
noncomputable def Z76:Code:=((findCond 25 ZR).map (·.1)).getD .skip
noncomputable def Z7w:Code:=((findCond 25 ZR).map (·.2)).getD .skip
theorem ZrZ(k:Nat)(i:Zy.inp.D):Zy.lp k i=branch (Zy.inp.st Z0.n i) (.tmp 25) (fun st=>exec Z0 k Z76 st (outK Z0 Zy) (fun _ _=>none) Zy.mkB) (fun st=>exec Z0 k Z7w st (outK Z0 Zy) (fun _ _=>none) Zy.mkB):=by kernel_rfl
theorem Zry(k:Nat):EOK Tryz.prog Z0 k Zy.E (.cond (.tmp 25) Z76 Z7w):=ZNQ (D:=Zy) T_ok (Z2R k) (ZrZ k) (@LOK.by _ _ _ _ Z76 [] (by kernel_rfl) AllOK.nil) (@LOK.by _ _ _ _ Z7w [] (by kernel_rfl) AllOK.nil)
noncomputable def Z7j:Code:=((findCond 44 ZR).map (·.1)).getD .skip
noncomputable def Z77:Code:=((findCond 44 ZR).map (·.2)).getD .skip
theorem ZrM(k:Nat)(i:Zx.inp.D):Zx.lp k i=branch (Zx.inp.st Z0.n i) (.tmp 44) (fun st=>exec Z0 k Z7j st (outK Z0 Zx) (fun _ _=>none) Zx.mkB) (fun st=>exec Z0 k Z77 st (outK Z0 Zx) (fun _ _=>none) Zx.mkB):=by kernel_rfl
theorem Zr3(k:Nat):EOK Tryz.prog Z0 k Zx.E (.cond (.tmp 44) Z7j Z77):=ZNQ (D:=Zx) T_ok (Z2R k) (ZrM k) (@LOK.by _ _ _ _ Z7j [] (by kernel_rfl) AllOK.nil) (@LOK.by _ _ _ _ Z77 [] (by kernel_rfl) AllOK.nil)
noncomputable def Z9y:Code:=(findLoop 1 ZR).getD .skip
theorem ZwG(k:Nat)(x:Zei.D):Z3V.lp (k+1) x=loopK Z0 Z3V 1 Z9y k x:=by kernel_rfl
theorem ZwM(k:Nat):LOK Tryz.prog Z0 k Z9y:=LOK.by [] (by kernel_rfl) AllOK.nil
theorem Zw6(x:Zei.D):Z3V.lp 0 x=none:=by kernel_rfl
theorem Zux(k:Nat):EOK Tryz.prog Z0 k Z3V.E (.block 1 (.loop Z9y)):=Zd T_ok Z2R Zw6 ZwG ZwM k
noncomputable def Z7l:Code:=(findCut 40 ZR).getD .skip
theorem Zs2(k:Nat)(i:ZZ.inp.D):ZZ.lp k i=exec Z0 k Z7l (ZZ.inp.st Z0.n i) (outK Z0 ZZ) (fun _ _=>none) ZZ.mkB:=by kernel_rfl
theorem Zrx(k:Nat):EOK Tryz.prog Z0 k ZZ.E Z7l:=Zxo (D:=ZZ) T_ok (Z2R k) (Zs2 k) (@LOK.by _ _ _ _ Z7l [] (by kernel_rfl) AllOK.nil)
noncomputable def Z7q:Code:=(findCut 27 ZR).getD .skip
theorem Zt2(k:Nat)(i:ZV.inp.D):ZV.lp k i=exec Z0 k Z7q (ZV.inp.st Z0.n i) (outK Z0 ZV) (fun _ _=>none) ZV.mkB:=by kernel_rfl
theorem Zro(k:Nat):EOK Tryz.prog Z0 k ZV.E Z7q:=Zxo (D:=ZV) T_ok (Z2R k) (Zt2 k) (@LOK.by _ _ _ _ Z7q [(ZZ.E,Z7l)] (by kernel_rfl) (AllOK.cons (Zrx k) AllOK.nil))
noncomputable def Z7x:Code:=(findCut 15 ZR).getD .skip
theorem Zsp(k:Nat)(i:ZX.inp.D):ZX.lp k i=exec Z0 k Z7x (ZX.inp.st Z0.n i) (outK Z0 ZX) (fun _ _=>none) ZX.mkB:=by kernel_rfl
theorem Zr7(k:Nat):EOK Tryz.prog Z0 k ZX.E Z7x:=Zxo (D:=ZX) T_ok (Z2R k) (Zsp k) (@LOK.by _ _ _ _ Z7x [(Z2.E,.region 22 Z4 true),(ZV.E,Z7q)] (by kernel_rfl) (AllOK.cons (Zra k) (AllOK.cons (Zro k) AllOK.nil)))
theorem ZCF(k:Nat)(x:Tup Z2T.ps):Z2T.f (k+1) x=fnK Z2T Z0 ZR k x:=by kernel_rfl
theorem ZCZ(x:Tup Z2T.ps):Z2T.f 0 x=none:=by kernel_rfl
theorem ZDF(k:Nat):LOK Tryz.prog Z0 k ZR:=LOK.by [(Zy.E,.cond (.tmp 25) Z76 Z7w),(Zx.E,.cond (.tmp 44) Z7j Z77),(Z3V.E,.block 1 (.loop Z9y)),(ZX.E,Z7x)] (by kernel_rfl) (AllOK.cons (Zry k) (AllOK.cons (Zr3 k) (AllOK.cons (Zux k) (AllOK.cons (Zr7 k) AllOK.nil))))
theorem ZDK(k:Nat):SoundAt Tryz.prog k 100 Z2T.E:= @Z5 Tryz.prog Z2T Z0 100 Tryz.f100 ZR (by kernel_rfl) (by kernel_rfl) (by kernel_rfl) Tryz.func100 (by kernel_rfl) (by kernel_rfl) (by kernel_rfl) T_ok Z2R ZDF ZCZ ZCF k
end
end
section
noncomputable section
noncomputable def Z8q:List PK:=[PK.mk (.slice 3 I6) false none false none,PK.mk .bool false none false none]
noncomputable def Znx:List PK:=[PK.mk (.pair I6 (.pair I6 (.slice 76 P6))) true none false none,PK.mk I6 false none false none,PK.mk (.pair I6 (.slice 3 I6)) true none false none]
noncomputable def ZmJ(r:List Int×Bool):Tup Z8q×OutD:=((r.1,r.2,()),none)
noncomputable def ZmQ:Tup Z8q×OutD→Option (List Int×Bool)
 |(a,none)=>some (a.1,a.2.1)
 |_=>none
theorem Zus: ∀b r,ZmQ b=some r→ZmJ r=b:=by
 rintro ⟨a,_|_⟩ r h<;>cases h;rfl
noncomputable def ZcK:Nat→Int×Int×List (Int×Int)→Int→Int×List Int→Option (List Int×Bool)
 |0,_,_,_=>none
 |k+1,p0,p1,p2=>
  Option.bind (Zbj k (p0.1,p0.2.1,p0.2.2) p1) fun z0=>if (!z0)=true then some ([],false) else Option.bind (Zf1 k (p2.1,p2.2)) fun z1=>if (!z1)=true then some ([],false) else if p2.1<0 then none else if decide (p0.2.1≠shlS (1:Int) p2.1)=true then some ([],false) else Option.bind (Za2 k (p0.1,p0.2.1,p0.2.2) p1) fun z2=>Option.bind (ZgV k z2 (p2.1,p2.2)) fun z3=>some (z3,true)
noncomputable def Z31:FnDef:= .of Znx Z8q (List Int×Bool) (fun k x=>ZcK k x.1 x.2.1 x.2.2.1) ZmJ ZmQ Zus
noncomputable def Zh6:Code:=Tryz.f8.body.getD .skip
noncomputable def Zcy:Ctx (Tup Z8q×OutD):={T:=T,G:=[(35,Z2x.E),(30,Z5a.E),(37,Z2y.E),(36,Z2Y.E)],mvs:=[],no:=0,n:=30,res:=resOf T Znx Z8q Tryz.f8.results.toList,loops:=[],regs:=[],conds:=[],cuts:=[]}
theorem ZCw(k:Nat):EnvOK Tryz.prog k Zcy.G:=(EnvOK.cons (ZzV k) (EnvOK.cons (Zy5 k) (EnvOK.cons (ZpG k) (EnvOK.cons (ZDD k) (EnvOK.nil mixed)))))
theorem ZDp(k:Nat)(x:Tup Z31.ps):Z31.f (k+1) x=fnK Z31 Zcy Zh6 k x:=by kernel_rfl
theorem ZDA(x:Tup Z31.ps):Z31.f 0 x=none:=by kernel_rfl
theorem ZDa(k:Nat):LOK Tryz.prog Zcy k Zh6:=LOK.by [] (by kernel_rfl) AllOK.nil
theorem ZDR(k:Nat):SoundAt Tryz.prog k 8 Z31.E:= @Z5 Tryz.prog Z31 Zcy 8 Tryz.f8 Zh6 (by kernel_rfl) (by kernel_rfl) (by kernel_rfl) Tryz.func8 (by kernel_rfl) (by kernel_rfl) (by kernel_rfl) T_ok ZCw ZDa ZDA ZDp k
noncomputable def Z5U:List PK:=[PK.mk (.pair I6 (.slice 3 I6)) true none false none,PK.mk .bool false none false none]
noncomputable def ZnN:List PK:=[PK.mk (.pair I6 (.pair I6 (.slice 76 P6))) true none false none,PK.mk I6 false none false none,PK.mk I6 false none false none]
noncomputable def Zg2(r:(Int×List Int)×Bool):Tup Z5U×OutD:=((r.1,r.2,()),none)
noncomputable def ZfQ:Tup Z5U×OutD→Option ((Int×List Int)×Bool)
 |(a,none)=>some (a.1,a.2.1)
 |_=>none
theorem Zjm: ∀b r,ZfQ b=some r→Zg2 r=b:=by
 rintro ⟨a,_|_⟩ r h<;>cases h;rfl
noncomputable def Z4F:Nat→Int→List Int→List Int→Int→Int→Int→Option (LR (Int×List Int×List Int×Int) ((Int×List Int)×Bool))
 |0,_,_,_,_,_,_=>none
 |k+1,b1_0,o2,o3,v2,v44,v45=>
  if decide (v45<v44)=true then if (0:Int)≤v45 then if v45<(↑(List.length o3):Int) then if decide (List.getD o3 (Int.toNat v45) (0:Int)<0)=true then some (LR.ret (((0:Int),[]),false)) else Z4F k b1_0 o2 o3 v2 v44 (wrap64 (v45+1)) else none else none else some (LR.go (b1_0,o2,o3,v2))
noncomputable def Zec:Spec:=Spec.mk [.ro,.box 24 [.int .i64,.sl 2],O1,O1] [(2,.at (.int .i64)),(6,.at (.ptr 1 0)),(8,.at (.sl 3)),(43,.at (.sl 3)),(44,.at (.int .i64)),(45,.at (.int .i64))]
noncomputable def Zwz:Spec:=Spec.mk [.ro,.box 24 [.int .i64,.sl 2],O1,O1] [(2,.at (.int .i64)),(6,.at (.ptr 1 0)),(8,.at (.sl 3))]
noncomputable def Z45:LoopDef (Tup Z5U×OutD):= .rets Zec Zwz (Int×List Int×List Int×Int) ((Int×List Int)×Bool) (fun k x=>Z4F k x.1.2.1.1 x.1.2.2.1 x.1.2.2.2.1 x.2.1 x.2.2.2.2.2.1 x.2.2.2.2.2.2.1) (fun z=>(((),(z.1,(),()),z.2.1,z.2.2.1,()),(z.2.2.2,(),(),()))) (fun y=>(y.1.2.1.1,y.1.2.2.1,y.1.2.2.2.1,y.2.1)) (fun _=>rfl) Zg2 ZfQ Zjm
noncomputable def ZcW:Nat→Int×Int×List (Int×Int)→Int→Int→Option ((Int×List Int)×Bool)
 |0,_,_,_=>none
 |k+1,p0,p1,p2=>
  Option.bind (Z3U k (p0.1,p0.2.1,p0.2.2)) fun z0=>if (!z0)=true then some (((0:Int),[]),false) else if decide (p2<0)=true then some (((0:Int),[]),false) else if decide (p2>3)=true then some (((0:Int),[]),false) else if p2<0 then none else if decide (p0.2.1≠shlS (1:Int) p2)=true then some (((0:Int),[]),false) else if decide (p1<0)=true then some (((0:Int),[]),false) else if decide (p1>p0.2.1)=true then some (((0:Int),[]),false) else Option.bind (Za2 k (p0.1,p0.2.1,p0.2.2) p1) fun z1=>Option.bind (Z4F k (0:Int) [] z1 p2 (↑(List.length z1):Int) (0:Int)) fun z2=>LR.on z2 (fun y2=>some ((y2.2.2.2,y2.2.2.1),true)) fun r2=>some r2
noncomputable def Z2W:FnDef:= .of ZnN Z5U ((Int×List Int)×Bool) (fun k x=>ZcW k x.1 x.2.1 x.2.2.1) Zg2 ZfQ Zjm
noncomputable def ZcB:Code:=Tryz.f9.body.getD .skip
noncomputable def Z4h:Ctx (Tup Z5U×OutD):={T:=T,G:=[(38,Z1A.E),(37,Z2y.E)],mvs:=[],no:=0,n:=56,res:=resOf T ZnN Z5U Tryz.f9.results.toList,loops:=[(0,Z45.E)],regs:=[],conds:=[],cuts:=[]}
theorem Znr(k:Nat):EnvOK Tryz.prog k Z4h.G:=(EnvOK.cons (Z90 k) (EnvOK.cons (ZpG k) (EnvOK.nil mixed)))
noncomputable def Z9I:Code:=(findLoop 0 ZcB).getD .skip
theorem Zw7(k:Nat)(x:Zec.D):Z45.lp (k+1) x=loopK Z4h Z45 0 Z9I k x:=by kernel_rfl
theorem Zxh(k:Nat):LOK Tryz.prog Z4h k Z9I:=LOK.by [] (by kernel_rfl) AllOK.nil
theorem Zw4(x:Zec.D):Z45.lp 0 x=none:=by kernel_rfl
theorem ZtL(k:Nat):EOK Tryz.prog Z4h k Z45.E (.block 0 (.loop Z9I)):=Zd T_ok Znr Zw4 Zw7 Zxh k
theorem ZDg(k:Nat)(x:Tup Z2W.ps):Z2W.f (k+1) x=fnK Z2W Z4h ZcB k x:=by kernel_rfl
theorem ZDO(x:Tup Z2W.ps):Z2W.f 0 x=none:=by kernel_rfl
theorem ZDi(k:Nat):LOK Tryz.prog Z4h k ZcB:=LOK.by [(Z45.E,.block 0 (.loop Z9I))] (by kernel_rfl) (AllOK.cons (ZtL k) AllOK.nil)
theorem ZDq(k:Nat):SoundAt Tryz.prog k 9 Z2W.E:= @Z5 Tryz.prog Z2W Z4h 9 Tryz.f9 ZcB (by kernel_rfl) (by kernel_rfl) (by kernel_rfl) Tryz.func9 (by kernel_rfl) (by kernel_rfl) (by kernel_rfl) T_ok Znr ZDi ZDO ZDg k
noncomputable def Z5r:List PK:=[PK.mk (.pair I6 (.slice 3 I6)) true none false none]
noncomputable def Zjf:List PK:=[PK.mk (.slice 5 (.int .u8)) false none false none]
noncomputable def Zio(r:Int×List Int):Tup Z5r×OutD:=((r,()),none)
noncomputable def Zij:Tup Z5r×OutD→Option (Int×List Int)
 |(a,none)=>some (a.1)
 |_=>none
theorem Zpc: ∀b r,Zij b=some r→Zio r=b:=by
 rintro ⟨a,_|_⟩ r h<;>cases h;rfl
noncomputable def Z86:Nat→List Int→Option (Int×List Int)
 |0,_=>none
 |k+1,p0=>
  Option.bind (Z8a k (p0,(0:Int),(0:Int))) fun z0=>some (z0.1.1,z0.1.2)
noncomputable def Z1E:FnDef:= .of Zjf Z5r (Int×List Int) (fun k x=>Z86 k x.1) Zio Zij Zpc
noncomputable def Zd9:Code:=Tryz.f27.body.getD .skip
noncomputable def Z8g:Ctx (Tup Z5r×OutD):={T:=T,G:=[(60,Z1H.E)],mvs:=[],no:=0,n:=9,res:=resOf T Zjf Z5r Tryz.f27.results.toList,loops:=[],regs:=[],conds:=[],cuts:=[]}
theorem Zur(k:Nat):EnvOK Tryz.prog k Z8g.G:=(EnvOK.cons (Zu8 k) (EnvOK.nil mixed))
theorem ZtF(k:Nat)(x:Tup Z1E.ps):Z1E.f (k+1) x=fnK Z1E Z8g Zd9 k x:=by kernel_rfl
theorem Zuf(x:Tup Z1E.ps):Z1E.f 0 x=none:=by kernel_rfl
theorem Zuy(k:Nat):LOK Tryz.prog Z8g k Zd9:=LOK.by [] (by kernel_rfl) AllOK.nil
theorem Zuj(k:Nat):SoundAt Tryz.prog k 27 Z1E.E:= @Z5 Tryz.prog Z1E Z8g 27 Tryz.f27 Zd9 (by kernel_rfl) (by kernel_rfl) (by kernel_rfl) Tryz.func27 (by kernel_rfl) (by kernel_rfl) (by kernel_rfl) T_ok Zur Zuy Zuf ZtF k
noncomputable def Z4L:List PK:=[PK.mk (.pair I6 (.pair I6 (.pair (.slice 76 P6) (.pair (.slice 3 I6) (.slice 3 I6))))) true none false none]
noncomputable def Zim:List PK:=[PK.mk (.slice 5 (.int .u8)) false none false none]
noncomputable def Zhw(r:Int×Int×List (Int×Int)×List Int×List Int):Tup Z4L×OutD:=((r,()),none)
noncomputable def ZhA:Tup Z4L×OutD→Option (Int×Int×List (Int×Int)×List Int×List Int)
 |(a,none)=>some (a.1)
 |_=>none
theorem ZoI: ∀b r,ZhA b=some r→Zhw r=b:=by
 rintro ⟨a,_|_⟩ r h<;>cases h;rfl
noncomputable def Z7s:Nat→List Int→Option (Int×Int×List (Int×Int)×List Int×List Int)
 |0,_=>none
 |k+1,p0=>
  Option.bind (Zel k p0) fun z0=>some (z0.1,z0.2.1,z0.2.2.1,z0.2.2.2.1,z0.2.2.2.2)
noncomputable def Z1t:FnDef:= .of Zim Z4L (Int×Int×List (Int×Int)×List Int×List Int) (fun k x=>Z7s k x.1) Zhw ZhA ZoI
noncomputable def Zcd:Code:=Tryz.f28.body.getD .skip
noncomputable def Z7i:Ctx (Tup Z4L×OutD):={T:=T,G:=[(61,Z1T.E)],mvs:=[],no:=0,n:=5,res:=resOf T Zim Z4L Tryz.f28.results.toList,loops:=[],regs:=[],conds:=[],cuts:=[]}
theorem Ztd(k:Nat):EnvOK Tryz.prog k Z7i.G:=(EnvOK.cons (ZwW k) (EnvOK.nil mixed))
theorem Zsd(k:Nat)(x:Tup Z1t.ps):Z1t.f (k+1) x=fnK Z1t Z7i Zcd k x:=by kernel_rfl
theorem ZsI(x:Tup Z1t.ps):Z1t.f 0 x=none:=by kernel_rfl
theorem Ztt(k:Nat):LOK Tryz.prog Z7i k Zcd:=LOK.by [] (by kernel_rfl) AllOK.nil
theorem Ztm(k:Nat):SoundAt Tryz.prog k 28 Z1t.E:= @Z5 Tryz.prog Z1t Z7i 28 Tryz.f28 Zcd (by kernel_rfl) (by kernel_rfl) (by kernel_rfl) Tryz.func28 (by kernel_rfl) (by kernel_rfl) (by kernel_rfl) T_ok Ztd Ztt ZsI Zsd k
noncomputable def Z60:List PK:=[PK.mk (.pair I6 (.pair I6 (.slice 76 P6))) true none false none,PK.mk (.slice 3 I6) false none false none,PK.mk (.slice 40 T6) false none false none]
noncomputable def Zk8:List PK:=[PK.mk (.slice 5 (.int .u8)) false none false none]
noncomputable def Zjl(r:(Int×Int×List (Int×Int))×List Int×List (Int×Int×Int)):Tup Z60×OutD:=((r.1,r.2.1,r.2.2,()),none)
noncomputable def Zjb:Tup Z60×OutD→Option ((Int×Int×List (Int×Int))×List Int×List (Int×Int×Int))
 |(a,none)=>some (a.1,a.2.1,a.2.2.1)
 |_=>none
theorem Zqb: ∀b r,Zjb b=some r→Zjl r=b:=by
 rintro ⟨a,_|_⟩ r h<;>cases h;rfl
noncomputable def Z9J:Nat→List Int→Option ((Int×Int×List (Int×Int))×List Int×List (Int×Int×Int))
 |0,_=>none
 |k+1,p0=>
  Option.bind (ZcQ k (p0,(0:Int),(0:Int))) fun z0=>some ((z0.1.1,z0.1.2.1,z0.1.2.2),z0.2.1,z0.2.2.1)
noncomputable def Z1R:FnDef:= .of Zk8 Z60 ((Int×Int×List (Int×Int))×List Int×List (Int×Int×Int)) (fun k x=>Z9J k x.1) Zjl Zjb Zqb
noncomputable def Zeb:Code:=Tryz.f62.body.getD .skip
noncomputable def Z9N:Ctx (Tup Z60×OutD):={T:=T,G:=[(100,Z2T.E)],mvs:=[],no:=0,n:=14,res:=resOf T Zk8 Z60 Tryz.f62.results.toList,loops:=[],regs:=[],conds:=[],cuts:=[]}
theorem ZwR(k:Nat):EnvOK Tryz.prog k Z9N.G:=(EnvOK.cons (ZDK k) (EnvOK.nil mixed))
theorem Zwt(k:Nat)(x:Tup Z1R.ps):Z1R.f (k+1) x=fnK Z1R Z9N Zeb k x:=by kernel_rfl
theorem ZvS(x:Tup Z1R.ps):Z1R.f 0 x=none:=by kernel_rfl
theorem Zwc(k:Nat):LOK Tryz.prog Z9N k Zeb:=LOK.by [] (by kernel_rfl) AllOK.nil
theorem ZwL(k:Nat):SoundAt Tryz.prog k 62 Z1R.E:= @Z5 Tryz.prog Z1R Z9N 62 Tryz.f62 Zeb (by kernel_rfl) (by kernel_rfl) (by kernel_rfl) Tryz.func62 (by kernel_rfl) (by kernel_rfl) (by kernel_rfl) T_ok ZwR Zwc ZvS Zwt k
end
end
section
noncomputable section
noncomputable def Z5p:List PK:=[PK.mk (.pair I6 (.pair I6 (.slice 76 P6))) true none false none,PK.mk (.slice 3 I6) false none false none,PK.mk (.slice 40 T6) false none false none]
noncomputable def Zjk:List PK:=[PK.mk (.slice 5 (.int .u8)) false none false none]
noncomputable def Zib(r:(Int×Int×List (Int×Int))×List Int×List (Int×Int×Int)):Tup Z5p×OutD:=((r.1,r.2.1,r.2.2,()),none)
noncomputable def ZhR:Tup Z5p×OutD→Option ((Int×Int×List (Int×Int))×List Int×List (Int×Int×Int))
 |(a,none)=>some (a.1,a.2.1,a.2.2.1)
 |_=>none
theorem Zpd: ∀b r,ZhR b=some r→Zib r=b:=by
 rintro ⟨a,_|_⟩ r h<;>cases h;rfl
noncomputable def Z87:Nat→List Int→Option ((Int×Int×List (Int×Int))×List Int×List (Int×Int×Int))
 |0,_=>none
 |k+1,p0=>
  Option.bind (Z9J k p0) fun z0=>some ((z0.1.1,z0.1.2.1,z0.1.2.2),z0.2.1,z0.2.2)
noncomputable def Z1G:FnDef:= .of Zjk Z5p ((Int×Int×List (Int×Int))×List Int×List (Int×Int×Int)) (fun k x=>Z87 k x.1) Zib ZhR Zpd
noncomputable def Zd6:Code:=Tryz.f29.body.getD .skip
noncomputable def Z8f:Ctx (Tup Z5p×OutD):={T:=T,G:=[(62,Z1R.E)],mvs:=[],no:=0,n:=10,res:=resOf T Zjk Z5p Tryz.f29.results.toList,loops:=[],regs:=[],conds:=[],cuts:=[]}
theorem Zu0(k:Nat):EnvOK Tryz.prog k Z8f.G:=(EnvOK.cons (ZwL k) (EnvOK.nil mixed))
theorem Zua(k:Nat)(x:Tup Z1G.ps):Z1G.f (k+1) x=fnK Z1G Z8f Zd6 k x:=by kernel_rfl
theorem Zup(x:Tup Z1G.ps):Z1G.f 0 x=none:=by kernel_rfl
theorem Zuh(k:Nat):LOK Tryz.prog Z8f k Zd6:=LOK.by [] (by kernel_rfl) AllOK.nil
theorem Zu5(k:Nat):SoundAt Tryz.prog k 29 Z1G.E:= @Z5 Tryz.prog Z1G Z8f 29 Tryz.f29 Zd6 (by kernel_rfl) (by kernel_rfl) (by kernel_rfl) Tryz.func29 (by kernel_rfl) (by kernel_rfl) (by kernel_rfl) T_ok Zu0 Zuh Zup Zua k
end
end
end Go.Proofs.YtmhfhiofcoggbaaGreat.Vs
