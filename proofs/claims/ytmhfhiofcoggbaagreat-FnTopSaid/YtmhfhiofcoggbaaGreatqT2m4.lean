/- The proof, part 5. -/
import Derived.Test.YtmhfhiofcoggbaaGreatqT2m3
set_option maxRecDepth 100000
set_option maxHeartbeats 2000000
set_option linter.unusedVariables false
set_option linter.unusedSimpArgs false
namespace Go.Proofs.YtmhfhiofcoggbaaGreat.Vs
open Go.RowKit
noncomputable section
noncomputable def Zdb:List PK:=[PK.mk .bool false none false none]
noncomputable def ZCk:List PK:=[PK.mk (.pair I6 (.pair I6 (.slice 76 P6))) true none false none,PK.mk (.pair I6 (.pair I6 (.slice 76 P6))) true none false none]
noncomputable def Zor(r:Bool):Tup Zdb×OutD:=((r,()),none)
noncomputable def ZoC:Tup Zdb×OutD→Option (Bool)
 |(a,none)=>some (a.1)
 |_=>none
theorem ZqA: ∀b r,ZoC b=some r→Zor r=b:=by
 rintro ⟨a,_|_⟩ r h<;>cases h;rfl
noncomputable def ZaK:Nat→Int→Int→List (Int×Int)→Int→Int→List (Int×Int)→Int→Int→Option (LR Unit Bool)
 |0,_,_,_,_,_,_,_,_=>none
 |k+1,b1_0,b1_1,b1_2,b2_0,b2_1,b2_2,v29,v30=>
  if decide (v30<v29)=true then if (0:Int)≤v30 then if v30<(↑(List.length b1_2):Int) then if (0:Int)≤v30 then if v30<(↑(List.length b2_2):Int) then if (!(decide (Prod.fst (List.getD b1_2 (Int.toNat v30) ((0:Int),(0:Int)))=Prod.fst (List.getD b2_2 (Int.toNat v30) ((0:Int),(0:Int))))&&(decide (Prod.snd (List.getD b1_2 (Int.toNat v30) ((0:Int),(0:Int)))=Prod.snd (List.getD b2_2 (Int.toNat v30) ((0:Int),(0:Int))))&&true)))=true then some (LR.ret false) else ZaK k b1_0 b1_1 b1_2 b2_0 b2_1 b2_2 v29 (wrap64 (v30+1)) else none else none else none else none else some (LR.go ())
noncomputable def Zl7:Spec:=Spec.mk [.ro,O2,O2] [(2,.at (.ptr 1 0)),(3,.at (.ptr 2 0)),(29,.at (.int .i64)),(30,.at (.int .i64))]
noncomputable def ZK8:Spec:=Spec.mk [.ro] []
noncomputable def Z97:LoopDef (Tup Zdb×OutD):= .rets Zl7 ZK8 (Unit) (Bool) (fun k x=>ZaK k x.1.2.1.1 x.1.2.1.2.1 x.1.2.1.2.2.1 x.1.2.2.1.1 x.1.2.2.1.2.1 x.1.2.2.1.2.2.1 x.2.2.2.1 x.2.2.2.2.1) (fun z=>(((),()),(()))) (fun y=>()) (fun _=>rfl) Zor ZoC ZqA
noncomputable def Zgy:Nat→Int×Int×List (Int×Int)→Int×Int×List (Int×Int)→Option Bool
 |0,_,_=>none
 |k+1,p0,p1=>
  if decide (p0.1≠p1.1)=true then some false else if decide (p0.2.1≠p1.2.1)=true then some false else if decide ((↑(List.length p0.2.2):Int)≠(↑(List.length p1.2.2):Int))=true then some false else Option.bind (ZaK k p0.1 p0.2.1 p0.2.2 p1.1 p1.2.1 p1.2.2 (↑(List.length p0.2.2):Int) (0:Int)) fun z0=>LR.on z0 (fun y0=>some true) fun r0=>some r0
noncomputable def Z7Z:FnDef:= .of ZCk Zdb (Bool) (fun k x=>Zgy k x.1 x.2.1) Zor ZoC ZqA
noncomputable def Zkq:Code:=Tryz.f7.body.getD .skip
noncomputable def Zb3:Ctx (Tup Zdb×OutD):={T:=T,G:=[],mvs:=[],no:=0,n:=45,res:=resOf T ZCk Zdb Tryz.f7.results.toList,loops:=[(0,Z97.E)],regs:=[],conds:=[],cuts:=[]}
theorem ZBn(k:Nat):EnvOK Tryz.prog k Zb3.G:=(EnvOK.nil mixed)
noncomputable def Zg8:Code:=(findLoop 0 Zkq).getD .skip
theorem ZK6(k:Nat)(x:Zl7.D):Z97.lp (k+1) x=loopK Zb3 Z97 0 Zg8 k x:=by kernel_rfl
theorem ZKq(k:Nat):LOK Tryz.prog Zb3 k Zg8:=LOK.by [] (by kernel_rfl) AllOK.nil
theorem ZK5(x:Zl7.D):Z97.lp 0 x=none:=by kernel_rfl
theorem ZIy(k:Nat):EOK Tryz.prog Zb3 k Z97.E (.block 0 (.loop Zg8)):=Zd T_ok ZBn ZK5 ZK6 ZKq k
theorem ZQF(k:Nat)(x:Tup Z7Z.ps):Z7Z.f (k+1) x=fnK Z7Z Zb3 Zkq k x:=by kernel_rfl
theorem ZQe(x:Tup Z7Z.ps):Z7Z.f 0 x=none:=by kernel_rfl
theorem ZQE(k:Nat):LOK Tryz.prog Zb3 k Zkq:=LOK.by [(Z97.E,.block 0 (.loop Zg8))] (by kernel_rfl) (AllOK.cons (ZIy k) AllOK.nil)
theorem ZQM(k:Nat):SoundAt Tryz.prog k 7 Z7Z.E:= @Z5 Tryz.prog Z7Z Zb3 7 Tryz.f7 Zkq (by kernel_rfl) (by kernel_rfl) (by kernel_rfl) Tryz.func7 (by kernel_rfl) (by kernel_rfl) (by kernel_rfl) T_ok ZBn ZQE ZQe ZQF k
noncomputable def Zfb:List PK:=[PK.mk .bool false none false none]
noncomputable def ZF4:List PK:=[PK.mk (.slice 3 I6) false none false none,PK.mk (.slice 3 I6) false none false none]
noncomputable def ZpQ(r:Bool):Tup Zfb×OutD:=((r,()),none)
noncomputable def Zqh:Tup Zfb×OutD→Option (Bool)
 |(a,none)=>some (a.1)
 |_=>none
theorem Ztf: ∀b r,Zqh b=some r→ZpQ r=b:=by
 rintro ⟨a,_|_⟩ r h<;>cases h;rfl
noncomputable def ZbM:Nat→List Int→List Int→Int→Int→Option (LR Unit Bool)
 |0,_,_,_,_=>none
 |k+1,v0,v1,v12,v13=>
  if decide (v13<v12)=true then if (0:Int)≤v13 then if v13<(↑(List.length v0):Int) then if (0:Int)≤v13 then if v13<(↑(List.length v1):Int) then if decide (List.getD v0 (Int.toNat v13) (0:Int)≠List.getD v1 (Int.toNat v13) (0:Int))=true then some (LR.ret false) else ZbM k v0 v1 v12 (wrap64 (v13+1)) else none else none else none else none else some (LR.go ())
noncomputable def Zmj:Spec:=Spec.mk [.ro] [(0,.at (.snap 0 I6)),(1,.at (.snap 0 I6)),(12,.at (.int .i64)),(13,.at (.int .i64))]
noncomputable def ZM6:Spec:=Spec.mk [.ro] []
noncomputable def Zab:LoopDef (Tup Zfb×OutD):= .rets Zmj ZM6 (Unit) (Bool) (fun k x=>ZbM k x.2.1 x.2.2.1 x.2.2.2.1 x.2.2.2.2.1) (fun z=>(((),()),(()))) (fun y=>()) (fun _=>rfl) ZpQ Zqh Ztf
noncomputable def ZhV:Nat→List Int→List Int→Option Bool
 |0,_,_=>none
 |k+1,p0,p1=>
  if decide ((↑(List.length p0):Int)≠(↑(List.length p1):Int))=true then some false else Option.bind (ZbM k p0 p1 (↑(List.length p0):Int) (0:Int)) fun z0=>LR.on z0 (fun y0=>some true) fun r0=>some r0
noncomputable def Z7e:FnDef:= .of ZF4 Zfb (Bool) (fun k x=>ZhV k x.1 x.2.1) ZpQ Zqh Ztf
noncomputable def Zm5:Code:=Tryz.f19.body.getD .skip
noncomputable def Zcq:Ctx (Tup Zfb×OutD):={T:=T,G:=[],mvs:=[],no:=0,n:=26,res:=resOf T ZF4 Zfb Tryz.f19.results.toList,loops:=[(0,Zab.E)],regs:=[],conds:=[],cuts:=[]}
theorem ZEL(k:Nat):EnvOK Tryz.prog k Zcq.G:=(EnvOK.nil mixed)
noncomputable def Zhj:Code:=(findLoop 0 Zm5).getD .skip
theorem ZM0(k:Nat)(x:Zmj.D):Zab.lp (k+1) x=loopK Zcq Zab 0 Zhj k x:=by kernel_rfl
theorem ZMU(k:Nat):LOK Tryz.prog Zcq k Zhj:=LOK.by [] (by kernel_rfl) AllOK.nil
theorem ZLB(x:Zmj.D):Zab.lp 0 x=none:=by kernel_rfl
theorem ZLa(k:Nat):EOK Tryz.prog Zcq k Zab.E (.block 0 (.loop Zhj)):=Zd T_ok ZEL ZLB ZM0 ZMU k
theorem ZS4(k:Nat)(x:Tup Z7e.ps):Z7e.f (k+1) x=fnK Z7e Zcq Zm5 k x:=by kernel_rfl
theorem ZRr(x:Tup Z7e.ps):Z7e.f 0 x=none:=by kernel_rfl
theorem ZRD(k:Nat):LOK Tryz.prog Zcq k Zm5:=LOK.by [(Zab.E,.block 0 (.loop Zhj))] (by kernel_rfl) (AllOK.cons (ZLa k) AllOK.nil)
theorem ZGs(k:Nat):SoundAt Tryz.prog k 19 Z7e.E:= @Z5 Tryz.prog Z7e Zcq 19 Tryz.f19 Zm5 (by kernel_rfl) (by kernel_rfl) (by kernel_rfl) Tryz.func19 (by kernel_rfl) (by kernel_rfl) (by kernel_rfl) T_ok ZEL ZRD ZRr ZS4 k
noncomputable def ZgU:List PK:=[PK.mk I6 false none false none]
noncomputable def ZJ6:List PK:=[PK.mk (.slice 3 I6) false none false none]
noncomputable def ZG7(r:Int):Tup ZgU×OutD:=((r,()),none)
noncomputable def ZE7:Tup ZgU×OutD→Option (Int)
 |(a,none)=>some (a.1)
 |_=>none
theorem ZMD: ∀b r,ZE7 b=some r→ZG7 r=b:=by
 rintro ⟨a,_|_⟩ r h<;>cases h;rfl
noncomputable def Zdi:Nat→Int→List Int→Int→Int→Option Int
 |0,_,_,_,_=>none
 |k+1,v3,v6,v7,v8=>
  if decide (v8<v7)=true then if (0:Int)≤v8 then if v8<(↑(List.length v6):Int) then Zdi k (wrap64 (v3+List.getD v6 (Int.toNat v8) (0:Int))) v6 v7 (wrap64 (v8+1)) else none else none else some v3
noncomputable def Zoh:Spec:=Spec.mk [.ro] [(3,.at (.int .i64)),(6,.at (.snap 0 I6)),(7,.at (.int .i64)),(8,.at (.int .i64))]
noncomputable def ZNZ:Spec:=Spec.mk [.ro] [(3,.at (.int .i64))]
noncomputable def Zc5:LoopDef (Tup ZgU×OutD):= .plain Zoh ZNZ (Int) (fun k x=>Zdi k x.2.1 x.2.2.1 x.2.2.2.1 x.2.2.2.2.1) (fun z=>(((),()),(z,()))) (fun y=>(y.2.1)) (fun _=>rfl)
noncomputable def ZoT:Nat→List Int→Option Int
 |0,_=>none
 |k+1,p0=>
  Option.bind (Zdi k (0:Int) p0 (↑(List.length p0):Int) (0:Int)) fun z0=>some z0
noncomputable def ZbK:FnDef:= .of ZJ6 ZgU (Int) (fun k x=>ZoT k x.1) ZG7 ZE7 ZMD
noncomputable def ZoX:Code:=Tryz.f20.body.getD .skip
noncomputable def Zea:Ctx (Tup ZgU×OutD):={T:=T,G:=[],mvs:=[],no:=0,n:=17,res:=resOf T ZJ6 ZgU Tryz.f20.results.toList,loops:=[(0,Zc5.E)],regs:=[],conds:=[],cuts:=[]}
theorem ZJ3(k:Nat):EnvOK Tryz.prog k Zea.G:=(EnvOK.nil mixed)
noncomputable def ZiX:Code:=(findLoop 0 ZoX).getD .skip
theorem ZOr(k:Nat)(x:Zoh.D):Zc5.lp (k+1) x=loopK Zea Zc5 0 ZiX k x:=by kernel_rfl
theorem ZNT(k:Nat):LOK Tryz.prog Zea k ZiX:=LOK.by [] (by kernel_rfl) AllOK.nil
theorem ZNL(x:Zoh.D):Zc5.lp 0 x=none:=by kernel_rfl
theorem ZN7(k:Nat):EOK Tryz.prog Zea k Zc5.E (.block 0 (.loop ZiX)):=Zd T_ok ZJ3 ZNL ZOr ZNT k
theorem ZSL(k:Nat)(x:Tup ZbK.ps):ZbK.f (k+1) x=fnK ZbK Zea ZoX k x:=by kernel_rfl
theorem ZSJ(x:Tup ZbK.ps):ZbK.f 0 x=none:=by kernel_rfl
theorem ZT2(k:Nat):LOK Tryz.prog Zea k ZoX:=LOK.by [(Zc5.E,.block 0 (.loop ZiX))] (by kernel_rfl) (AllOK.cons (ZN7 k) AllOK.nil)
theorem ZT9(k:Nat):SoundAt Tryz.prog k 20 ZbK.E:= @Z5 Tryz.prog ZbK Zea 20 Tryz.f20 ZoX (by kernel_rfl) (by kernel_rfl) (by kernel_rfl) Tryz.func20 (by kernel_rfl) (by kernel_rfl) (by kernel_rfl) T_ok ZJ3 ZT2 ZSJ ZSL k
noncomputable def ZbX:List PK:=[PK.mk .bool false none false none]
noncomputable def Zyo:List PK:=[PK.mk (.slice 58 T6) false none false none,PK.mk (.slice 58 T6) false none false none]
noncomputable def Zn6(r:Bool):Tup ZbX×OutD:=((r,()),none)
noncomputable def Zmv:Tup ZbX×OutD→Option (Bool)
 |(a,none)=>some (a.1)
 |_=>none
theorem Zpx: ∀b r,Zmv b=some r→Zn6 r=b:=by
 rintro ⟨a,_|_⟩ r h<;>cases h;rfl
noncomputable def Z8S:Nat→List (Int×Int×Int)→List (Int×Int×Int)→Int→Int→Option (LR Unit Bool)
 |0,_,_,_,_=>none
 |k+1,v0,v1,v12,v13=>
  if decide (v13<v12)=true then if (0:Int)≤v13 then if v13<(↑(List.length v0):Int) then if (0:Int)≤v13 then if v13<(↑(List.length v1):Int) then if (!(decide (Prod.fst (List.getD v0 (Int.toNat v13) ((0:Int),(0:Int),(0:Int)))=Prod.fst (List.getD v1 (Int.toNat v13) ((0:Int),(0:Int),(0:Int))))&&(decide (Prod.fst (Prod.snd (List.getD v0 (Int.toNat v13) ((0:Int),(0:Int),(0:Int))))=Prod.fst (Prod.snd (List.getD v1 (Int.toNat v13) ((0:Int),(0:Int),(0:Int)))))&&(decide (Prod.snd (Prod.snd (List.getD v0 (Int.toNat v13) ((0:Int),(0:Int),(0:Int))))=Prod.snd (Prod.snd (List.getD v1 (Int.toNat v13) ((0:Int),(0:Int),(0:Int)))))&&true))))=true then some (LR.ret false) else Z8S k v0 v1 v12 (wrap64 (v13+1)) else none else none else none else none else some (LR.go ())
noncomputable def Zjn:Spec:=Spec.mk [.ro] [(0,.at (.snap 0 T6)),(1,.at (.snap 0 T6)),(12,.at (.int .i64)),(13,.at (.int .i64))]
noncomputable def ZH4:Spec:=Spec.mk [.ro] []
noncomputable def Z7K:LoopDef (Tup ZbX×OutD):= .rets Zjn ZH4 (Unit) (Bool) (fun k x=>Z8S k x.2.1 x.2.2.1 x.2.2.2.1 x.2.2.2.2.1) (fun z=>(((),()),(()))) (fun y=>()) (fun _=>rfl) Zn6 Zmv Zpx
noncomputable def ZiF:Nat→List (Int×Int×Int)→List (Int×Int×Int)→Option Bool
 |0,_,_=>none
 |k+1,p0,p1=>
  if decide ((↑(List.length p0):Int)≠(↑(List.length p1):Int))=true then some false else Option.bind (Z8S k p0 p1 (↑(List.length p0):Int) (0:Int)) fun z0=>LR.on z0 (fun y0=>some true) fun r0=>some r0
noncomputable def Z6w:FnDef:= .of Zyo ZbX (Bool) (fun k x=>ZiF k x.1 x.2.1) Zn6 Zmv Zpx
noncomputable def ZiD:Code:=Tryz.f23.body.getD .skip
noncomputable def Z9g:Ctx (Tup ZbX×OutD):={T:=T,G:=[],mvs:=[],no:=0,n:=26,res:=resOf T Zyo ZbX Tryz.f23.results.toList,loops:=[(0,Z7K.E)],regs:=[],conds:=[],cuts:=[]}
theorem ZxZ(k:Nat):EnvOK Tryz.prog k Z9g.G:=(EnvOK.nil mixed)
noncomputable def Zez:Code:=(findLoop 0 ZiD).getD .skip
theorem ZIf(k:Nat)(x:Zjn.D):Z7K.lp (k+1) x=loopK Z9g Z7K 0 Zez k x:=by kernel_rfl
theorem ZGH(k:Nat):LOK Tryz.prog Z9g k Zez:=LOK.by [] (by kernel_rfl) AllOK.nil
theorem ZHX(x:Zjn.D):Z7K.lp 0 x=none:=by kernel_rfl
theorem ZE6(k:Nat):EOK Tryz.prog Z9g k Z7K.E (.block 0 (.loop Zez)):=Zd T_ok ZxZ ZHX ZIf ZGH k
theorem ZNW(k:Nat)(x:Tup Z6w.ps):Z6w.f (k+1) x=fnK Z6w Z9g ZiD k x:=by kernel_rfl
theorem ZOY(x:Tup Z6w.ps):Z6w.f 0 x=none:=by kernel_rfl
theorem ZNJ(k:Nat):LOK Tryz.prog Z9g k ZiD:=LOK.by [(Z7K.E,.block 0 (.loop Zez))] (by kernel_rfl) (AllOK.cons (ZE6 k) AllOK.nil)
theorem ZOL(k:Nat):SoundAt Tryz.prog k 23 Z6w.E:= @Z5 Tryz.prog Z6w Z9g 23 Tryz.f23 ZiD (by kernel_rfl) (by kernel_rfl) (by kernel_rfl) Tryz.func23 (by kernel_rfl) (by kernel_rfl) (by kernel_rfl) T_ok ZxZ ZNJ ZOY ZNW k
noncomputable def Zdh:List PK:=[PK.mk .bool false none false none]
noncomputable def ZBy:List PK:=[PK.mk (.slice 40 T6) false none false none,PK.mk (.slice 40 T6) false none false none]
noncomputable def Zo6(r:Bool):Tup Zdh×OutD:=((r,()),none)
noncomputable def Zou:Tup Zdh×OutD→Option (Bool)
 |(a,none)=>some (a.1)
 |_=>none
theorem Zqq: ∀b r,Zou b=some r→Zo6 r=b:=by
 rintro ⟨a,_|_⟩ r h<;>cases h;rfl
noncomputable def Zam:Nat→List (Int×Int×Int)→List (Int×Int×Int)→Int→Int→Option (LR Unit Bool)
 |0,_,_,_,_=>none
 |k+1,v0,v1,v12,v13=>
  if decide (v13<v12)=true then if (0:Int)≤v13 then if v13<(↑(List.length v0):Int) then if (0:Int)≤v13 then if v13<(↑(List.length v1):Int) then if (!(decide (Prod.fst (List.getD v0 (Int.toNat v13) ((0:Int),(0:Int),(0:Int)))=Prod.fst (List.getD v1 (Int.toNat v13) ((0:Int),(0:Int),(0:Int))))&&(decide (Prod.fst (Prod.snd (List.getD v0 (Int.toNat v13) ((0:Int),(0:Int),(0:Int))))=Prod.fst (Prod.snd (List.getD v1 (Int.toNat v13) ((0:Int),(0:Int),(0:Int)))))&&(decide (Prod.snd (Prod.snd (List.getD v0 (Int.toNat v13) ((0:Int),(0:Int),(0:Int))))=Prod.snd (Prod.snd (List.getD v1 (Int.toNat v13) ((0:Int),(0:Int),(0:Int)))))&&true))))=true then some (LR.ret false) else Zam k v0 v1 v12 (wrap64 (v13+1)) else none else none else none else none else some (LR.go ())
noncomputable def ZkQ:Spec:=Spec.mk [.ro] [(0,.at (.snap 0 T6)),(1,.at (.snap 0 T6)),(12,.at (.int .i64)),(13,.at (.int .i64))]
noncomputable def ZLy:Spec:=Spec.mk [.ro] []
noncomputable def Z8N:LoopDef (Tup Zdh×OutD):= .rets ZkQ ZLy (Unit) (Bool) (fun k x=>Zam k x.2.1 x.2.2.1 x.2.2.2.1 x.2.2.2.2.1) (fun z=>(((),()),(()))) (fun y=>()) (fun _=>rfl) Zo6 Zou Zqq
noncomputable def Zkm:Nat→List (Int×Int×Int)→List (Int×Int×Int)→Option Bool
 |0,_,_=>none
 |k+1,p0,p1=>
  if decide ((↑(List.length p0):Int)≠(↑(List.length p1):Int))=true then some false else Option.bind (Zam k p0 p1 (↑(List.length p0):Int) (0:Int)) fun z0=>LR.on z0 (fun y0=>some true) fun r0=>some r0
noncomputable def Z7V:FnDef:= .of ZBy Zdh (Bool) (fun k x=>Zkm k x.1 x.2.1) Zo6 Zou Zqq
noncomputable def Zku:Code:=Tryz.f26.body.getD .skip
noncomputable def ZaW:Ctx (Tup Zdh×OutD):={T:=T,G:=[],mvs:=[],no:=0,n:=26,res:=resOf T ZBy Zdh Tryz.f26.results.toList,loops:=[(0,Z8N.E)],regs:=[],conds:=[],cuts:=[]}
theorem ZBX(k:Nat):EnvOK Tryz.prog k ZaW.G:=(EnvOK.nil mixed)
noncomputable def Zgn:Code:=(findLoop 0 Zku).getD .skip
theorem ZKW(k:Nat)(x:ZkQ.D):Z8N.lp (k+1) x=loopK ZaW Z8N 0 Zgn k x:=by kernel_rfl
theorem ZLv(k:Nat):LOK Tryz.prog ZaW k Zgn:=LOK.by [] (by kernel_rfl) AllOK.nil
theorem ZLf(x:ZkQ.D):Z8N.lp 0 x=none:=by kernel_rfl
theorem ZHT(k:Nat):EOK Tryz.prog ZaW k Z8N.E (.block 0 (.loop Zgn)):=Zd T_ok ZBX ZLf ZKW ZLv k
theorem ZQ4(k:Nat)(x:Tup Z7V.ps):Z7V.f (k+1) x=fnK Z7V ZaW Zku k x:=by kernel_rfl
theorem ZPO(x:Tup Z7V.ps):Z7V.f 0 x=none:=by kernel_rfl
theorem ZQr(k:Nat):LOK Tryz.prog ZaW k Zku:=LOK.by [(Z8N.E,.block 0 (.loop Zgn))] (by kernel_rfl) (AllOK.cons (ZHT k) AllOK.nil)
theorem ZQN(k:Nat):SoundAt Tryz.prog k 26 Z7V.E:= @Z5 Tryz.prog Z7V ZaW 26 Tryz.f26 Zku (by kernel_rfl) (by kernel_rfl) (by kernel_rfl) Tryz.func26 (by kernel_rfl) (by kernel_rfl) (by kernel_rfl) T_ok ZBX ZQr ZPO ZQ4 k
noncomputable def Z5L:List PK:=[PK.mk (.slice 3 I6) false none false none]
noncomputable def Znt:List PK:=[PK.mk (.slice 3 I6) false none false none,PK.mk (.pair I6 (.slice 3 I6)) true none false none]
noncomputable def Zmu(r:List Int):Tup Z5L×OutD:=((r,()),none)
noncomputable def Zmh:Tup Z5L×OutD→Option (List Int)
 |(a,none)=>some (a.1)
 |_=>none
theorem Zu7: ∀b r,Zmh b=some r→Zmu r=b:=by
 rintro ⟨a,_|_⟩ r h<;>cases h;rfl
noncomputable def Z3h:Nat→Int→List Int→List Int→List Int→Int→Int→Option (List Int)
 |0,_,_,_,_,_,_=>none
 |k+1,b1_0,b1_1,o2,v9,v10,v11=>
  if decide (v11<v10)=true then if (0:Int)≤v11 then if v11<(↑(List.length v9):Int) then if (0:Int)≤v11 then if v11<(↑(List.length b1_1):Int) then if decide (List.getD v9 (Int.toNat v11) (0:Int)≠List.getD b1_1 (Int.toNat v11) (0:Int))=true then if List.length o2+List.length [v11]≤(140737488355328/8:Nat) then Z3h k b1_0 b1_1 (o2++[v11]) v9 v10 (wrap64 (v11+1)) else none else Z3h k b1_0 b1_1 o2 v9 v10 (wrap64 (v11+1)) else none else none else none else none else some o2
noncomputable def Ze6:Spec:=Spec.mk [.ro,.box 24 [.int .i64,.snap 0 I6],O1] [(3,.at (.ptr 1 0)),(5,.at (.sl 2)),(9,.at (.snap 0 I6)),(10,.at (.int .i64)),(11,.at (.int .i64))]
noncomputable def Zxj:Spec:=Spec.mk [.ro,O1] [(5,.at (.sl 1))]
noncomputable def Z44:LoopDef (Tup Z5L×OutD):= .plain Ze6 Zxj (List Int) (fun k x=>Z3h k x.1.2.1.1 x.1.2.1.2.1 x.1.2.2.1 x.2.2.2.1 x.2.2.2.2.1 x.2.2.2.2.2.1) (fun z=>(((),z,()),((),()))) (fun y=>(y.1.2.1)) (fun _=>rfl)
noncomputable def ZgV:Nat→List Int→Int×List Int→Option (List Int)
 |0,_,_=>none
 |k+1,p0,p1=>
  Option.bind (Z3h k p1.1 p1.2 [] p0 (↑(List.length p0):Int) (0:Int)) fun z0=>some z0
noncomputable def Z2Y:FnDef:= .of Znt Z5L (List Int) (fun k x=>ZgV k x.1 x.2.1) Zmu Zmh Zu7
noncomputable def ZcA:Code:=Tryz.f36.body.getD .skip
noncomputable def Z4k:Ctx (Tup Z5L×OutD):={T:=T,G:=[],mvs:=[],no:=0,n:=29,res:=resOf T Znt Z5L Tryz.f36.results.toList,loops:=[(0,Z44.E)],regs:=[],conds:=[],cuts:=[]}
theorem ZnP(k:Nat):EnvOK Tryz.prog k Z4k.G:=(EnvOK.nil mixed)
noncomputable def Z9F:Code:=(findLoop 0 ZcA).getD .skip
theorem Zx0(k:Nat)(x:Ze6.D):Z44.lp (k+1) x=loopK Z4k Z44 0 Z9F k x:=by kernel_rfl
theorem Zwa(k:Nat):LOK Tryz.prog Z4k k Z9F:=LOK.by [] (by kernel_rfl) AllOK.nil
theorem ZwS(x:Ze6.D):Z44.lp 0 x=none:=by kernel_rfl
theorem ZtH(k:Nat):EOK Tryz.prog Z4k k Z44.E (.block 0 (.loop Z9F)):=Zd T_ok ZnP ZwS Zx0 Zwa k
theorem ZDP(k:Nat)(x:Tup Z2Y.ps):Z2Y.f (k+1) x=fnK Z2Y Z4k ZcA k x:=by kernel_rfl
theorem ZD8(x:Tup Z2Y.ps):Z2Y.f 0 x=none:=by kernel_rfl
theorem ZD4(k:Nat):LOK Tryz.prog Z4k k ZcA:=LOK.by [(Z44.E,.block 0 (.loop Z9F))] (by kernel_rfl) (AllOK.cons (ZtH k) AllOK.nil)
theorem ZDD(k:Nat):SoundAt Tryz.prog k 36 Z2Y.E:= @Z5 Tryz.prog Z2Y Z4k 36 Tryz.f36 ZcA (by kernel_rfl) (by kernel_rfl) (by kernel_rfl) Tryz.func36 (by kernel_rfl) (by kernel_rfl) (by kernel_rfl) T_ok ZnP ZD4 ZD8 ZDP k
noncomputable def Z9d:List PK:=[PK.mk (.pair I6 (.pair I6 (.slice 76 P6))) true none false none]
noncomputable def Ztk:List PK:=[PK.mk (.pair I6 (.pair I6 (.slice 76 P6))) true none false none]
noncomputable def Zqp(r:Int×Int×List (Int×Int)):Tup Z9d×OutD:=((r,()),none)
noncomputable def ZqO:Tup Z9d×OutD→Option (Int×Int×List (Int×Int))
 |(a,none)=>some (a.1)
 |_=>none
theorem ZAv: ∀b r,ZqO b=some r→Zqp r=b:=by
 rintro ⟨a,_|_⟩ r h<;>cases h;rfl
noncomputable def Z5S:Nat→Int→Int→List (Int×Int)→Int→Int→List (Int×Int)→Option (Int×Int×List (Int×Int)):=fun k b1_0 b1_1 b1_2 b2_0 b2_1 o3=>
  if (0:Nat)+List.length b1_2≤(140737488355328/16:Nat) then some (b1_0,b1_1,b1_2) else none
noncomputable def Zbs:Nat→Int→Int→List (Int×Int)→Int→Int→List (Int×Int)→Option (List (Int×Int×List (Int×Int))):=fun k b1_0 b1_1 b1_2 b2_0 b2_1 o3=>
  joinL (joinL (if (0:Nat)+List.length b1_2≤(140737488355328/16:Nat) then some [(b1_0,b1_1,b1_2)] else none) (joinL (if (0:Nat)+List.length b1_2≤(140737488355328/16:Nat) then some [(b1_0,b1_1,b1_2)] else none) (if (0:Nat)+List.length b1_2≤(140737488355328/16:Nat) then some [(b1_0,b1_1,b1_2)] else none))) (joinL (joinL (if (0:Nat)+List.length b1_2≤(140737488355328/16:Nat) then some [(b1_0,b1_1,b1_2)] else none) (joinL (if (0:Nat)+List.length b1_2≤(140737488355328/16:Nat) then some [(b1_0,b1_1,b1_2)] else none) (if (0:Nat)+List.length b1_2≤(140737488355328/16:Nat) then some [(b1_0,b1_1,b1_2)] else none))) (joinL (joinL (if (0:Nat)+List.length b1_2≤(140737488355328/16:Nat) then some [(b1_0,b1_1,b1_2)] else none) (if (0:Nat)+List.length b1_2≤(140737488355328/16:Nat) then some [(b1_0,b1_1,b1_2)] else none)) (joinL (joinL (if (0:Nat)+List.length b1_2≤(140737488355328/16:Nat) then some [(b1_0,b1_1,b1_2)] else none) (if (0:Nat)+List.length b1_2≤(140737488355328/16:Nat) then some [(b1_0,b1_1,b1_2)] else none)) (if (0:Nat)+List.length b1_2≤(140737488355328/16:Nat) then joinL (some [(b1_0,b1_1,b1_2)]) (some [(b1_0,b1_1,b1_2)]) else none))))
noncomputable def Zn5:Spec:=Spec.mk [.ro,O2,Oa,O0] [(1,.at (.ptr 1 0)),(2,.at (.ptr 2 0))]
noncomputable def ZzF:Spec:=Spec.mk [.ro,Obq,O0] [(2,.at (.ptr 1 0))]
noncomputable def Z4Z:LoopDef (Tup Z9d×OutD):= .plain Zn5 ZzF (Int×Int×List (Int×Int)) (fun k x=>Z5S k x.1.2.1.1 x.1.2.1.2.1 x.1.2.1.2.2.1 x.1.2.2.1.1 x.1.2.2.1.2.1 x.1.2.2.2.1) (fun z=>(((),(z.1,z.2.1,(),()),z.2.2,()),((),()))) (fun y=>(y.1.2.1.1,y.1.2.1.2.1,y.1.2.2.1)) (fun _=>rfl)
theorem ZA2(k:Nat)(b1_0:Int)(b1_1:Int)(b1_2:List (Int×Int))(b2_0:Int)(b2_1:Int)(o3:List (Int×Int)):Zbs k b1_0 b1_1 b1_2 b2_0 b2_1 o3=repl 12 (Z5S k b1_0 b1_1 b1_2 b2_0 b2_1 o3):=by
 first
 |(simp only[Zbs,Z5S,Z9,Zc,Z6,Z8,Z7,Z3,if_true];done)
 |(simp only[Zbs,Z5S,Z9,Zc,Z6,Z8,Z7,Z3,if_true];simp only[Z1g,Z1i,Z2p,Z3];simp only[Z3E];exact Z1F ⟨fun h=>by simp only[h,and_self],fun h=>by simp only[h,and_self]⟩)
noncomputable def Z4P:Nat→Int×Int×List (Int×Int)→Option (Int×Int×List (Int×Int))
 |0,_=>none
 |k+1,p0=>
  Option.bind (Z5S k p0.1 p0.2.1 p0.2.2 (0:Int) (0:Int) []) fun z0=>some (z0.1,z0.2.1,z0.2.2)
noncomputable def Z2H:FnDef:= .of Ztk Z9d (Int×Int×List (Int×Int)) (fun k x=>Z4P k x.1) Zqp ZqO ZAv
noncomputable def ZfB:Code:=Tryz.f41.body.getD .skip
noncomputable def Z2E:Ctx (Tup Z9d×OutD):={T:=T,G:=[],mvs:=[],no:=0,n:=12,res:=resOf T Ztk Z9d Tryz.f41.results.toList,loops:=[],regs:=[(1,Z4Z.E)],conds:=[],cuts:=[]}
theorem ZrQ(k:Nat):EnvOK Tryz.prog k Z2E.G:=(EnvOK.nil mixed)
noncomputable def Zgg:Array Oper:=(findReg 1 ZfB).getD #[]
theorem ZzP(k:Nat)(x:Zn5.D):execD Z2E.T Z2E.G Z2E.mvs k Zgg (Z4Z.inp.st Z2E.n x) (outK Z2E Z4Z)=Zbs k x.1.2.1.1 x.1.2.1.2.1 x.1.2.1.2.2.1 x.1.2.2.1.1 x.1.2.2.1.2.1 x.1.2.2.2.1:=by kernel_rfl
theorem ZxQ(k:Nat):EOK Tryz.prog Z2E k Z4Z.E (.region 1 Zgg true):=Z4m (D:=Z4Z) (m:=12) T_ok (ZrQ k) (fun x=>(ZzP k x).trans (ZA2 k x.1.2.1.1 x.1.2.1.2.1 x.1.2.1.2.2.1 x.1.2.2.1.1 x.1.2.2.1.2.1 x.1.2.2.2.1))
theorem ZKu(k:Nat)(x:Tup Z2H.ps):Z2H.f (k+1) x=fnK Z2H Z2E ZfB k x:=by kernel_rfl
theorem ZLg(x:Tup Z2H.ps):Z2H.f 0 x=none:=by kernel_rfl
theorem ZJt(k:Nat):LOK Tryz.prog Z2E k ZfB:=LOK.by [(Z4Z.E,.region 1 Zgg true)] (by kernel_rfl) (AllOK.cons (ZxQ k) AllOK.nil)
theorem Zl6(k:Nat):SoundAt Tryz.prog k 41 Z2H.E:= @Z5 Tryz.prog Z2H Z2E 41 Tryz.f41 ZfB (by kernel_rfl) (by kernel_rfl) (by kernel_rfl) Tryz.func41 (by kernel_rfl) (by kernel_rfl) (by kernel_rfl) T_ok ZrQ ZJt ZLg ZKu k
noncomputable def Z9e:List PK:=[PK.mk (.pair I6 (.pair I6 (.slice 76 P6))) true none false none]
noncomputable def Zzs:List PK:=[PK.mk (.pair I6 (.pair I6 (.pair (.slice 76 P6) (.pair (.slice 3 I6) (.slice 3 I6))))) true none false none,PK.mk I6 false none false none]
noncomputable def ZvD(r:Int×Int×List (Int×Int)):Tup Z9e×OutD:=((r,()),none)
noncomputable def Zvk:Tup Z9e×OutD→Option (Int×Int×List (Int×Int))
 |(a,none)=>some (a.1)
 |_=>none
theorem ZG5: ∀b r,Zvk b=some r→ZvD r=b:=by
 rintro ⟨a,_|_⟩ r h<;>cases h;rfl
noncomputable def Z7I:Nat→Int→Int→List (Int×Int)→List Int→List Int→Int→Int→List (Int×Int)→Int→Option (Int×Int×List (Int×Int)×List Int×List Int×Int×Int×List (Int×Int)×Int×Int×List (Int×Int)×Int):=fun k b1_0 b1_1 b1_2 b1_3 b1_4 b2_0 b2_1 o3 v1=>
  if (0:Int)≤wrap64 (b1_0*b1_1) then if Int.toNat (wrap64 (b1_0*b1_1))*(16:Nat)≤(281474976710656:Nat) then some (b1_0,b1_1,b1_2,b1_3,b1_4,b2_0,b2_1,o3,b1_0,b1_1,List.replicate (Int.toNat (wrap64 (b1_0*b1_1))) ((0:Int),(0:Int)),v1) else none else none
noncomputable def ZdQ:Nat→Int→Int→List (Int×Int)→List Int→List Int→Int→Int→List (Int×Int)→Int→Option (List (Int×Int×List (Int×Int)×List Int×List Int×Int×Int×List (Int×Int)×Int×Int×List (Int×Int)×Int)):=fun k b1_0 b1_1 b1_2 b1_3 b1_4 b2_0 b2_1 o3 v1=>
  joinL (if (0:Int)≤wrap64 (b1_0*b1_1) then if Int.toNat (wrap64 (b1_0*b1_1))*(16:Nat)≤(281474976710656:Nat) then some [(b1_0,b1_1,b1_2,b1_3,b1_4,b2_0,b2_1,o3,b1_0,b1_1,List.replicate (Int.toNat (wrap64 (b1_0*b1_1))) ((0:Int),(0:Int)),v1)] else none else none) (if (0:Int)≤wrap64 (b1_0*b1_1) then if Int.toNat (wrap64 (b1_0*b1_1))*(16:Nat)≤(281474976710656:Nat) then some [(b1_0,b1_1,b1_2,b1_3,b1_4,b2_0,b2_1,o3,b1_0,b1_1,List.replicate (Int.toNat (wrap64 (b1_0*b1_1))) ((0:Int),(0:Int)),v1)] else none else none)
noncomputable def Zps:Spec:=Spec.mk [.ro,O4,Oa,O0] [(1,.at (.int .i64)),(2,.at (.ptr 1 0)),(4,.at (.ptr 2 0))]
noncomputable def ZFS:Spec:=Spec.mk [.ro,O4,Oa,O0,Od,O0] [(1,.at (.int .i64)),(2,.at (.ptr 1 0)),(4,.at (.ptr 2 0)),(5,.at (.ptr 4 0))]
noncomputable def Z6N:LoopDef (Tup Z9e×OutD):= .plain Zps ZFS (Int×Int×List (Int×Int)×List Int×List Int×Int×Int×List (Int×Int)×Int×Int×List (Int×Int)×Int) (fun k x=>Z7I k x.1.2.1.1 x.1.2.1.2.1 x.1.2.1.2.2.1 x.1.2.1.2.2.2.1 x.1.2.1.2.2.2.2.1 x.1.2.2.1.1 x.1.2.2.1.2.1 x.1.2.2.2.1 x.2.1) (fun z=>(((),(z.1,z.2.1,z.2.2.1,z.2.2.2.1,z.2.2.2.2.1,()),(z.2.2.2.2.2.1,z.2.2.2.2.2.2.1,(),()),z.2.2.2.2.2.2.2.1,(z.2.2.2.2.2.2.2.2.1,z.2.2.2.2.2.2.2.2.2.1,(),()),z.2.2.2.2.2.2.2.2.2.2.1,()),(z.2.2.2.2.2.2.2.2.2.2.2,(),(),(),()))) (fun y=>(y.1.2.1.1,y.1.2.1.2.1,y.1.2.1.2.2.1,y.1.2.1.2.2.2.1,y.1.2.1.2.2.2.2.1,y.1.2.2.1.1,y.1.2.2.1.2.1,y.1.2.2.2.1,y.1.2.2.2.2.1.1,y.1.2.2.2.2.1.2.1,y.1.2.2.2.2.2.1,y.2.1)) (fun _=>rfl)
theorem ZFN(k:Nat)(b1_0:Int)(b1_1:Int)(b1_2:List (Int×Int))(b1_3:List Int)(b1_4:List Int)(b2_0:Int)(b2_1:Int)(o3:List (Int×Int))(v1:Int):ZdQ k b1_0 b1_1 b1_2 b1_3 b1_4 b2_0 b2_1 o3 v1=repl 2 (Z7I k b1_0 b1_1 b1_2 b1_3 b1_4 b2_0 b2_1 o3 v1):=by
 first
 |(simp only[ZdQ,Z7I,Z9,Zc,Z6,Z8,Z7,Z3,if_true];done)
 |(simp only[ZdQ,Z7I,Z9,Zc,Z6,Z8,Z7,Z3,if_true];simp only[Z1g,Z1i,Z2p,Z3];simp only[Z3E];exact Z1F ⟨fun h=>by simp only[h,and_self],fun h=>by simp only[h,and_self]⟩)
noncomputable def Z6o:Nat→Int→Int→List (Int×Int)→List Int→List Int→Int→Int→List (Int×Int)→Int→Int→List (Int×Int)→Int→Int→Option (Int×Int×List (Int×Int)×Int×Int×List (Int×Int))
 |0,_,_,_,_,_,_,_,_,_,_,_,_,_=>none
 |k+1,b1_0,b1_1,b1_2,b1_3,b1_4,b2_0,b2_1,o3,b4_0,b4_1,o5,v1,v6=>
  if decide (v6≥0)=true then if addS (↑(List.length b1_2):Int) (1:Int)=0 then none else if decide (Int.tmod v1 (addS (↑(List.length b1_2):Int) (1:Int))>0)=true then if (0:Int)≤wrap64 (Int.tmod v1 (addS (↑(List.length b1_2):Int) (1:Int))-1) then if wrap64 (Int.tmod v1 (addS (↑(List.length b1_2):Int) (1:Int))-1)<(↑(List.length b1_2):Int) then if (0:Int)≤v6 then if v6<(↑(List.length o5):Int) then if addS (↑(List.length b1_2):Int) (1:Int)=0 then none else Z6o k b1_0 b1_1 b1_2 b1_3 b1_4 b2_0 b2_1 o3 b4_0 b4_1 (List.set o5 (Int.toNat v6) (Prod.fst (List.getD b1_2 (Int.toNat (wrap64 (Int.tmod v1 (addS (↑(List.length b1_2):Int) (1:Int))-1))) ((0:Int),(0:Int))),Prod.snd (List.getD b1_2 (Int.toNat (wrap64 (Int.tmod v1 (addS (↑(List.length b1_2):Int) (1:Int))-1))) ((0:Int),(0:Int))))) (wrap64 (Int.tdiv v1 (addS (↑(List.length b1_2):Int) (1:Int)))) (wrap64 (v6-1)) else none else none else none else none else if addS (↑(List.length b1_2):Int) (1:Int)=0 then none else Z6o k b1_0 b1_1 b1_2 b1_3 b1_4 b2_0 b2_1 o3 b4_0 b4_1 o5 (wrap64 (Int.tdiv v1 (addS (↑(List.length b1_2):Int) (1:Int)))) (wrap64 (v6-1)) else some (b2_0,b2_1,o3,b4_0,b4_1,o5)
noncomputable def ZjT:Spec:=Spec.mk [.ro,O4,Oa,O0,Od,O0] [(1,.at (.int .i64)),(2,.at (.ptr 1 0)),(4,.at (.ptr 2 0)),(5,.at (.ptr 4 0)),(6,.at (.int .i64))]
noncomputable def ZHz:Spec:=Spec.mk [.ro,Obq,O0,O6,O0] [(4,.at (.ptr 1 0)),(5,.at (.ptr 3 0))]
noncomputable def Z7C:LoopDef (Tup Z9e×OutD):= .plain ZjT ZHz (Int×Int×List (Int×Int)×Int×Int×List (Int×Int)) (fun k x=>Z6o k x.1.2.1.1 x.1.2.1.2.1 x.1.2.1.2.2.1 x.1.2.1.2.2.2.1 x.1.2.1.2.2.2.2.1 x.1.2.2.1.1 x.1.2.2.1.2.1 x.1.2.2.2.1 x.1.2.2.2.2.1.1 x.1.2.2.2.2.1.2.1 x.1.2.2.2.2.2.1 x.2.1 x.2.2.2.2.2.1) (fun z=>(((),(z.1,z.2.1,(),()),z.2.2.1,(z.2.2.2.1,z.2.2.2.2.1,(),()),z.2.2.2.2.2,()),((),(),()))) (fun y=>(y.1.2.1.1,y.1.2.1.2.1,y.1.2.2.1,y.1.2.2.2.1.1,y.1.2.2.2.1.2.1,y.1.2.2.2.2.1)) (fun _=>rfl)
noncomputable def Zi:Nat→Int×Int×List (Int×Int)×List Int×List Int→Int→Option (Int×Int×List (Int×Int))
 |0,_,_=>none
 |k+1,p0,p1=>
  Option.bind (Z7I k p0.1 p0.2.1 p0.2.2.1 p0.2.2.2.1 p0.2.2.2.2 (0:Int) (0:Int) [] p1) fun z0=>Option.bind (Z6o k z0.1 z0.2.1 z0.2.2.1 z0.2.2.2.1 z0.2.2.2.2.1 z0.2.2.2.2.2.1 z0.2.2.2.2.2.2.1 z0.2.2.2.2.2.2.2.1 z0.2.2.2.2.2.2.2.2.1 z0.2.2.2.2.2.2.2.2.2.1 z0.2.2.2.2.2.2.2.2.2.2.1 z0.2.2.2.2.2.2.2.2.2.2.2 (wrap64 ((↑(List.length z0.2.2.2.2.2.2.2.2.2.2.1):Int)-1))) fun z1=>some (z1.2.2.2.1,z1.2.2.2.2.1,z1.2.2.2.2.2)
noncomputable def Z3W:FnDef:= .of Zzs Z9e (Int×Int×List (Int×Int)) (fun k x=>Zi k x.1 x.2.1) ZvD Zvk ZG5
noncomputable def Zf2:Code:=Tryz.f47.body.getD .skip
noncomputable def Z1Y:Ctx (Tup Z9e×OutD):={T:=T,G:=[],mvs:=[200031,200049],no:=0,n:=52,res:=resOf T Zzs Z9e Tryz.f47.results.toList,loops:=[(0,Z7C.E)],regs:=[(1,Z6N.E)],conds:=[],cuts:=[]}
theorem ZoN(k:Nat):EnvOK Tryz.prog k Z1Y.G:=(EnvOK.nil mixed)
noncomputable def Zii:Array Oper:=(findReg 1 Zf2).getD #[]
theorem ZEV(k:Nat)(x:Zps.D):execD Z1Y.T Z1Y.G Z1Y.mvs k Zii (Z6N.inp.st Z1Y.n x) (outK Z1Y Z6N)=ZdQ k x.1.2.1.1 x.1.2.1.2.1 x.1.2.1.2.2.1 x.1.2.1.2.2.2.1 x.1.2.1.2.2.2.2.1 x.1.2.2.1.1 x.1.2.2.1.2.1 x.1.2.2.2.1 x.2.1:=by kernel_rfl
theorem ZCs(k:Nat):EOK Tryz.prog Z1Y k Z6N.E (.region 1 Zii true):=Z4m (D:=Z6N) (m:=2) T_ok (ZoN k) (fun x=>(ZEV k x).trans (ZFN k x.1.2.1.1 x.1.2.1.2.1 x.1.2.1.2.2.1 x.1.2.1.2.2.2.1 x.1.2.1.2.2.2.2.1 x.1.2.2.1.1 x.1.2.2.1.2.1 x.1.2.2.2.1 x.2.1))
noncomputable def ZeD:Code:=(findLoop 0 Zf2).getD .skip
theorem ZGY(k:Nat)(x:ZjT.D):Z7C.lp (k+1) x=loopK Z1Y Z7C 0 ZeD k x:=by kernel_rfl
theorem ZIs(k:Nat):LOK Tryz.prog Z1Y k ZeD:=LOK.by [] (by kernel_rfl) AllOK.nil
theorem ZIp(x:ZjT.D):Z7C.lp 0 x=none:=by kernel_rfl
theorem ZEC(k:Nat):EOK Tryz.prog Z1Y k Z7C.E (.block 0 (.loop ZeD)):=Zd T_ok ZoN ZIp ZGY ZIs k
theorem ZO1(k:Nat)(x:Tup Z3W.ps):Z3W.f (k+1) x=fnK Z3W Z1Y Zf2 k x:=by kernel_rfl
theorem ZNe(x:Tup Z3W.ps):Z3W.f 0 x=none:=by kernel_rfl
theorem ZOQ(k:Nat):LOK Tryz.prog Z1Y k Zf2:=LOK.by [(Z6N.E,.region 1 Zii true),(Z7C.E,.block 0 (.loop ZeD))] (by kernel_rfl) (AllOK.cons (ZCs k) (AllOK.cons (ZEC k) AllOK.nil))
theorem Zoy(k:Nat):SoundAt Tryz.prog k 47 Z3W.E:= @Z5 Tryz.prog Z3W Z1Y 47 Tryz.f47 Zf2 (by kernel_rfl) (by kernel_rfl) (by kernel_rfl) Tryz.func47 (by kernel_rfl) (by kernel_rfl) (by kernel_rfl) T_ok ZoN ZOQ ZNe ZO1 k
noncomputable def ZbR:List PK:=[PK.mk I6 false none false none]
noncomputable def Zze:List PK:=[PK.mk (.pair I6 (.pair I6 (.slice 76 P6))) true none false none]
noncomputable def Zve(r:Int):Tup ZbR×OutD:=((r,()),none)
noncomputable def ZuT:Tup ZbR×OutD→Option (Int)
 |(a,none)=>some (a.1)
 |_=>none
theorem ZEM: ∀b r,ZuT b=some r→Zve r=b:=by
 rintro ⟨a,_|_⟩ r h<;>cases h;rfl
noncomputable def Z6m:Nat→Int→List (Int×Int)→Int→Int→Option Int
 |0,_,_,_,_=>none
 |k+1,v3,v7,v8,v9=>
  if decide (v9<v8)=true then if (0:Int)≤v9 then if v9<(↑(List.length v7):Int) then if decide (Prod.fst (List.getD v7 (Int.toNat v9) ((0:Int),(0:Int)))≠0)=true then Z6m k (wrap64 (v3+1)) v7 v8 (wrap64 (v9+1)) else Z6m k v3 v7 v8 (wrap64 (v9+1)) else none else none else some v3
noncomputable def ZjA:Spec:=Spec.mk [.ro] [(3,.at (.int .i64)),(7,.at (.snap 0 P6)),(8,.at (.int .i64)),(9,.at (.int .i64))]
noncomputable def ZIg:Spec:=Spec.mk [.ro] [(3,.at (.int .i64))]
noncomputable def Z7E:LoopDef (Tup ZbR×OutD):= .plain ZjA ZIg (Int) (fun k x=>Z6m k x.2.1 x.2.2.1 x.2.2.2.1 x.2.2.2.2.1) (fun z=>(((),()),(z,()))) (fun y=>(y.2.1)) (fun _=>rfl)
noncomputable def Z6G:Nat→Int×Int×List (Int×Int)→Option Int
 |0,_=>none
 |k+1,p0=>
  Option.bind (Z6m k (0:Int) p0.2.2 (↑(List.length p0.2.2):Int) (0:Int)) fun z0=>some z0
noncomputable def Z3d:FnDef:= .of Zze ZbR (Int) (fun k x=>Z6G k x.1) Zve ZuT ZEM
noncomputable def ZiT:Code:=Tryz.f51.body.getD .skip
noncomputable def Z95:Ctx (Tup ZbR×OutD):={T:=T,G:=[],mvs:=[],no:=0,n:=20,res:=resOf T Zze ZbR Tryz.f51.results.toList,loops:=[(0,Z7E.E)],regs:=[],conds:=[],cuts:=[]}
theorem ZzA(k:Nat):EnvOK Tryz.prog k Z95.G:=(EnvOK.nil mixed)
noncomputable def ZeI:Code:=(findLoop 0 ZiT).getD .skip
theorem ZHu(k:Nat)(x:ZjA.D):Z7E.lp (k+1) x=loopK Z95 Z7E 0 ZeI k x:=by kernel_rfl
theorem ZH9(k:Nat):LOK Tryz.prog Z95 k ZeI:=LOK.by [] (by kernel_rfl) AllOK.nil
theorem ZIi(x:ZjA.D):Z7E.lp 0 x=none:=by kernel_rfl
theorem ZFW(k:Nat):EOK Tryz.prog Z95 k Z7E.E (.block 0 (.loop ZeI)):=Zd T_ok ZzA ZIi ZHu ZH9 k
theorem ZNj(k:Nat)(x:Tup Z3d.ps):Z3d.f (k+1) x=fnK Z3d Z95 ZiT k x:=by kernel_rfl
theorem ZOZ(x:Tup Z3d.ps):Z3d.f 0 x=none:=by kernel_rfl
theorem ZNR(k:Nat):LOK Tryz.prog Z95 k ZiT:=LOK.by [(Z7E.E,.block 0 (.loop ZeI))] (by kernel_rfl) (AllOK.cons (ZFW k) AllOK.nil)
theorem ZiP(k:Nat):SoundAt Tryz.prog k 51 Z3d.E:= @Z5 Tryz.prog Z3d Z95 51 Tryz.f51 ZiT (by kernel_rfl) (by kernel_rfl) (by kernel_rfl) Tryz.func51 (by kernel_rfl) (by kernel_rfl) (by kernel_rfl) T_ok ZzA ZNR ZOZ ZNj k
noncomputable def ZbY:List PK:=[PK.mk .bool false none false none]
noncomputable def ZxS:List PK:=[PK.mk (.slice 3 I6) false none false none]
noncomputable def Zmg(r:Bool):Tup ZbY×OutD:=((r,()),none)
noncomputable def ZlT:Tup ZbY×OutD→Option (Bool)
 |(a,none)=>some (a.1)
 |_=>none
theorem ZpH: ∀b r,ZlT b=some r→Zmg r=b:=by
 rintro ⟨a,_|_⟩ r h<;>cases h;rfl
noncomputable def Z6h:Nat→List Int→Int→Int→Option (LR Unit Bool)
 |0,_,_,_=>none
 |k+1,v5,v6,v7=>
  if decide (v7<v6)=true then if (0:Int)≤v7 then if v7<(↑(List.length v5):Int) then if decide (List.getD v5 (Int.toNat v7) (0:Int)≠0)=true then if decide (List.getD v5 (Int.toNat v7) (0:Int)≠1)=true then some (LR.ret false) else Z6h k v5 v6 (wrap64 (v7+1)) else Z6h k v5 v6 (wrap64 (v7+1)) else none else none else some (LR.go ())
noncomputable def Zjs:Spec:=Spec.mk [.ro] [(5,.at (.snap 0 I6)),(6,.at (.int .i64)),(7,.at (.int .i64))]
noncomputable def ZHa:Spec:=Spec.mk [.ro] []
noncomputable def Z7L:LoopDef (Tup ZbY×OutD):= .rets Zjs ZHa (Unit) (Bool) (fun k x=>Z6h k x.2.1 x.2.2.1 x.2.2.2.1) (fun z=>(((),()),(()))) (fun y=>()) (fun _=>rfl) Zmg ZlT ZpH
noncomputable def ZiH:Nat→List Int→Option Bool
 |0,_=>none
 |k+1,p0=>
  Option.bind (Z6h k p0 (↑(List.length p0):Int) (0:Int)) fun z0=>LR.on z0 (fun y0=>some true) fun r0=>some r0
noncomputable def Z6J:FnDef:= .of ZxS ZbY (Bool) (fun k x=>ZiH k x.1) Zmg ZlT ZpH
noncomputable def ZiI:Code:=Tryz.f63.body.getD .skip
noncomputable def Z9m:Ctx (Tup ZbY×OutD):={T:=T,G:=[],mvs:=[],no:=0,n:=18,res:=resOf T ZxS ZbY Tryz.f63.results.toList,loops:=[(0,Z7L.E)],regs:=[],conds:=[],cuts:=[]}
theorem ZxJ(k:Nat):EnvOK Tryz.prog k Z9m.G:=(EnvOK.nil mixed)
noncomputable def Zeo:Code:=(findLoop 0 ZiI).getD .skip
theorem ZIu(k:Nat)(x:Zjs.D):Z7L.lp (k+1) x=loopK Z9m Z7L 0 Zeo k x:=by kernel_rfl
theorem ZGI(k:Nat):LOK Tryz.prog Z9m k Zeo:=LOK.by [] (by kernel_rfl) AllOK.nil
theorem ZIM(x:Zjs.D):Z7L.lp 0 x=none:=by kernel_rfl
theorem ZFY(k:Nat):EOK Tryz.prog Z9m k Z7L.E (.block 0 (.loop Zeo)):=Zd T_ok ZxJ ZIM ZIu ZGI k
theorem ZNE(k:Nat)(x:Tup Z6J.ps):Z6J.f (k+1) x=fnK Z6J Z9m ZiI k x:=by kernel_rfl
theorem ZOo(x:Tup Z6J.ps):Z6J.f 0 x=none:=by kernel_rfl
theorem ZNB(k:Nat):LOK Tryz.prog Z9m k ZiI:=LOK.by [(Z7L.E,.block 0 (.loop Zeo))] (by kernel_rfl) (AllOK.cons (ZFY k) AllOK.nil)
theorem ZOq(k:Nat):SoundAt Tryz.prog k 63 Z6J.E:= @Z5 Tryz.prog Z6J Z9m 63 Tryz.f63 ZiI (by kernel_rfl) (by kernel_rfl) (by kernel_rfl) Tryz.func63 (by kernel_rfl) (by kernel_rfl) (by kernel_rfl) T_ok ZxJ ZNB ZOo ZNE k
noncomputable def Zak:List PK:=[PK.mk .bool false none false none]
noncomputable def Zv3:List PK:=[PK.mk (.slice 3 I6) false none false none]
noncomputable def ZkZ(r:Bool):Tup Zak×OutD:=((r,()),none)
noncomputable def Zlf:Tup Zak×OutD→Option (Bool)
 |(a,none)=>some (a.1)
 |_=>none
theorem ZnG: ∀b r,Zlf b=some r→ZkZ r=b:=by
 rintro ⟨a,_|_⟩ r h<;>cases h;rfl
noncomputable def ZjL:Nat→List Int→Int→Option (LR Unit Bool)
 |0,_,_=>none
 |k+1,v0,v3=>
  if decide (v3<(↑(List.length v0):Int))=true then if (0:Int)≤v3 then if v3<(↑(List.length v0):Int) then if (0:Int)≤wrap64 (v3-1) then if wrap64 (v3-1)<(↑(List.length v0):Int) then if decide (List.getD v0 (Int.toNat v3) (0:Int)<List.getD v0 (Int.toNat (wrap64 (v3-1))) (0:Int))=true then some (LR.ret false) else ZjL k v0 (wrap64 (v3+1)) else none else none else none else none else some (LR.go ())
noncomputable def Ziq:Spec:=Spec.mk [.ro] [(0,.at (.snap 0 I6)),(3,.at (.int .i64))]
noncomputable def ZFK:Spec:=Spec.mk [.ro] []
noncomputable def Z6v:LoopDef (Tup Zak×OutD):= .rets Ziq ZFK (Unit) (Bool) (fun k x=>ZjL k x.2.1 x.2.2.1) (fun z=>(((),()),(()))) (fun y=>()) (fun _=>rfl) ZkZ Zlf ZnG
noncomputable def Zva:Nat→List Int→Option Bool
 |0,_=>none
 |k+1,p0=>
  Option.bind (ZjL k p0 (1:Int)) fun z0=>LR.on z0 (fun y0=>some true) fun r0=>some r0
noncomputable def Z5D:FnDef:= .of Zv3 Zak (Bool) (fun k x=>Zva k x.1) ZkZ Zlf ZnG
noncomputable def Zhn:Code:=Tryz.f64.body.getD .skip
noncomputable def Z7t:Ctx (Tup Zak×OutD):={T:=T,G:=[],mvs:=[],no:=0,n:=20,res:=resOf T Zv3 Zak Tryz.f64.results.toList,loops:=[(0,Z6v.E)],regs:=[],conds:=[],cuts:=[]}
theorem Zv5(k:Nat):EnvOK Tryz.prog k Z7t.G:=(EnvOK.nil mixed)
noncomputable def Zdy:Code:=(findLoop 0 Zhn).getD .skip
theorem ZFp(k:Nat)(x:Ziq.D):Z6v.lp (k+1) x=loopK Z7t Z6v 0 Zdy k x:=by kernel_rfl
theorem ZG1(k:Nat):LOK Tryz.prog Z7t k Zdy:=LOK.by [] (by kernel_rfl) AllOK.nil
theorem ZFa(x:Ziq.D):Z6v.lp 0 x=none:=by kernel_rfl
theorem ZDd(k:Nat):EOK Tryz.prog Z7t k Z6v.E (.block 0 (.loop Zdy)):=Zd T_ok Zv5 ZFa ZFp ZG1 k
theorem ZMh(k:Nat)(x:Tup Z5D.ps):Z5D.f (k+1) x=fnK Z5D Z7t Zhn k x:=by kernel_rfl
theorem ZMf(x:Tup Z5D.ps):Z5D.f 0 x=none:=by kernel_rfl
theorem ZMo(k:Nat):LOK Tryz.prog Z7t k Zhn:=LOK.by [(Z6v.E,.block 0 (.loop Zdy))] (by kernel_rfl) (AllOK.cons (ZDd k) AllOK.nil)
theorem ZMg(k:Nat):SoundAt Tryz.prog k 64 Z5D.E:= @Z5 Tryz.prog Z5D Z7t 64 Tryz.f64 Zhn (by kernel_rfl) (by kernel_rfl) (by kernel_rfl) Tryz.func64 (by kernel_rfl) (by kernel_rfl) (by kernel_rfl) T_ok Zv5 ZMo ZMf ZMh k
noncomputable def Zdg:List PK:=[PK.mk (.slice 3 I6) false none false none]
noncomputable def ZB7:List PK:=[PK.mk (.pair I6 (.slice 3 I6)) true none false none]
noncomputable def Zyb(r:List Int):Tup Zdg×OutD:=((r,()),none)
noncomputable def Zzc:Tup Zdg×OutD→Option (List Int)
 |(a,none)=>some (a.1)
 |_=>none
theorem ZHg: ∀b r,Zzc b=some r→Zyb r=b:=by
 rintro ⟨a,_|_⟩ r h<;>cases h;rfl
noncomputable def Zhp:Nat→List Int→List Int→Int→Int→Option (List Int)
 |0,_,_,_,_=>none
 |k+1,o1,v7,v8,v9=>
  if decide (v9<v8)=true then if (0:Int)≤v9 then if v9<(↑(List.length v7):Int) then if decide (List.getD v7 (Int.toNat v9) (0:Int)=1)=true then if List.length o1+List.length [v9]≤(140737488355328/8:Nat) then Zhp k (o1++[v9]) v7 v8 (wrap64 (v9+1)) else none else Zhp k o1 v7 v8 (wrap64 (v9+1)) else none else none else some o1
noncomputable def ZkV:Spec:=Spec.mk [.ro,O1] [(3,.at (.sl 1)),(7,.at (.snap 0 I6)),(8,.at (.int .i64)),(9,.at (.int .i64))]
noncomputable def ZLt:Spec:=Spec.mk [.ro,O1] [(3,.at (.sl 1))]
noncomputable def Z8T:LoopDef (Tup Zdg×OutD):= .plain ZkV ZLt (List Int) (fun k x=>Zhp k x.1.2.1 x.2.2.1 x.2.2.2.1 x.2.2.2.2.1) (fun z=>(((),z,()),((),()))) (fun y=>(y.1.2.1)) (fun _=>rfl)
noncomputable def ZB1:Nat→Int×List Int→Option (List Int)
 |0,_=>none
 |k+1,p0=>
  Option.bind (Zhp k [] p0.2 (↑(List.length p0.2):Int) (0:Int)) fun z0=>some z0
noncomputable def Z84:FnDef:= .of ZB7 Zdg (List Int) (fun k x=>ZB1 k x.1) Zyb Zzc ZHg
noncomputable def Zkz:Code:=Tryz.f67.body.getD .skip
noncomputable def Zb2:Ctx (Tup Zdg×OutD):={T:=T,G:=[],mvs:=[],no:=0,n:=22,res:=resOf T ZB7 Zdg Tryz.f67.results.toList,loops:=[(0,Z8T.E)],regs:=[],conds:=[],cuts:=[]}
theorem ZB3(k:Nat):EnvOK Tryz.prog k Zb2.G:=(EnvOK.nil mixed)
noncomputable def Zgf:Code:=(findLoop 0 Zkz).getD .skip
theorem ZKO(k:Nat)(x:ZkV.D):Z8T.lp (k+1) x=loopK Zb2 Z8T 0 Zgf k x:=by kernel_rfl
theorem ZKr(k:Nat):LOK Tryz.prog Zb2 k Zgf:=LOK.by [] (by kernel_rfl) AllOK.nil
theorem ZJn(x:ZkV.D):Z8T.lp 0 x=none:=by kernel_rfl
theorem ZIG(k:Nat):EOK Tryz.prog Zb2 k Z8T.E (.block 0 (.loop Zgf)):=Zd T_ok ZB3 ZJn ZKO ZKr k
theorem ZPZ(k:Nat)(x:Tup Z84.ps):Z84.f (k+1) x=fnK Z84 Zb2 Zkz k x:=by kernel_rfl
theorem ZQ6(x:Tup Z84.ps):Z84.f 0 x=none:=by kernel_rfl
theorem ZPP(k:Nat):LOK Tryz.prog Zb2 k Zkz:=LOK.by [(Z8T.E,.block 0 (.loop Zgf))] (by kernel_rfl) (AllOK.cons (ZIG k) AllOK.nil)
theorem ZQS(k:Nat):SoundAt Tryz.prog k 67 Z84.E:= @Z5 Tryz.prog Z84 Zb2 67 Tryz.f67 Zkz (by kernel_rfl) (by kernel_rfl) (by kernel_rfl) Tryz.func67 (by kernel_rfl) (by kernel_rfl) (by kernel_rfl) T_ok ZB3 ZPP ZQ6 ZPZ k
noncomputable def Z8D:List PK:=[]
noncomputable def Ztb:List PK:=[PK.mk (.pair I6 (.pair I6 (.slice 76 P6))) true (some (2,76,.pair I6 I6)) false none,PK.mk (.slice 3 I6) false none false none,PK.mk I6 false none false none]
noncomputable def ZqU(r:List (Int×Int)):Tup Z8D×OutD:=((()),some ⟨Ty.pair (Ty.int .i64) (Ty.int .i64),r⟩)
noncomputable def ZjU:Tup Z8D×OutD→Option (List (Int×Int))
 |(a,some ⟨u,ys⟩)=>if h:u=Ty.pair (Ty.int .i64) (Ty.int .i64) then some (castU h ys) else none
 |_=>none
theorem ZAA: ∀b r,ZjU b=some r→ZqU r=b:=by
 rintro ⟨a,o⟩ r h
 cases o with
 |none=>cases h
 |some s=>
  obtain ⟨u,ys⟩:=s
  simp only[ZjU]at h
  split at h
  ·rename_i hu;subst hu;injection h with h;subst h;rfl
  ·cases h
noncomputable def Z2z:Nat→List (Int×Int)→Int→Int→List Int→Int→Int→Int→Option (List (Int×Int))
 |0,_,_,_,_,_,_,_=>none
 |k+1,o1,b2_0,b2_1,v1,v2,v9,v10=>
  if decide (v10<v9)=true then if (0:Int)≤v10 then if v10<(↑(List.length o1):Int) then if decide (Prod.fst (List.getD o1 (Int.toNat v10) ((0:Int),(0:Int)))=6)=true then if (0:Int)≤v10 then if v10<(↑(List.length v1):Int) then if (0:Int)≤v2 then if v2<(↑(List.length v1):Int) then if decide (List.getD v1 (Int.toNat v10) (0:Int)=List.getD v1 (Int.toNat v2) (0:Int))=true then if (0:Int)≤v10 then if v10<(↑(List.length o1):Int) then if (0:Int)≤v10 then if v10<(↑(List.length o1):Int) then Z2z k (List.set o1 (Int.toNat v10) (Prod.fst (List.getD o1 (Int.toNat v10) ((0:Int),(0:Int))),wrap64 ((1:Int)-Prod.snd (List.getD o1 (Int.toNat v10) ((0:Int),(0:Int)))))) b2_0 b2_1 v1 v2 v9 (wrap64 (v10+1)) else none else none else none else none else Z2z k o1 b2_0 b2_1 v1 v2 v9 (wrap64 (v10+1)) else none else none else none else none else Z2z k o1 b2_0 b2_1 v1 v2 v9 (wrap64 (v10+1)) else none else none else some o1
noncomputable def Zh8:Spec:=Spec.mk [.ro,Oi,Of] [(1,.at (.snap 0 I6)),(2,.at (.int .i64)),(3,.at (.ptr 2 0)),(9,.at (.int .i64)),(10,.at (.int .i64))]
noncomputable def ZDl:Spec:=Spec.mk [.ro,Oi] []
noncomputable def Z5T:LoopDef (Tup Z8D×OutD):= .plain Zh8 ZDl (List (Int×Int)) (fun k x=>Z2z k x.1.2.1 x.1.2.2.1.1 x.1.2.2.1.2.1 x.2.1 x.2.2.1 x.2.2.2.2.1 x.2.2.2.2.2.1) (fun z=>(((),z,()),(()))) (fun y=>(y.1.2.1)) (fun _=>rfl)
noncomputable def Zc9:Nat→Int×Int×List (Int×Int)→List Int→Int→Option (List (Int×Int))
 |0,_,_,_=>none
 |k+1,p0,p1,p2=>
  Option.bind (Z2z k p0.2.2 p0.1 p0.2.1 p1 p2 (↑(List.length p0.2.2):Int) (0:Int)) fun z0=>some z0
noncomputable def Z4U:FnDef:= .of Ztb Z8D (List (Int×Int)) (fun k x=>Zc9 k x.1 x.2.1 x.2.2.1) ZqU ZjU ZAA
noncomputable def ZfX:Code:=Tryz.f71.body.getD .skip
noncomputable def Z6j:Ctx (Tup Z8D×OutD):={T:=T,G:=[],mvs:=[],no:=1,n:=44,res:=resOf T Ztb Z8D Tryz.f71.results.toList,loops:=[(0,Z5T.E)],regs:=[],conds:=[],cuts:=[]}
theorem ZrT(k:Nat):EnvOK Tryz.prog k Z6j.G:=(EnvOK.nil mixed)
noncomputable def ZcP:Code:=(findLoop 0 ZfX).getD .skip
theorem ZD7(k:Nat)(x:Zh8.D):Z5T.lp (k+1) x=loopK Z6j Z5T 0 ZcP k x:=by kernel_rfl
theorem ZDJ(k:Nat):LOK Tryz.prog Z6j k ZcP:=LOK.by [] (by kernel_rfl) AllOK.nil
theorem ZDz(x:Zh8.D):Z5T.lp 0 x=none:=by kernel_rfl
theorem ZzZ(k:Nat):EOK Tryz.prog Z6j k Z5T.E (.block 0 (.loop ZcP)):=Zd T_ok ZrT ZDz ZD7 ZDJ k
theorem ZLc(k:Nat)(x:Tup Z4U.ps):Z4U.f (k+1) x=fnK Z4U Z6j ZfX k x:=by kernel_rfl
theorem ZJu(x:Tup Z4U.ps):Z4U.f 0 x=none:=by kernel_rfl
theorem ZLn(k:Nat):LOK Tryz.prog Z6j k ZfX:=LOK.by [(Z5T.E,.block 0 (.loop ZcP))] (by kernel_rfl) (AllOK.cons (ZzZ k) AllOK.nil)
theorem ZKC(k:Nat):SoundAt Tryz.prog k 71 Z4U.E:= @Z5 Tryz.prog Z4U Z6j 71 Tryz.f71 ZfX (by kernel_rfl) (by kernel_rfl) (by kernel_rfl) Tryz.func71 (by kernel_rfl) (by kernel_rfl) (by kernel_rfl) T_ok ZrT ZLn ZJu ZLc k
noncomputable def ZdS:List PK:=[PK.mk .bool false none false none]
noncomputable def Zv8:List PK:=[PK.mk P6 true none false none]
noncomputable def Zt7(r:Bool):Tup ZdS×OutD:=((r,()),none)
noncomputable def Zt6:Tup ZdS×OutD→Option (Bool)
 |(a,none)=>some (a.1)
 |_=>none
theorem ZD5: ∀b r,Zt6 b=some r→Zt7 r=b:=by
 rintro ⟨a,_|_⟩ r h<;>cases h;rfl
noncomputable def Zdq:Nat→Int×Int→Option Bool
 |0,_=>none
 |k+1,p0=>
  if decide (p0.1=(6:Int))=true then some true else some (decide (p0.1=(7:Int)))
noncomputable def Z5I:FnDef:= .of Zv8 ZdS (Bool) (fun k x=>Zdq k x.1) Zt7 Zt6 ZD5
noncomputable def Zn2:Code:=Tryz.f72.body.getD .skip
noncomputable def Zhf:Ctx (Tup ZdS×OutD):={T:=T,G:=[],mvs:=[],no:=0,n:=11,res:=resOf T Zv8 ZdS Tryz.f72.results.toList,loops:=[],regs:=[],conds:=[],cuts:=[]}
theorem ZMb(k:Nat):EnvOK Tryz.prog k Zhf.G:=(EnvOK.nil mixed)
theorem ZM7(k:Nat)(x:Tup Z5I.ps):Z5I.f (k+1) x=fnK Z5I Zhf Zn2 k x:=by kernel_rfl
theorem ZMv(x:Tup Z5I.ps):Z5I.f 0 x=none:=by kernel_rfl
theorem ZM9(k:Nat):LOK Tryz.prog Zhf k Zn2:=LOK.by [] (by kernel_rfl) AllOK.nil
theorem ZN3(k:Nat):SoundAt Tryz.prog k 72 Z5I.E:= @Z5 Tryz.prog Z5I Zhf 72 Tryz.f72 Zn2 (by kernel_rfl) (by kernel_rfl) (by kernel_rfl) Tryz.func72 (by kernel_rfl) (by kernel_rfl) (by kernel_rfl) T_ok ZMb ZM9 ZMv ZM7 k
noncomputable def ZdA:List PK:=[PK.mk (.slice 3 I6) false none false none]
noncomputable def Zvt:List PK:=[PK.mk (.pair I6 (.pair I6 (.slice 76 P6))) true none false none,PK.mk I6 false none false none]
noncomputable def ZsT(r:List Int):Tup ZdA×OutD:=((r,()),none)
noncomputable def ZsH:Tup ZdA×OutD→Option (List Int)
 |(a,none)=>some (a.1)
 |_=>none
theorem ZCP: ∀b r,ZsH b=some r→ZsT r=b:=by
 rintro ⟨a,_|_⟩ r h<;>cases h;rfl
noncomputable def Zhy:Nat→Int×Int×List (Int×Int)→Int→Option (List Int)
 |0,_,_=>none
 |k+1,p0,p1=>
  if p0.2.1=0 then none else if p0.2.1=0 then none else if decide (wrap64 (Int.tdiv p1 p0.2.1)>0)=true then if decide (Int.tmod p1 p0.2.1>0)=true then if decide (wrap64 (Int.tmod p1 p0.2.1+1)<p0.2.1)=true then if decide (wrap64 (wrap64 (Int.tdiv p1 p0.2.1)+1)<p0.1)=true then some ([wrap64 (p1-p0.2.1)]++[wrap64 (p1-1)]++[wrap64 (p1+1)]++[wrap64 (p1+p0.2.1)]) else some ([wrap64 (p1-p0.2.1)]++[wrap64 (p1-1)]++[wrap64 (p1+1)]) else if decide (wrap64 (wrap64 (Int.tdiv p1 p0.2.1)+1)<p0.1)=true then some ([wrap64 (p1-p0.2.1)]++[wrap64 (p1-1)]++[wrap64 (p1+p0.2.1)]) else some ([wrap64 (p1-p0.2.1)]++[wrap64 (p1-1)]) else if decide (wrap64 (Int.tmod p1 p0.2.1+1)<p0.2.1)=true then if decide (wrap64 (wrap64 (Int.tdiv p1 p0.2.1)+1)<p0.1)=true then some ([wrap64 (p1-p0.2.1)]++[wrap64 (p1+1)]++[wrap64 (p1+p0.2.1)]) else some ([wrap64 (p1-p0.2.1)]++[wrap64 (p1+1)]) else if decide (wrap64 (wrap64 (Int.tdiv p1 p0.2.1)+1)<p0.1)=true then some ([wrap64 (p1-p0.2.1)]++[wrap64 (p1+p0.2.1)]) else some [wrap64 (p1-p0.2.1)] else if decide (Int.tmod p1 p0.2.1>0)=true then if decide (wrap64 (Int.tmod p1 p0.2.1+1)<p0.2.1)=true then if decide (wrap64 (wrap64 (Int.tdiv p1 p0.2.1)+1)<p0.1)=true then some ([wrap64 (p1-1)]++[wrap64 (p1+1)]++[wrap64 (p1+p0.2.1)]) else some ([wrap64 (p1-1)]++[wrap64 (p1+1)]) else if decide (wrap64 (wrap64 (Int.tdiv p1 p0.2.1)+1)<p0.1)=true then some ([wrap64 (p1-1)]++[wrap64 (p1+p0.2.1)]) else some [wrap64 (p1-1)] else if decide (wrap64 (Int.tmod p1 p0.2.1+1)<p0.2.1)=true then if decide (wrap64 (wrap64 (Int.tdiv p1 p0.2.1)+1)<p0.1)=true then some ([wrap64 (p1+1)]++[wrap64 (p1+p0.2.1)]) else some [wrap64 (p1+1)] else if decide (wrap64 (wrap64 (Int.tdiv p1 p0.2.1)+1)<p0.1)=true then some [wrap64 (p1+p0.2.1)] else some []
noncomputable def Z5C:FnDef:= .of Zvt ZdA (List Int) (fun k x=>Zhy k x.1 x.2.1) ZsT ZsH ZCP
noncomputable def ZmD:Code:=Tryz.f73.body.getD .skip
noncomputable def Zhi:Ctx (Tup ZdA×OutD):={T:=T,G:=[],mvs:=[],no:=0,n:=56,res:=resOf T Zvt ZdA Tryz.f73.results.toList,loops:=[],regs:=[],conds:=[],cuts:=[]}
theorem ZLF(k:Nat):EnvOK Tryz.prog k Zhi.G:=(EnvOK.nil mixed)
theorem ZMe(k:Nat)(x:Tup Z5C.ps):Z5C.f (k+1) x=fnK Z5C Zhi ZmD k x:=by kernel_rfl
theorem ZMw(x:Tup Z5C.ps):Z5C.f 0 x=none:=by kernel_rfl
theorem ZMs(k:Nat):LOK Tryz.prog Zhi k ZmD:=LOK.by [] (by kernel_rfl) AllOK.nil
theorem ZMx(k:Nat):SoundAt Tryz.prog k 73 Z5C.E:= @Z5 Tryz.prog Z5C Zhi 73 Tryz.f73 ZmD (by kernel_rfl) (by kernel_rfl) (by kernel_rfl) Tryz.func73 (by kernel_rfl) (by kernel_rfl) (by kernel_rfl) T_ok ZLF ZMs ZMw ZMe k
noncomputable def ZgK:List PK:=[PK.mk .bool false none false none]
noncomputable def ZBK:List PK:=[PK.mk P6 true none false none]
noncomputable def Zz8(r:Bool):Tup ZgK×OutD:=((r,()),none)
noncomputable def ZyQ:Tup ZgK×OutD→Option (Bool)
 |(a,none)=>some (a.1)
 |_=>none
theorem ZHf: ∀b r,ZyQ b=some r→Zz8 r=b:=by
 rintro ⟨a,_|_⟩ r h<;>cases h;rfl
noncomputable def ZaT:Nat→Int×Int→Option Bool
 |0,_=>none
 |k+1,p0=>
  if decide (p0.1<(0:Int))=true then some false else if decide (p0.1>(7:Int))=true then some false else if decide (p0.2<(0:Int))=true then some false else if decide (p0.2>(1:Int))=true then some false else if decide (p0.2=(0:Int))=true then some true else if decide (p0.1=(3:Int))=true then some true else some (decide (p0.1=(6:Int)))
noncomputable def Z3O:FnDef:= .of ZBK ZgK (Bool) (fun k x=>ZaT k x.1) Zz8 ZyQ ZHf
noncomputable def Zqe:Code:=Tryz.f74.body.getD .skip
noncomputable def Zkp:Ctx (Tup ZgK×OutD):={T:=T,G:=[],mvs:=[],no:=0,n:=34,res:=resOf T ZBK ZgK Tryz.f74.results.toList,loops:=[],regs:=[],conds:=[],cuts:=[]}
theorem ZPC(k:Nat):EnvOK Tryz.prog k Zkp.G:=(EnvOK.nil mixed)
theorem ZQs(k:Nat)(x:Tup Z3O.ps):Z3O.f (k+1) x=fnK Z3O Zkp Zqe k x:=by kernel_rfl
theorem ZQt(x:Tup Z3O.ps):Z3O.f 0 x=none:=by kernel_rfl
theorem ZPY(k:Nat):LOK Tryz.prog Zkp k Zqe:=LOK.by [] (by kernel_rfl) AllOK.nil
theorem Zkt(k:Nat):SoundAt Tryz.prog k 74 Z3O.E:= @Z5 Tryz.prog Z3O Zkp 74 Tryz.f74 Zqe (by kernel_rfl) (by kernel_rfl) (by kernel_rfl) Tryz.func74 (by kernel_rfl) (by kernel_rfl) (by kernel_rfl) T_ok ZPC ZPY ZQt ZQs k
noncomputable def Zk1:List PK:=[PK.mk .bool false none false none]
noncomputable def ZJb:List PK:=[PK.mk I6 false none false none,PK.mk I6 false none false none,PK.mk I6 false none false none]
noncomputable def ZFc(r:Bool):Tup Zk1×OutD:=((r,()),none)
noncomputable def ZFs:Tup Zk1×OutD→Option (Bool)
 |(a,none)=>some (a.1)
 |_=>none
theorem ZLA: ∀b r,ZFs b=some r→ZFc r=b:=by
 rintro ⟨a,_|_⟩ r h<;>cases h;rfl
noncomputable def Z1f:Nat→Int→Int→Int→Option Bool
 |0,_,_,_=>none
 |k+1,p0,p1,p2=>
  if decide (p0≥p1)=true then some (decide (p0≤p2)) else some false
noncomputable def Z2j:FnDef:= .of ZJb Zk1 (Bool) (fun k x=>Z1f k x.1 x.2.1 x.2.2.1) ZFc ZFs ZLA
noncomputable def Zxm:Code:=Tryz.f76.body.getD .skip
noncomputable def ZoU:Ctx (Tup Zk1×OutD):={T:=T,G:=[],mvs:=[],no:=0,n:=15,res:=resOf T ZJb Zk1 Tryz.f76.results.toList,loops:=[],regs:=[],conds:=[],cuts:=[]}
theorem ZSN(k:Nat):EnvOK Tryz.prog k ZoU.G:=(EnvOK.nil mixed)
theorem ZSP(k:Nat)(x:Tup Z2j.ps):Z2j.f (k+1) x=fnK Z2j ZoU Zxm k x:=by kernel_rfl
theorem ZT1(x:Tup Z2j.ps):Z2j.f 0 x=none:=by kernel_rfl
theorem ZST(k:Nat):LOK Tryz.prog ZoU k Zxm:=LOK.by [] (by kernel_rfl) AllOK.nil
theorem Z9L(k:Nat):SoundAt Tryz.prog k 76 Z2j.E:= @Z5 Tryz.prog Z2j ZoU 76 Tryz.f76 Zxm (by kernel_rfl) (by kernel_rfl) (by kernel_rfl) Tryz.func76 (by kernel_rfl) (by kernel_rfl) (by kernel_rfl) T_ok ZSN ZST ZT1 ZSP k
noncomputable def Z10:List PK:=[PK.mk I6 false none false none]
noncomputable def Zb5:List PK:=[PK.mk (.slice 76 P6) false none false none,PK.mk P6 true none false none]
noncomputable def Z54(r:Int):Tup Z10×OutD:=((r,()),none)
noncomputable def Z5m:Tup Z10×OutD→Option (Int)
 |(a,none)=>some (a.1)
 |_=>none
theorem Z8l: ∀b r,Z5m b=some r→Z54 r=b:=by
 rintro ⟨a,_|_⟩ r h<;>cases h;rfl
noncomputable def Zw:Nat→Int→Int→List (Int×Int)→Int→Int→Option (LR Unit Int)
 |0,_,_,_,_,_=>none
 |k+1,b1_0,b1_1,v0,v7,v8=>
  if decide (v8<v7)=true then if (0:Int)≤v8 then if v8<(↑(List.length v0):Int) then if (decide (b1_0=Prod.fst (List.getD v0 (Int.toNat v8) ((0:Int),(0:Int))))&&(decide (b1_1=Prod.snd (List.getD v0 (Int.toNat v8) ((0:Int),(0:Int))))&&true))=true then some (LR.ret v8) else Zw k b1_0 b1_1 v0 v7 (wrap64 (v8+1)) else none else none else some (LR.go ())
noncomputable def Z4t:Spec:=Spec.mk [.ro,Ol] [(0,.at (.snap 0 P6)),(3,.at (.ptr 1 0)),(7,.at (.int .i64)),(8,.at (.int .i64))]
noncomputable def ZhJ:Spec:=Spec.mk [.ro] []
noncomputable def ZJ:LoopDef (Tup Z10×OutD):= .rets Z4t ZhJ (Unit) (Int) (fun k x=>Zw k x.1.2.1.1 x.1.2.1.2.1 x.2.1 x.2.2.2.1 x.2.2.2.2.1) (fun z=>(((),()),(()))) (fun y=>()) (fun _=>rfl) Z54 Z5m Z8l
noncomputable def Z13:Nat→List (Int×Int)→Int×Int→Option Int
 |0,_,_=>none
 |k+1,p0,p1=>
  Option.bind (Zw k p1.1 p1.2 p0 (↑(List.length p0):Int) (0:Int)) fun z0=>LR.on z0 (fun y0=>some (-1:Int)) fun r0=>some r0
noncomputable def Zt:FnDef:= .of Zb5 Z10 (Int) (fun k x=>Z13 k x.1 x.2.1) Z54 Z5m Z8l
noncomputable def Z34:Code:=Tryz.f81.body.getD .skip
noncomputable def ZE:Ctx (Tup Z10×OutD):={T:=T,G:=[],mvs:=[],no:=0,n:=19,res:=resOf T Zb5 Z10 Tryz.f81.results.toList,loops:=[(0,ZJ.E)],regs:=[],conds:=[],cuts:=[]}
theorem Zb6(k:Nat):EnvOK Tryz.prog k ZE.G:=(EnvOK.nil mixed)
noncomputable def Z2m:Code:=(findLoop 0 Z34).getD .skip
theorem ZhD(k:Nat)(x:Z4t.D):ZJ.lp (k+1) x=loopK ZE ZJ 0 Z2m k x:=by kernel_rfl
theorem ZhL(k:Nat):LOK Tryz.prog ZE k Z2m:=LOK.by [] (by kernel_rfl) AllOK.nil
theorem ZhE(x:Z4t.D):ZJ.lp 0 x=none:=by kernel_rfl
theorem Zh0(k:Nat):EOK Tryz.prog ZE k ZJ.E (.block 0 (.loop Z2m)):=Zd T_ok Zb6 ZhE ZhD ZhL k
theorem ZjP(k:Nat)(x:Tup Zt.ps):Zt.f (k+1) x=fnK Zt ZE Z34 k x:=by kernel_rfl
theorem ZjS(x:Tup Zt.ps):Zt.f 0 x=none:=by kernel_rfl
theorem ZjD(k:Nat):LOK Tryz.prog ZE k Z34:=LOK.by [(ZJ.E,.block 0 (.loop Z2m))] (by kernel_rfl) (AllOK.cons (Zh0 k) AllOK.nil)
theorem ZjH(k:Nat):SoundAt Tryz.prog k 81 Zt.E:= @Z5 Tryz.prog Zt ZE 81 Tryz.f81 Z34 (by kernel_rfl) (by kernel_rfl) (by kernel_rfl) Tryz.func81 (by kernel_rfl) (by kernel_rfl) (by kernel_rfl) T_ok Zb6 ZjD ZjS ZjP k
noncomputable def Zct:List PK:=[PK.mk I6 false none false none]
noncomputable def Zs7:List PK:=[PK.mk (.pair I6 (.pair I6 (.slice 76 P6))) true none false none,PK.mk T6 true none false none]
noncomputable def Zqx(r:Int):Tup Zct×OutD:=((r,()),none)
noncomputable def Zqy:Tup Zct×OutD→Option (Int)
 |(a,none)=>some (a.1)
 |_=>none
theorem ZzS: ∀b r,Zqy b=some r→Zqx r=b:=by
 rintro ⟨a,_|_⟩ r h<;>cases h;rfl
noncomputable def ZfM:Nat→Int×Int×List (Int×Int)→Int×Int×Int→Option Int
 |0,_,_=>none
 |k+1,p0,p1=>
  if decide (p1.1=1)=true then some p1.2.2 else if decide (p1.1=2)=true then some p0.2.1 else some (wrap64 (p0.2.1+1))
noncomputable def Z4M:FnDef:= .of Zs7 Zct (Int) (fun k x=>ZfM k x.1 x.2.1) Zqx Zqy ZzS
noncomputable def ZkX:Code:=Tryz.f82.body.getD .skip
noncomputable def Zge:Ctx (Tup Zct×OutD):={T:=T,G:=[],mvs:=[],no:=0,n:=18,res:=resOf T Zs7 Zct Tryz.f82.results.toList,loops:=[],regs:=[],conds:=[],cuts:=[]}
theorem ZKZ(k:Nat):EnvOK Tryz.prog k Zge.G:=(EnvOK.nil mixed)
theorem ZJo(k:Nat)(x:Tup Z4M.ps):Z4M.f (k+1) x=fnK Z4M Zge ZkX k x:=by kernel_rfl
theorem ZLz(x:Tup Z4M.ps):Z4M.f 0 x=none:=by kernel_rfl
theorem ZL4(k:Nat):LOK Tryz.prog Zge k ZkX:=LOK.by [] (by kernel_rfl) AllOK.nil
theorem ZJZ(k:Nat):SoundAt Tryz.prog k 82 Z4M.E:= @Z5 Tryz.prog Z4M Zge 82 Tryz.f82 ZkX (by kernel_rfl) (by kernel_rfl) (by kernel_rfl) Tryz.func82 (by kernel_rfl) (by kernel_rfl) (by kernel_rfl) T_ok ZKZ ZL4 ZLz ZJo k
noncomputable def Z6x:List PK:=[PK.mk I6 false none false none]
noncomputable def Zpj:List PK:=[PK.mk (.pair I6 (.pair I6 (.pair (.slice 76 P6) (.pair (.slice 3 I6) (.slice 3 I6))))) true none false none]
noncomputable def ZnB(r:Int):Tup Z6x×OutD:=((r,()),none)
noncomputable def Znv:Tup Z6x×OutD→Option (Int)
 |(a,none)=>some (a.1)
 |_=>none
theorem Zwn: ∀b r,Znv b=some r→ZnB r=b:=by
 rintro ⟨a,_|_⟩ r h<;>cases h;rfl
noncomputable def Z57:Nat→Int→Int→List (Int×Int)→List Int→List Int→Int→Int→Option Int
 |0,_,_,_,_,_,_,_=>none
 |k+1,b1_0,b1_1,b1_2,b1_3,b1_4,v3,v4=>
  if decide (v4<wrap64 (b1_0*b1_1))=true then Z57 k b1_0 b1_1 b1_2 b1_3 b1_4 (wrap64 (v3*wrap64 ((↑(List.length b1_2):Int)+1))) (wrap64 (v4+1)) else some v3
noncomputable def ZeS:Spec:=Spec.mk [.ro,O4] [(1,.at (.ptr 1 0)),(3,.at (.int .i64)),(4,.at (.int .i64))]
noncomputable def Zyi:Spec:=Spec.mk [.ro] [(3,.at (.int .i64))]
noncomputable def Z4z:LoopDef (Tup Z6x×OutD):= .plain ZeS Zyi (Int) (fun k x=>Z57 k x.1.2.1.1 x.1.2.1.2.1 x.1.2.1.2.2.1 x.1.2.1.2.2.2.1 x.1.2.1.2.2.2.2.1 x.2.2.1 x.2.2.2.1) (fun z=>(((),()),(z,()))) (fun y=>(y.2.1)) (fun _=>rfl)
noncomputable def Zdr:Nat→Int×Int×List (Int×Int)×List Int×List Int→Option Int
 |0,_=>none
 |k+1,p0=>
  Option.bind (Z57 k p0.1 p0.2.1 p0.2.2.1 p0.2.2.2.1 p0.2.2.2.2 (1:Int) (0:Int)) fun z0=>some z0
noncomputable def Z3v:FnDef:= .of Zpj Z6x (Int) (fun k x=>Zdr k x.1) ZnB Znv Zwn
noncomputable def ZdG:Code:=Tryz.f84.body.getD .skip
noncomputable def Z4N:Ctx (Tup Z6x×OutD):={T:=T,G:=[],mvs:=[],no:=0,n:=21,res:=resOf T Zpj Z6x Tryz.f84.results.toList,loops:=[(0,Z4z.E)],regs:=[],conds:=[],cuts:=[]}
theorem Zp1(k:Nat):EnvOK Tryz.prog k Z4N.G:=(EnvOK.nil mixed)
noncomputable def Zaq:Code:=(findLoop 0 ZdG).getD .skip
theorem Zxu(k:Nat)(x:ZeS.D):Z4z.lp (k+1) x=loopK Z4N Z4z 0 Zaq k x:=by kernel_rfl
theorem Zzg(k:Nat):LOK Tryz.prog Z4N k Zaq:=LOK.by [] (by kernel_rfl) AllOK.nil
theorem ZyU(x:ZeS.D):Z4z.lp 0 x=none:=by kernel_rfl
theorem Zx8(k:Nat):EOK Tryz.prog Z4N k Z4z.E (.block 0 (.loop Zaq)):=Zd T_ok Zp1 ZyU Zxu Zzg k
theorem ZDZ(k:Nat)(x:Tup Z3v.ps):Z3v.f (k+1) x=fnK Z3v Z4N ZdG k x:=by kernel_rfl
theorem ZEU(x:Tup Z3v.ps):Z3v.f 0 x=none:=by kernel_rfl
theorem ZF1(k:Nat):LOK Tryz.prog Z4N k ZdG:=LOK.by [(Z4z.E,.block 0 (.loop Zaq))] (by kernel_rfl) (AllOK.cons (Zx8 k) AllOK.nil)
theorem ZEr(k:Nat):SoundAt Tryz.prog k 84 Z3v.E:= @Z5 Tryz.prog Z3v Z4N 84 Tryz.f84 ZdG (by kernel_rfl) (by kernel_rfl) (by kernel_rfl) Tryz.func84 (by kernel_rfl) (by kernel_rfl) (by kernel_rfl) T_ok Zp1 ZF1 ZEU ZDZ k
noncomputable def Z8H:List PK:=[PK.mk (.pair I6 (.pair I6 (.slice 76 P6))) true none false none]
noncomputable def ZzD:List PK:=[PK.mk (.pair I6 (.pair I6 (.pair (.slice 76 P6) (.pair (.slice 3 I6) (.slice 3 I6))))) true none false none,PK.mk I6 false none false none]
noncomputable def ZuW(r:Int×Int×List (Int×Int)):Tup Z8H×OutD:=((r,()),none)
noncomputable def Zuz:Tup Z8H×OutD→Option (Int×Int×List (Int×Int))
 |(a,none)=>some (a.1)
 |_=>none
theorem ZFg: ∀b r,Zuz b=some r→ZuW r=b:=by
 rintro ⟨a,_|_⟩ r h<;>cases h;rfl
noncomputable def Z7J:Nat→Int→Int→List (Int×Int)→List Int→List Int→Int→Int→List (Int×Int)→Int→Option (Int×Int×List (Int×Int)×List Int×List Int×Int×Int×List (Int×Int)×Int×Int×List (Int×Int)×Int):=fun k b1_0 b1_1 b1_2 b1_3 b1_4 b2_0 b2_1 o3 v1=>
  if (0:Int)≤wrap64 (b1_0*b1_1) then if Int.toNat (wrap64 (b1_0*b1_1))*(16:Nat)≤(281474976710656:Nat) then some (b1_0,b1_1,b1_2,b1_3,b1_4,b2_0,b2_1,o3,b1_0,b1_1,List.replicate (Int.toNat (wrap64 (b1_0*b1_1))) ((0:Int),(0:Int)),v1) else none else none
noncomputable def ZdU:Nat→Int→Int→List (Int×Int)→List Int→List Int→Int→Int→List (Int×Int)→Int→Option (List (Int×Int×List (Int×Int)×List Int×List Int×Int×Int×List (Int×Int)×Int×Int×List (Int×Int)×Int)):=fun k b1_0 b1_1 b1_2 b1_3 b1_4 b2_0 b2_1 o3 v1=>
  joinL (if (0:Int)≤wrap64 (b1_0*b1_1) then if Int.toNat (wrap64 (b1_0*b1_1))*(16:Nat)≤(281474976710656:Nat) then some [(b1_0,b1_1,b1_2,b1_3,b1_4,b2_0,b2_1,o3,b1_0,b1_1,List.replicate (Int.toNat (wrap64 (b1_0*b1_1))) ((0:Int),(0:Int)),v1)] else none else none) (if (0:Int)≤wrap64 (b1_0*b1_1) then if Int.toNat (wrap64 (b1_0*b1_1))*(16:Nat)≤(281474976710656:Nat) then some [(b1_0,b1_1,b1_2,b1_3,b1_4,b2_0,b2_1,o3,b1_0,b1_1,List.replicate (Int.toNat (wrap64 (b1_0*b1_1))) ((0:Int),(0:Int)),v1)] else none else none)
noncomputable def ZpB:Spec:=Spec.mk [.ro,O4,Oa,O0] [(1,.at (.int .i64)),(2,.at (.ptr 1 0)),(4,.at (.ptr 2 0))]
noncomputable def ZGe:Spec:=Spec.mk [.ro,O4,Oa,O0,Od,O0] [(1,.at (.int .i64)),(2,.at (.ptr 1 0)),(4,.at (.ptr 2 0)),(5,.at (.ptr 4 0))]
noncomputable def Z6H:LoopDef (Tup Z8H×OutD):= .plain ZpB ZGe (Int×Int×List (Int×Int)×List Int×List Int×Int×Int×List (Int×Int)×Int×Int×List (Int×Int)×Int) (fun k x=>Z7J k x.1.2.1.1 x.1.2.1.2.1 x.1.2.1.2.2.1 x.1.2.1.2.2.2.1 x.1.2.1.2.2.2.2.1 x.1.2.2.1.1 x.1.2.2.1.2.1 x.1.2.2.2.1 x.2.1) (fun z=>(((),(z.1,z.2.1,z.2.2.1,z.2.2.2.1,z.2.2.2.2.1,()),(z.2.2.2.2.2.1,z.2.2.2.2.2.2.1,(),()),z.2.2.2.2.2.2.2.1,(z.2.2.2.2.2.2.2.2.1,z.2.2.2.2.2.2.2.2.2.1,(),()),z.2.2.2.2.2.2.2.2.2.2.1,()),(z.2.2.2.2.2.2.2.2.2.2.2,(),(),(),()))) (fun y=>(y.1.2.1.1,y.1.2.1.2.1,y.1.2.1.2.2.1,y.1.2.1.2.2.2.1,y.1.2.1.2.2.2.2.1,y.1.2.2.1.1,y.1.2.2.1.2.1,y.1.2.2.2.1,y.1.2.2.2.2.1.1,y.1.2.2.2.2.1.2.1,y.1.2.2.2.2.2.1,y.2.1)) (fun _=>rfl)
theorem ZFR(k:Nat)(b1_0:Int)(b1_1:Int)(b1_2:List (Int×Int))(b1_3:List Int)(b1_4:List Int)(b2_0:Int)(b2_1:Int)(o3:List (Int×Int))(v1:Int):ZdU k b1_0 b1_1 b1_2 b1_3 b1_4 b2_0 b2_1 o3 v1=repl 2 (Z7J k b1_0 b1_1 b1_2 b1_3 b1_4 b2_0 b2_1 o3 v1):=by
 first
 |(simp only[ZdU,Z7J,Z9,Zc,Z6,Z8,Z7,Z3,if_true];done)
 |(simp only[ZdU,Z7J,Z9,Zc,Z6,Z8,Z7,Z3,if_true];simp only[Z1g,Z1i,Z2p,Z3];simp only[Z3E];exact Z1F ⟨fun h=>by simp only[h,and_self],fun h=>by simp only[h,and_self]⟩)
noncomputable def Z6k:Nat→Int→Int→List (Int×Int)→List Int→List Int→Int→Int→List (Int×Int)→Int→Int→List (Int×Int)→Int→Int→Option (Int×Int×List (Int×Int)×Int×Int×List (Int×Int))
 |0,_,_,_,_,_,_,_,_,_,_,_,_,_=>none
 |k+1,b1_0,b1_1,b1_2,b1_3,b1_4,b2_0,b2_1,o3,b4_0,b4_1,o5,v1,v6=>
  if decide (v6≥0)=true then if addS (↑(List.length b1_2):Int) (1:Int)=0 then none else if addS (↑(List.length b1_2):Int) (1:Int)=0 then none else if decide (Int.tmod v1 (addS (↑(List.length b1_2):Int) (1:Int))>0)=true then if (0:Int)≤wrap64 (Int.tmod v1 (addS (↑(List.length b1_2):Int) (1:Int))-1) then if wrap64 (Int.tmod v1 (addS (↑(List.length b1_2):Int) (1:Int))-1)<(↑(List.length b1_2):Int) then if (0:Int)≤v6 then if v6<(↑(List.length o5):Int) then Z6k k b1_0 b1_1 b1_2 b1_3 b1_4 b2_0 b2_1 o3 b4_0 b4_1 (List.set o5 (Int.toNat v6) (Prod.fst (List.getD b1_2 (Int.toNat (wrap64 (Int.tmod v1 (addS (↑(List.length b1_2):Int) (1:Int))-1))) ((0:Int),(0:Int))),Prod.snd (List.getD b1_2 (Int.toNat (wrap64 (Int.tmod v1 (addS (↑(List.length b1_2):Int) (1:Int))-1))) ((0:Int),(0:Int))))) (wrap64 (Int.tdiv v1 (addS (↑(List.length b1_2):Int) (1:Int)))) (wrap64 (v6-1)) else none else none else none else none else Z6k k b1_0 b1_1 b1_2 b1_3 b1_4 b2_0 b2_1 o3 b4_0 b4_1 o5 (wrap64 (Int.tdiv v1 (addS (↑(List.length b1_2):Int) (1:Int)))) (wrap64 (v6-1)) else some (b2_0,b2_1,o3,b4_0,b4_1,o5)
noncomputable def ZjF:Spec:=Spec.mk [.ro,O4,Oa,O0,Od,O0] [(1,.at (.int .i64)),(2,.at (.ptr 1 0)),(4,.at (.ptr 2 0)),(5,.at (.ptr 4 0)),(6,.at (.int .i64))]
noncomputable def ZI1:Spec:=Spec.mk [.ro,Obq,O0,O6,O0] [(4,.at (.ptr 1 0)),(5,.at (.ptr 3 0))]
noncomputable def Z7G:LoopDef (Tup Z8H×OutD):= .plain ZjF ZI1 (Int×Int×List (Int×Int)×Int×Int×List (Int×Int)) (fun k x=>Z6k k x.1.2.1.1 x.1.2.1.2.1 x.1.2.1.2.2.1 x.1.2.1.2.2.2.1 x.1.2.1.2.2.2.2.1 x.1.2.2.1.1 x.1.2.2.1.2.1 x.1.2.2.2.1 x.1.2.2.2.2.1.1 x.1.2.2.2.2.1.2.1 x.1.2.2.2.2.2.1 x.2.1 x.2.2.2.2.2.1) (fun z=>(((),(z.1,z.2.1,(),()),z.2.2.1,(z.2.2.2.1,z.2.2.2.2.1,(),()),z.2.2.2.2.2,()),((),(),()))) (fun y=>(y.1.2.1.1,y.1.2.1.2.1,y.1.2.2.1,y.1.2.2.2.1.1,y.1.2.2.2.1.2.1,y.1.2.2.2.2.1)) (fun _=>rfl)
noncomputable def Ziv:Nat→Int×Int×List (Int×Int)×List Int×List Int→Int→Option (Int×Int×List (Int×Int))
 |0,_,_=>none
 |k+1,p0,p1=>
  Option.bind (Z7J k p0.1 p0.2.1 p0.2.2.1 p0.2.2.2.1 p0.2.2.2.2 (0:Int) (0:Int) [] p1) fun z0=>Option.bind (Z6k k z0.1 z0.2.1 z0.2.2.1 z0.2.2.2.1 z0.2.2.2.2.1 z0.2.2.2.2.2.1 z0.2.2.2.2.2.2.1 z0.2.2.2.2.2.2.2.1 z0.2.2.2.2.2.2.2.2.1 z0.2.2.2.2.2.2.2.2.2.1 z0.2.2.2.2.2.2.2.2.2.2.1 z0.2.2.2.2.2.2.2.2.2.2.2 (wrap64 ((↑(List.length z0.2.2.2.2.2.2.2.2.2.2.1):Int)-1))) fun z1=>some (z1.2.2.2.1,z1.2.2.2.2.1,z1.2.2.2.2.2)
noncomputable def Z6C:FnDef:= .of ZzD Z8H (Int×Int×List (Int×Int)) (fun k x=>Ziv k x.1 x.2.1) ZuW Zuz ZFg
noncomputable def Zfa:Code:=Tryz.f85.body.getD .skip
noncomputable def Z1W:Ctx (Tup Z8H×OutD):={T:=T,G:=[],mvs:=[200031,200037],no:=0,n:=52,res:=resOf T ZzD Z8H Tryz.f85.results.toList,loops:=[(0,Z7G.E)],regs:=[(1,Z6H.E)],conds:=[],cuts:=[]}
theorem Zo9(k:Nat):EnvOK Tryz.prog k Z1W.G:=(EnvOK.nil mixed)
noncomputable def ZhX:Array Oper:=(findReg 1 Zfa).getD #[]
theorem ZEs(k:Nat)(x:ZpB.D):execD Z1W.T Z1W.G Z1W.mvs k ZhX (Z6H.inp.st Z1W.n x) (outK Z1W Z6H)=ZdU k x.1.2.1.1 x.1.2.1.2.1 x.1.2.1.2.2.1 x.1.2.1.2.2.2.1 x.1.2.1.2.2.2.2.1 x.1.2.2.1.1 x.1.2.2.1.2.1 x.1.2.2.2.1 x.2.1:=by kernel_rfl
theorem ZCJ(k:Nat):EOK Tryz.prog Z1W k Z6H.E (.region 1 ZhX true):=Z4m (D:=Z6H) (m:=2) T_ok (Zo9 k) (fun x=>(ZEs k x).trans (ZFR k x.1.2.1.1 x.1.2.1.2.1 x.1.2.1.2.2.1 x.1.2.1.2.2.2.1 x.1.2.1.2.2.2.2.1 x.1.2.2.1.1 x.1.2.2.1.2.1 x.1.2.2.2.1 x.2.1))
noncomputable def ZeG:Code:=(findLoop 0 Zfa).getD .skip
theorem ZHN(k:Nat)(x:ZjF.D):Z7G.lp (k+1) x=loopK Z1W Z7G 0 ZeG k x:=by kernel_rfl
theorem ZIC(k:Nat):LOK Tryz.prog Z1W k ZeG:=LOK.by [] (by kernel_rfl) AllOK.nil
theorem ZGX(x:ZjF.D):Z7G.lp 0 x=none:=by kernel_rfl
theorem ZFU(k:Nat):EOK Tryz.prog Z1W k Z7G.E (.block 0 (.loop ZeG)):=Zd T_ok Zo9 ZGX ZHN ZIC k
theorem ZO5(k:Nat)(x:Tup Z6C.ps):Z6C.f (k+1) x=fnK Z6C Z1W Zfa k x:=by kernel_rfl
theorem ZNS(x:Tup Z6C.ps):Z6C.f 0 x=none:=by kernel_rfl
theorem ZNH(k:Nat):LOK Tryz.prog Z1W k Zfa:=LOK.by [(Z6H.E,.region 1 ZhX true),(Z7G.E,.block 0 (.loop ZeG))] (by kernel_rfl) (AllOK.cons (ZCJ k) (AllOK.cons (ZFU k) AllOK.nil))
theorem ZNi(k:Nat):SoundAt Tryz.prog k 85 Z6C.E:= @Z5 Tryz.prog Z6C Z1W 85 Tryz.f85 Zfa (by kernel_rfl) (by kernel_rfl) (by kernel_rfl) Tryz.func85 (by kernel_rfl) (by kernel_rfl) (by kernel_rfl) T_ok Zo9 ZNH ZNS ZO5 k
noncomputable def Z11:List PK:=[PK.mk .bool false none false none]
noncomputable def Zbg:List PK:=[PK.mk (.slice 40 T6) false none false none,PK.mk (.slice 40 T6) false none false none]
noncomputable def Z59(r:Bool):Tup Z11×OutD:=((r,()),none)
noncomputable def Z5g:Tup Z11×OutD→Option (Bool)
 |(a,none)=>some (a.1)
 |_=>none
theorem Z8r: ∀b r,Z5g b=some r→Z59 r=b:=by
 rintro ⟨a,_|_⟩ r h<;>cases h;rfl
noncomputable def ZO:Nat→List (Int×Int×Int)→List (Int×Int×Int)→Int→Int→Option (LR Unit Bool)
 |0,_,_,_,_=>none
 |k+1,v0,v1,v12,v13=>
  if decide (v13<v12)=true then if (0:Int)≤v13 then if v13<(↑(List.length v0):Int) then if (0:Int)≤v13 then if v13<(↑(List.length v1):Int) then if (!(decide (Prod.fst (List.getD v0 (Int.toNat v13) ((0:Int),(0:Int),(0:Int)))=Prod.fst (List.getD v1 (Int.toNat v13) ((0:Int),(0:Int),(0:Int))))&&(decide (Prod.fst (Prod.snd (List.getD v0 (Int.toNat v13) ((0:Int),(0:Int),(0:Int))))=Prod.fst (Prod.snd (List.getD v1 (Int.toNat v13) ((0:Int),(0:Int),(0:Int)))))&&(decide (Prod.snd (Prod.snd (List.getD v0 (Int.toNat v13) ((0:Int),(0:Int),(0:Int))))=Prod.snd (Prod.snd (List.getD v1 (Int.toNat v13) ((0:Int),(0:Int),(0:Int)))))&&true))))=true then some (LR.ret false) else ZO k v0 v1 v12 (wrap64 (v13+1)) else none else none else none else none else some (LR.go ())
noncomputable def Z4u:Spec:=Spec.mk [.ro] [(0,.at (.snap 0 T6)),(1,.at (.snap 0 T6)),(12,.at (.int .i64)),(13,.at (.int .i64))]
noncomputable def ZhC:Spec:=Spec.mk [.ro] []
noncomputable def ZI:LoopDef (Tup Z11×OutD):= .rets Z4u ZhC (Unit) (Bool) (fun k x=>ZO k x.2.1 x.2.2.1 x.2.2.2.1 x.2.2.2.2.1) (fun z=>(((),()),(()))) (fun y=>()) (fun _=>rfl) Z59 Z5g Z8r
noncomputable def Z3a:Nat→List (Int×Int×Int)→List (Int×Int×Int)→Option Bool
 |0,_,_=>none
 |k+1,p0,p1=>
  if decide ((↑(List.length p0):Int)≠(↑(List.length p1):Int))=true then some false else Option.bind (ZO k p0 p1 (↑(List.length p0):Int) (0:Int)) fun z0=>LR.on z0 (fun y0=>some true) fun r0=>some r0
noncomputable def Zv:FnDef:= .of Zbg Z11 (Bool) (fun k x=>Z3a k x.1 x.2.1) Z59 Z5g Z8r
noncomputable def Z36:Code:=Tryz.f92.body.getD .skip
noncomputable def ZF:Ctx (Tup Z11×OutD):={T:=T,G:=[],mvs:=[],no:=0,n:=26,res:=resOf T Zbg Z11 Tryz.f92.results.toList,loops:=[(0,ZI.E)],regs:=[],conds:=[],cuts:=[]}
theorem Zbe(k:Nat):EnvOK Tryz.prog k ZF.G:=(EnvOK.nil mixed)
noncomputable def Z2k:Code:=(findLoop 0 Z36).getD .skip
theorem ZhK(k:Nat)(x:Z4u.D):ZI.lp (k+1) x=loopK ZF ZI 0 Z2k k x:=by kernel_rfl
theorem ZhH(k:Nat):LOK Tryz.prog ZF k Z2k:=LOK.by [] (by kernel_rfl) AllOK.nil
theorem ZhI(x:Z4u.D):ZI.lp 0 x=none:=by kernel_rfl
theorem ZgX(k:Nat):EOK Tryz.prog ZF k ZI.E (.block 0 (.loop Z2k)):=Zd T_ok Zbe ZhI ZhK ZhH k
theorem ZjI(k:Nat)(x:Tup Zv.ps):Zv.f (k+1) x=fnK Zv ZF Z36 k x:=by kernel_rfl
theorem Zjy(x:Tup Zv.ps):Zv.f 0 x=none:=by kernel_rfl
theorem Zjx(k:Nat):LOK Tryz.prog ZF k Z36:=LOK.by [(ZI.E,.block 0 (.loop Z2k))] (by kernel_rfl) (AllOK.cons (ZgX k) AllOK.nil)
theorem Zjw(k:Nat):SoundAt Tryz.prog k 92 Zv.E:= @Z5 Tryz.prog Zv ZF 92 Tryz.f92 Z36 (by kernel_rfl) (by kernel_rfl) (by kernel_rfl) Tryz.func92 (by kernel_rfl) (by kernel_rfl) (by kernel_rfl) T_ok Zbe Zjx Zjy ZjI k
noncomputable def Z5M:List PK:=[PK.mk (.slice 3 I6) false none false none]
noncomputable def ZnA:List PK:=[PK.mk (.pair I6 (.pair I6 (.slice 76 P6))) true none false none,PK.mk (.slice 58 T6) false none false none]
noncomputable def Zm6(r:List Int):Tup Z5M×OutD:=((r,()),none)
noncomputable def ZlX:Tup Z5M×OutD→Option (List Int)
 |(a,none)=>some (a.1)
 |_=>none
theorem Zuu: ∀b r,ZlX b=some r→Zm6 r=b:=by
 rintro ⟨a,_|_⟩ r h<;>cases h;rfl
noncomputable def Z4K:Nat→Int→Int→List (Int×Int)→List Int→List (Int×Int×Int)→Int→Int→Option (List Int)
 |0,_,_,_,_,_,_,_=>none
 |k+1,b1_0,b1_1,b1_2,o2,v12,v13,v14=>
  if decide (v14<v13)=true then if (0:Int)≤v14 then if v14<(↑(List.length v12):Int) then if (0:Int)≤wrap64 (wrap64 (Prod.fst (Prod.snd (List.getD v12 (Int.toNat v14) ((0:Int),(0:Int),(0:Int))))*b1_1)+Prod.snd (Prod.snd (List.getD v12 (Int.toNat v14) ((0:Int),(0:Int),(0:Int))))) then if wrap64 (wrap64 (Prod.fst (Prod.snd (List.getD v12 (Int.toNat v14) ((0:Int),(0:Int),(0:Int))))*b1_1)+Prod.snd (Prod.snd (List.getD v12 (Int.toNat v14) ((0:Int),(0:Int),(0:Int)))))<(↑(List.length o2):Int) then Z4K k b1_0 b1_1 b1_2 (List.set o2 (Int.toNat (wrap64 (wrap64 (Prod.fst (Prod.snd (List.getD v12 (Int.toNat v14) ((0:Int),(0:Int),(0:Int))))*b1_1)+Prod.snd (Prod.snd (List.getD v12 (Int.toNat v14) ((0:Int),(0:Int),(0:Int))))))) (Prod.fst (List.getD v12 (Int.toNat v14) ((0:Int),(0:Int),(0:Int))))) v12 v13 (wrap64 (v14+1)) else none else none else none else none else some o2
noncomputable def Ze4:Spec:=Spec.mk [.ro,O2,O1] [(2,.at (.ptr 1 0)),(5,.at (.sl 2)),(12,.at (.snap 0 T6)),(13,.at (.int .i64)),(14,.at (.int .i64))]
noncomputable def Zx7:Spec:=Spec.mk [.ro,O1] [(5,.at (.sl 1))]
noncomputable def Z3R:LoopDef (Tup Z5M×OutD):= .plain Ze4 Zx7 (List Int) (fun k x=>Z4K k x.1.2.1.1 x.1.2.1.2.1 x.1.2.1.2.2.1 x.1.2.2.1 x.2.2.2.1 x.2.2.2.2.1 x.2.2.2.2.2.1) (fun z=>(((),z,()),((),()))) (fun y=>(y.1.2.1)) (fun _=>rfl)
noncomputable def ZcC:Nat→Int×Int×List (Int×Int)→List (Int×Int×Int)→Option (List Int)
 |0,_,_=>none
 |k+1,p0,p1=>
  if Int.toNat (↑(List.length p0.2.2):Int)*(8:Nat)≤(281474976710656:Nat) then Option.bind (Z4K k p0.1 p0.2.1 p0.2.2 (List.replicate (Int.toNat (↑(List.length p0.2.2):Int)) (0:Int)) p1 (↑(List.length p1):Int) (0:Int)) fun z0=>some z0 else none
noncomputable def Z2U:FnDef:= .of ZnA Z5M (List Int) (fun k x=>ZcC k x.1 x.2.1) Zm6 ZlX Zuu
noncomputable def ZcN:Code:=Tryz.f93.body.getD .skip
noncomputable def Z4f:Ctx (Tup Z5M×OutD):={T:=T,G:=[],mvs:=[],no:=0,n:=32,res:=resOf T ZnA Z5M Tryz.f93.results.toList,loops:=[(0,Z3R.E)],regs:=[],conds:=[],cuts:=[]}
theorem Zni(k:Nat):EnvOK Tryz.prog k Z4f.G:=(EnvOK.nil mixed)
noncomputable def Z9p:Code:=(findLoop 0 ZcN).getD .skip
theorem Zwu(k:Nat)(x:Ze4.D):Z3R.lp (k+1) x=loopK Z4f Z3R 0 Z9p k x:=by kernel_rfl
theorem ZwD(k:Nat):LOK Tryz.prog Z4f k Z9p:=LOK.by [] (by kernel_rfl) AllOK.nil
theorem Zwf(x:Ze4.D):Z3R.lp 0 x=none:=by kernel_rfl
theorem Zuo(k:Nat):EOK Tryz.prog Z4f k Z3R.E (.block 0 (.loop Z9p)):=Zd T_ok Zni Zwf Zwu ZwD k
theorem ZDS(k:Nat)(x:Tup Z2U.ps):Z2U.f (k+1) x=fnK Z2U Z4f ZcN k x:=by kernel_rfl
theorem ZDQ(x:Tup Z2U.ps):Z2U.f 0 x=none:=by kernel_rfl
theorem ZDL(k:Nat):LOK Tryz.prog Z4f k ZcN:=LOK.by [(Z3R.E,.block 0 (.loop Z9p))] (by kernel_rfl) (AllOK.cons (Zuo k) AllOK.nil)
theorem ZDu(k:Nat):SoundAt Tryz.prog k 93 Z2U.E:= @Z5 Tryz.prog Z2U Z4f 93 Tryz.f93 ZcN (by kernel_rfl) (by kernel_rfl) (by kernel_rfl) Tryz.func93 (by kernel_rfl) (by kernel_rfl) (by kernel_rfl) T_ok Zni ZDL ZDQ ZDS k
noncomputable def ZhQ:List PK:=[PK.mk (.slice 3 I6) false none false none]
noncomputable def ZG0:List PK:=[PK.mk (.slice 3 I6) false none false none]
noncomputable def ZBo(r:List Int):Tup ZhQ×OutD:=((r,()),none)
noncomputable def ZBl:Tup ZhQ×OutD→Option (List Int)
 |(a,none)=>some (a.1)
 |_=>none
theorem ZJW: ∀b r,ZBl b=some r→ZBo r=b:=by
 rintro ⟨a,_|_⟩ r h<;>cases h;rfl
noncomputable def ZFq:Nat→List Int→Option (List Int)
 |0,_=>none
 |k+1,p0=>
  if (0:Nat)+List.length p0≤(140737488355328/8:Nat) then some p0 else none
noncomputable def Z9Y:FnDef:= .of ZG0 ZhQ (List Int) (fun k x=>ZFq k x.1) ZBo ZBl ZJW
noncomputable def Zs1:Code:=Tryz.f102.body.getD .skip
noncomputable def ZmM:Ctx (Tup ZhQ×OutD):={T:=T,G:=[],mvs:=[],no:=0,n:=6,res:=resOf T ZG0 ZhQ Tryz.f102.results.toList,loops:=[],regs:=[],conds:=[],cuts:=[]}
theorem ZSg(k:Nat):EnvOK Tryz.prog k ZmM.G:=(EnvOK.nil mixed)
theorem ZSa(k:Nat)(x:Tup Z9Y.ps):Z9Y.f (k+1) x=fnK Z9Y ZmM Zs1 k x:=by kernel_rfl
theorem ZRL(x:Tup Z9Y.ps):Z9Y.f 0 x=none:=by kernel_rfl
theorem ZRM(k:Nat):LOK Tryz.prog ZmM k Zs1:=LOK.by [] (by kernel_rfl) AllOK.nil
theorem ZSi(k:Nat):SoundAt Tryz.prog k 102 Z9Y.E:= @Z5 Tryz.prog Z9Y ZmM 102 Tryz.f102 Zs1 (by kernel_rfl) (by kernel_rfl) (by kernel_rfl) Tryz.func102 (by kernel_rfl) (by kernel_rfl) (by kernel_rfl) T_ok ZSg ZRM ZRL ZSa k
noncomputable def ZbC:BSig:=BSig.mk (111:Nat) [some ((3:Nat),Ty.int .i64),some ((3:Nat),Ty.int .i64),some ((76:Nat),Ty.pair (Ty.int .i64) (Ty.int .i64)),none]
noncomputable def Z9u:Nat→Int→List Int→List Int→List (Int×Int)→List (Int×Int)→Int→Option (Int×List Int×List Int×List (Int×Int)×List (Int×Int))
 |0,_,_,_,_,_,_=>none
 |k+1,b1_3,o2,o3,o4,o5,v3=>
  if decide (wrap64 (v3+1)<(↑(List.length o2):Int))=true then if (0:Int)≤v3 then if v3<(↑(List.length o2):Int) then if (0:Int)≤wrap64 (v3+1) then if wrap64 (v3+1)<(↑(List.length o2):Int) then if decide (List.getD o2 (Int.toNat v3) (0:Int)≤List.getD o2 (Int.toNat (wrap64 (v3+1))) (0:Int))=true then Z9u k b1_3 o2 o3 o4 o5 (wrap64 (v3+2)) else if (0:Int)≤v3 then if v3<(↑(List.length o5):Int) then if (0:Int)≤wrap64 (v3+1) then if wrap64 (v3+1)<(↑(List.length (List.set o5 (Int.toNat v3) ((2:Int),(0:Int)))):Int) then if (0:Int)≤v3 then if v3<(↑(List.length o2):Int) then if (0:Int)≤wrap64 (v3+1) then if wrap64 (v3+1)<(↑(List.length (List.set o2 (Int.toNat v3) (0:Int))):Int) then if (0:Int)≤v3 then if v3<(↑(List.length o3):Int) then if (0:Int)≤wrap64 (v3+1) then if wrap64 (v3+1)<(↑(List.length o3):Int) then if (0:Int)≤v3 then if v3<(↑(List.length o3):Int) then if (0:Int)≤wrap64 (v3+1) then if wrap64 (v3+1)<(↑(List.length (List.set o3 (Int.toNat v3) (List.getD o3 (Int.toNat (wrap64 (v3+1))) (0:Int)))):Int) then Z9u k b1_3 (List.set (List.set o2 (Int.toNat v3) (0:Int)) (Int.toNat (wrap64 (v3+1))) (1:Int)) (List.set (List.set o3 (Int.toNat v3) (List.getD o3 (Int.toNat (wrap64 (v3+1))) (0:Int))) (Int.toNat (wrap64 (v3+1))) (List.getD o3 (Int.toNat v3) (0:Int))) o4 (List.set (List.set o5 (Int.toNat v3) ((2:Int),(0:Int))) (Int.toNat (wrap64 (v3+1))) ((1:Int),(0:Int))) (wrap64 (v3+2)) else none else none else none else none else none else none else none else none else none else none else none else none else none else none else none else none else none else none else none else none else some (b1_3,o2,o3,o4,o5)
noncomputable def ZcZ:Spec:=Spec.mk [.ro,Oe,O1,O1,O0,O0] [(0,.at (.ptr 1 0)),(2,.at (.sl 5)),(3,.at (.int .i64))]
noncomputable def Zu3:Spec:=Spec.mk [.ro,Oe,O1,O1,O0,O0] [(0,.at (.ptr 1 0)),(2,.at (.sl 5))]
noncomputable def Z3C:LoopDef (FD ZbC.fs×Bool):= .plain ZcZ Zu3 (Int×List Int×List Int×List (Int×Int)×List (Int×Int)) (fun k x=>Z9u k x.1.2.1.2.2.2.1 x.1.2.2.1 x.1.2.2.2.1 x.1.2.2.2.2.1 x.1.2.2.2.2.2.1 x.2.2.2.1) (fun z=>(((),((),(),(),z.1,()),z.2.1,z.2.2.1,z.2.2.2.1,z.2.2.2.2,()),((),(),()))) (fun y=>(y.1.2.1.2.2.2.1,y.1.2.2.1,y.1.2.2.2.1,y.1.2.2.2.2.1,y.1.2.2.2.2.2.1)) (fun _=>rfl)
noncomputable def ZzJ:Nat→List Int→List Int→List (Int×Int)→Int→Option ((List Int×List Int×List (Int×Int)×Int×Unit)×Bool)
 |0,_,_,_,_=>none
 |k+1,p0,p1,p2,p3=>
  if Int.toNat (↑(List.length p0):Int)*(16:Nat)≤(281474976710656:Nat) then Option.bind (Z9u k p3 p0 p1 p2 (List.replicate (Int.toNat (↑(List.length p0):Int)) ((0:Int),(0:Int))) (Int.tmod p3 (2:Int))) fun z0=>if List.length z0.2.2.2.1+List.length z0.2.2.2.2≤(140737488355328/16:Nat) then some ((z0.2.1,z0.2.2.1,z0.2.2.2.1++z0.2.2.2.2,wrap64 (z0.1+1),()),false) else none else none
noncomputable def Z1o:BDef:=⟨ZbC,none,fun k x=>ZzJ k x.1 x.2.1 x.2.2.1 x.2.2.2.1⟩
noncomputable def Zbx:Code:=Tryz.f103.body.getD .skip
noncomputable def Z3K:Ctx (FD ZbC.fs×Bool):={T:=T,G:=[],mvs:=[],no:=1,n:=109,res:=BSig.res ZbC (none),loops:=[(0,Z3C.E)],regs:=[],conds:=[],cuts:=[]}
theorem Zmc(k:Nat):EnvOK Tryz.prog k Z3K.G:=(EnvOK.nil mixed)
noncomputable def Z8c:Code:=(findLoop 0 Zbx).getD .skip
theorem Zub(k:Nat)(x:ZcZ.D):Z3C.lp (k+1) x=loopK Z3K Z3C 0 Z8c k x:=by kernel_rfl
theorem ZtQ(k:Nat):LOK Tryz.prog Z3K k Z8c:=LOK.by [] (by kernel_rfl) AllOK.nil
theorem ZtG(x:ZcZ.D):Z3C.lp 0 x=none:=by kernel_rfl
theorem Zsj(k:Nat):EOK Tryz.prog Z3K k Z3C.E (.block 0 (.loop Z8c)):=Zd T_ok Zmc ZtG Zub ZtQ k
theorem ZAu(k:Nat)(x:FD Z1o.q.fs):Z1o.f (k+1) x=fnKB Z1o Z3K Zbx k x:=by kernel_rfl
theorem ZAN(x:FD Z1o.q.fs):Z1o.f 0 x=none:=by kernel_rfl
theorem ZzN(k:Nat):LOK Tryz.prog Z3K k Zbx:=LOK.by [(Z3C.E,.block 0 (.loop Z8c))] (by kernel_rfl) (AllOK.cons (Zsj k) AllOK.nil)
theorem ZAx(k:Nat):ClSound Tryz.prog k 103 Z1o.E:= @ZVq Tryz.prog Z1o Z3K 103 Tryz.f103 Zbx (by kernel_rfl) (by kernel_rfl) (by kernel_rfl) (by kernel_rfl) Tryz.func103 (by kernel_rfl) (by kernel_rfl) (by kernel_rfl) T_ok Zmc ZzN ZAN ZAu k
noncomputable def Z4C:BSig:=BSig.mk (111:Nat) [some ((3:Nat),Ty.int .i64),some ((3:Nat),Ty.int .i64),some ((76:Nat),Ty.pair (Ty.int .i64) (Ty.int .i64)),none]
noncomputable def ZjX(r:(List Int×List Int×List (Int×Int)×Int×Unit)×Bool):(FD Z4C.fs×Bool):=r
noncomputable def Zk5:(FD Z4C.fs×Bool)→Option ((List Int×List Int×List (Int×Int)×Int×Unit)×Bool):=fun b=>some b
theorem ZrA: ∀b r,Zk5 b=some r→ZjX r=b:=fun b r h=>(Option.some.inj h).symm
noncomputable def Zd2:Nat→Int→List Int→List Int→List (Int×Int)→Int→Option (LR (Int×List Int×List Int×List (Int×Int)) ((List Int×List Int×List (Int×Int)×Int×Unit)×Bool))
 |0,_,_,_,_,_=>none
 |k+1,b1_3,o2,o3,o4,v3=>
  if decide (v3<(↑(List.length o2):Int))=true then if (0:Int)≤wrap64 (v3-1) then if wrap64 (v3-1)<(↑(List.length o2):Int) then if (0:Int)≤v3 then if v3<(↑(List.length o2):Int) then if decide (List.getD o2 (Int.toNat (wrap64 (v3-1))) (0:Int)>List.getD o2 (Int.toNat v3) (0:Int))=true then some (LR.ret ((o2,o3,o4,b1_3,()),false)) else Zd2 k b1_3 o2 o3 o4 (wrap64 (v3+1)) else none else none else none else none else some (LR.go (b1_3,o2,o3,o4))
noncomputable def Zco:Spec:=Spec.mk [.ro,Oe,O1,O1,O0] [(0,.at (.ptr 1 0)),(3,.at (.int .i64))]
noncomputable def ZsP:Spec:=Spec.mk [.ro,Oe,O1,O1,O0] []
noncomputable def Z3c:LoopDef (FD Z4C.fs×Bool):= .rets Zco ZsP (Int×List Int×List Int×List (Int×Int)) ((List Int×List Int×List (Int×Int)×Int×Unit)×Bool) (fun k x=>Zd2 k x.1.2.1.2.2.2.1 x.1.2.2.1 x.1.2.2.2.1 x.1.2.2.2.2.1 x.2.2.1) (fun z=>(((),((),(),(),z.1,()),z.2.1,z.2.2.1,z.2.2.2,()),(()))) (fun y=>(y.1.2.1.2.2.2.1,y.1.2.2.1,y.1.2.2.2.1,y.1.2.2.2.2.1)) (fun _=>rfl) ZjX Zk5 ZrA
noncomputable def Zy4:Nat→List Int→List Int→List (Int×Int)→Int→Option ((List Int×List Int×List (Int×Int)×Int×Unit)×Bool)
 |0,_,_,_,_=>none
 |k+1,p0,p1,p2,p3=>
  Option.bind (Zd2 k p3 p0 p1 p2 (1:Int)) fun z0=>LR.on z0 (fun y0=>some ((y0.2.1,y0.2.2.1,y0.2.2.2,y0.1,()),true)) fun r0=>some r0
noncomputable def Z1C:BDef:=⟨Z4C,some (2:Nat),fun k x=>Zy4 k x.1 x.2.1 x.2.2.1 x.2.2.2.1⟩
noncomputable def ZaL:Code:=Tryz.f104.body.getD .skip
noncomputable def Z3j:Ctx (FD Z4C.fs×Bool):={T:=T,G:=[],mvs:=[],no:=1,n:=29,res:=BSig.res Z4C (some (2:Nat)),loops:=[(0,Z3c.E)],regs:=[],conds:=[],cuts:=[]}
theorem Zls(k:Nat):EnvOK Tryz.prog k Z3j.G:=(EnvOK.nil mixed)
noncomputable def Z71:Code:=(findLoop 0 ZaL).getD .skip
theorem Zst(k:Nat)(x:Zco.D):Z3c.lp (k+1) x=loopK Z3j Z3c 0 Z71 k x:=by kernel_rfl
theorem ZsF(k:Nat):LOK Tryz.prog Z3j k Z71:=LOK.by [] (by kernel_rfl) AllOK.nil
theorem Zto(x:Zco.D):Z3c.lp 0 x=none:=by kernel_rfl
theorem Zrc(k:Nat):EOK Tryz.prog Z3j k Z3c.E (.block 0 (.loop Z71)):=Zd T_ok Zls Zto Zst ZsF k
theorem Zzu(k:Nat)(x:FD Z1C.q.fs):Z1C.f (k+1) x=fnKB Z1C Z3j ZaL k x:=by kernel_rfl
theorem Zy0(x:FD Z1C.q.fs):Z1C.f 0 x=none:=by kernel_rfl
theorem Zz6(k:Nat):LOK Tryz.prog Z3j k ZaL:=LOK.by [(Z3c.E,.block 0 (.loop Z71))] (by kernel_rfl) (AllOK.cons (Zrc k) AllOK.nil)
theorem ZxY(k:Nat):ClSound Tryz.prog k 104 Z1C.E:= @ZVq Tryz.prog Z1C Z3j 104 Tryz.f104 ZaL (by kernel_rfl) (by kernel_rfl) (by kernel_rfl) (by kernel_rfl) Tryz.func104 (by kernel_rfl) (by kernel_rfl) (by kernel_rfl) T_ok Zls Zz6 Zy0 Zzu k
noncomputable def Zcs:List PK:=[PK.mk .bool false none false none]
noncomputable def Zsz:List PK:=[PK.mk P6 true none false none]
noncomputable def ZqI(r:Bool):Tup Zcs×OutD:=((r,()),none)
noncomputable def Zql:Tup Zcs×OutD→Option (Bool)
 |(a,none)=>some (a.1)
 |_=>none
theorem ZAn: ∀b r,Zql b=some r→ZqI r=b:=by
 rintro ⟨a,_|_⟩ r h<;>cases h;rfl
noncomputable def Z6n:Nat→Int×Int→Option Bool
 |0,_=>none
 |k+1,p0=>
  if decide (p0.1=(3:Int))=true then some true else some (decide (p0.1=(6:Int)))
noncomputable def Z2I:FnDef:= .of Zsz Zcs (Bool) (fun k x=>Z6n k x.1) ZqI Zql ZAn
noncomputable def ZkY:Code:=Tryz.f105.body.getD .skip
noncomputable def Zgp:Ctx (Tup Zcs×OutD):={T:=T,G:=[],mvs:=[],no:=0,n:=11,res:=resOf T Zsz Zcs Tryz.f105.results.toList,loops:=[],regs:=[],conds:=[],cuts:=[]}
theorem ZKv(k:Nat):EnvOK Tryz.prog k Zgp.G:=(EnvOK.nil mixed)
theorem ZK4(k:Nat)(x:Tup Z2I.ps):Z2I.f (k+1) x=fnK Z2I Zgp ZkY k x:=by kernel_rfl
theorem ZLo(x:Tup Z2I.ps):Z2I.f 0 x=none:=by kernel_rfl
theorem ZKm(k:Nat):LOK Tryz.prog Zgp k ZkY:=LOK.by [] (by kernel_rfl) AllOK.nil
theorem ZkP(k:Nat):SoundAt Tryz.prog k 105 Z2I.E:= @Z5 Tryz.prog Z2I Zgp 105 Tryz.f105 ZkY (by kernel_rfl) (by kernel_rfl) (by kernel_rfl) Tryz.func105 (by kernel_rfl) (by kernel_rfl) (by kernel_rfl) T_ok ZKv ZKm ZLo ZK4 k
noncomputable def Zc6:List PK:=[PK.mk I6 false none false none]
noncomputable def Zxz:List PK:=[PK.mk I6 false none false none,PK.mk I6 false none false none]
noncomputable def ZuM(r:Int):Tup Zc6×OutD:=((r,()),none)
noncomputable def Zvx:Tup Zc6×OutD→Option (Int)
 |(a,none)=>some (a.1)
 |_=>none
theorem ZFA: ∀b r,Zvx b=some r→ZuM r=b:=by
 rintro ⟨a,_|_⟩ r h<;>cases h;rfl
noncomputable def Z6i:Nat→Int→Int→Int→Option Int
 |0,_,_,_=>none
 |k+1,v0,v1,v5=>
  if decide (v1>0)=true then if decide (v5≤7000)=true then Z6i k v0 (wrap64 (v1-1)) (wrap64 (v5*v0)) else some v5 else some v5
noncomputable def ZjM:Spec:=Spec.mk [.ro] [(0,.at (.int .i64)),(1,.at (.int .i64)),(5,.at (.int .i64))]
noncomputable def ZHo:Spec:=Spec.mk [.ro] [(5,.at (.int .i64))]
noncomputable def Z7D:LoopDef (Tup Zc6×OutD):= .plain ZjM ZHo (Int) (fun k x=>Z6i k x.2.1 x.2.2.1 x.2.2.2.1) (fun z=>(((),()),(z,()))) (fun y=>(y.2.1)) (fun _=>rfl)
noncomputable def Zoi:Nat→Int→Int→Option Int
 |0,_,_=>none
 |k+1,p0,p1=>
  Option.bind (Z6i k p0 p1 (1:Int)) fun z0=>some z0
noncomputable def Z6R:FnDef:= .of Zxz Zc6 (Int) (fun k x=>Zoi k x.1 x.2.1) ZuM Zvx ZFA
noncomputable def ZiN:Code:=Tryz.f106.body.getD .skip
noncomputable def Z8B:Ctx (Tup Zc6×OutD):={T:=T,G:=[],mvs:=[],no:=0,n:=18,res:=resOf T Zxz Zc6 Tryz.f106.results.toList,loops:=[(0,Z7D.E)],regs:=[],conds:=[],cuts:=[]}
theorem Zz4(k:Nat):EnvOK Tryz.prog k Z8B.G:=(EnvOK.nil mixed)
noncomputable def Zev:Code:=(findLoop 0 ZiN).getD .skip
theorem ZH7(k:Nat)(x:ZjM.D):Z7D.lp (k+1) x=loopK Z8B Z7D 0 Zev k x:=by kernel_rfl
theorem ZH6(k:Nat):LOK Tryz.prog Z8B k Zev:=LOK.by [] (by kernel_rfl) AllOK.nil
theorem ZHn(x:ZjM.D):Z7D.lp 0 x=none:=by kernel_rfl
theorem ZFL(k:Nat):EOK Tryz.prog Z8B k Z7D.E (.block 0 (.loop Zev)):=Zd T_ok Zz4 ZHn ZH7 ZH6 k
theorem ZNv(k:Nat)(x:Tup Z6R.ps):Z6R.f (k+1) x=fnK Z6R Z8B ZiN k x:=by kernel_rfl
theorem ZOg(x:Tup Z6R.ps):Z6R.f 0 x=none:=by kernel_rfl
theorem ZNl(k:Nat):LOK Tryz.prog Z8B k ZiN:=LOK.by [(Z7D.E,.block 0 (.loop Zev))] (by kernel_rfl) (AllOK.cons (ZFL k) AllOK.nil)
theorem ZP5(k:Nat):SoundAt Tryz.prog k 106 Z6R.E:= @Z5 Tryz.prog Z6R Z8B 106 Tryz.f106 ZiN (by kernel_rfl) (by kernel_rfl) (by kernel_rfl) Tryz.func106 (by kernel_rfl) (by kernel_rfl) (by kernel_rfl) T_ok Zz4 ZNl ZOg ZNv k
noncomputable def Zik:List PK:=[PK.mk I6 false none false none]
noncomputable def ZEK:List PK:=[PK.mk (.pair I6 (.pair I6 (.slice 76 P6))) true none false none,PK.mk T6 true none false none]
noncomputable def ZBx(r:Int):Tup Zik×OutD:=((r,()),none)
noncomputable def ZAY:Tup Zik×OutD→Option (Int)
 |(a,none)=>some (a.1)
 |_=>none
theorem ZKY: ∀b r,ZAY b=some r→ZBx r=b:=by
 rintro ⟨a,_|_⟩ r h<;>cases h;rfl
noncomputable def ZhN:Nat→Int×Int×List (Int×Int)→Int×Int×Int→Option Int
 |0,_,_=>none
 |k+1,p0,p1=>
  if decide (p1.1=1)=true then some p1.2.2 else if decide (p1.1=2)=true then some p0.2.1 else some (wrap64 (p0.2.1+1))
noncomputable def Z7c:FnDef:= .of ZEK Zik (Int) (fun k x=>ZhN k x.1 x.2.1) ZBx ZAY ZKY
noncomputable def ZrX:Code:=Tryz.f108.body.getD .skip
noncomputable def ZmI:Ctx (Tup Zik×OutD):={T:=T,G:=[],mvs:=[],no:=0,n:=18,res:=resOf T ZEK Zik Tryz.f108.results.toList,loops:=[],regs:=[],conds:=[],cuts:=[]}
theorem ZSy(k:Nat):EnvOK Tryz.prog k ZmI.G:=(EnvOK.nil mixed)
theorem ZS7(k:Nat)(x:Tup Z7c.ps):Z7c.f (k+1) x=fnK Z7c ZmI ZrX k x:=by kernel_rfl
theorem ZSb(x:Tup Z7c.ps):Z7c.f 0 x=none:=by kernel_rfl
theorem ZS0(k:Nat):LOK Tryz.prog ZmI k ZrX:=LOK.by [] (by kernel_rfl) AllOK.nil
theorem ZFJ(k:Nat):SoundAt Tryz.prog k 108 Z7c.E:= @Z5 Tryz.prog Z7c ZmI 108 Tryz.f108 ZrX (by kernel_rfl) (by kernel_rfl) (by kernel_rfl) Tryz.func108 (by kernel_rfl) (by kernel_rfl) (by kernel_rfl) T_ok ZSy ZS0 ZSb ZS7 k
noncomputable def ZbL:List PK:=[PK.mk (.slice 3 I6) false none false none]
noncomputable def ZyI:List PK:=[PK.mk (.pair I6 (.pair I6 (.slice 76 P6))) true none false none]
noncomputable def Zvi(r:List Int):Tup ZbL×OutD:=((r,()),none)
noncomputable def Zvl:Tup ZbL×OutD→Option (List Int)
 |(a,none)=>some (a.1)
 |_=>none
theorem ZFb: ∀b r,Zvl b=some r→Zvi r=b:=by
 rintro ⟨a,_|_⟩ r h<;>cases h;rfl
noncomputable def Z8C:Nat→List Int→List (Int×Int)→Int→Int→Option (List Int)
 |0,_,_,_,_=>none
 |k+1,o1,v8,v9,v10=>
  if decide (v10<v9)=true then if (0:Int)≤v10 then if v10<(↑(List.length v8):Int) then if (0:Int)≤Prod.fst (List.getD v8 (Int.toNat v10) ((0:Int),(0:Int))) then if Prod.fst (List.getD v8 (Int.toNat v10) ((0:Int),(0:Int)))<(↑(List.length o1):Int) then if (0:Int)≤Prod.fst (List.getD v8 (Int.toNat v10) ((0:Int),(0:Int))) then if Prod.fst (List.getD v8 (Int.toNat v10) ((0:Int),(0:Int)))<(↑(List.length o1):Int) then Z8C k (List.set o1 (Int.toNat (Prod.fst (List.getD v8 (Int.toNat v10) ((0:Int),(0:Int))))) (wrap64 (List.getD o1 (Int.toNat (Prod.fst (List.getD v8 (Int.toNat v10) ((0:Int),(0:Int))))) (0:Int)+1))) v8 v9 (wrap64 (v10+1)) else none else none else none else none else none else none else some o1
noncomputable def Zjz:Spec:=Spec.mk [.ro,O1] [(3,.at (.sl 1)),(8,.at (.snap 0 P6)),(9,.at (.int .i64)),(10,.at (.int .i64))]
noncomputable def ZIe:Spec:=Spec.mk [.ro,O1] [(3,.at (.sl 1))]
noncomputable def Z7Q:LoopDef (Tup ZbL×OutD):= .plain Zjz ZIe (List Int) (fun k x=>Z8C k x.1.2.1 x.2.2.1 x.2.2.2.1 x.2.2.2.2.1) (fun z=>(((),z,()),((),()))) (fun y=>(y.1.2.1)) (fun _=>rfl)
noncomputable def Zop:Nat→Int×Int×List (Int×Int)→Option (List Int)
 |0,_=>none
 |k+1,p0=>
  Option.bind (Z8C k (List.replicate (Int.toNat (8:Int)) (0:Int)) p0.2.2 (↑(List.length p0.2.2):Int) (0:Int)) fun z0=>some z0
noncomputable def Z6E:FnDef:= .of ZyI ZbL (List Int) (fun k x=>Zop k x.1) Zvi Zvl ZFb
noncomputable def Ziw:Code:=Tryz.f109.body.getD .skip
noncomputable def Z9i:Ctx (Tup ZbL×OutD):={T:=T,G:=[],mvs:=[],no:=0,n:=23,res:=resOf T ZyI ZbL Tryz.f109.results.toList,loops:=[(0,Z7Q.E)],regs:=[],conds:=[],cuts:=[]}
theorem Zya(k:Nat):EnvOK Tryz.prog k Z9i.G:=(EnvOK.nil mixed)
noncomputable def Zer:Code:=(findLoop 0 Ziw).getD .skip
theorem ZHB(k:Nat)(x:Zjz.D):Z7Q.lp (k+1) x=loopK Z9i Z7Q 0 Zer k x:=by kernel_rfl
theorem ZI7(k:Nat):LOK Tryz.prog Z9i k Zer:=LOK.by [] (by kernel_rfl) AllOK.nil
theorem ZHM(x:Zjz.D):Z7Q.lp 0 x=none:=by kernel_rfl
theorem ZGo(k:Nat):EOK Tryz.prog Z9i k Z7Q.E (.block 0 (.loop Zer)):=Zd T_ok Zya ZHM ZHB ZI7 k
theorem ZO0(k:Nat)(x:Tup Z6E.ps):Z6E.f (k+1) x=fnK Z6E Z9i Ziw k x:=by kernel_rfl
theorem ZNo(x:Tup Z6E.ps):Z6E.f 0 x=none:=by kernel_rfl
theorem ZNx(k:Nat):LOK Tryz.prog Z9i k Ziw:=LOK.by [(Z7Q.E,.block 0 (.loop Zer))] (by kernel_rfl) (AllOK.cons (ZGo k) AllOK.nil)
theorem ZP3(k:Nat):SoundAt Tryz.prog k 109 Z6E.E:= @Z5 Tryz.prog Z6E Z9i 109 Tryz.f109 Ziw (by kernel_rfl) (by kernel_rfl) (by kernel_rfl) Tryz.func109 (by kernel_rfl) (by kernel_rfl) (by kernel_rfl) T_ok Zya ZNx ZNo ZO0 k
noncomputable def Zdd:List PK:=[PK.mk I6 false none false none]
noncomputable def ZBN:List PK:=[PK.mk (.slice 40 T6) false none false none,PK.mk (.slice 40 T6) false none false none]
noncomputable def Zo2(r:Int):Tup Zdd×OutD:=((r,()),none)
noncomputable def ZnY:Tup Zdd×OutD→Option (Int)
 |(a,none)=>some (a.1)
 |_=>none
theorem ZqS: ∀b r,ZnY b=some r→Zo2 r=b:=by
 rintro ⟨a,_|_⟩ r h<;>cases h;rfl
noncomputable def Zai:Nat→List (Int×Int×Int)→List (Int×Int×Int)→Int→Int→Option (LR Unit Int)
 |0,_,_,_,_=>none
 |k+1,v1,v7,v8,v9=>
  if decide (v9<v8)=true then if (0:Int)≤v9 then if v9<(↑(List.length v7):Int) then if (0:Int)≤v9 then if v9<(↑(List.length v1):Int) then if (!(decide (Prod.fst (List.getD v7 (Int.toNat v9) ((0:Int),(0:Int),(0:Int)))=Prod.fst (List.getD v1 (Int.toNat v9) ((0:Int),(0:Int),(0:Int))))&&(decide (Prod.fst (Prod.snd (List.getD v7 (Int.toNat v9) ((0:Int),(0:Int),(0:Int))))=Prod.fst (Prod.snd (List.getD v1 (Int.toNat v9) ((0:Int),(0:Int),(0:Int)))))&&(decide (Prod.snd (Prod.snd (List.getD v7 (Int.toNat v9) ((0:Int),(0:Int),(0:Int))))=Prod.snd (Prod.snd (List.getD v1 (Int.toNat v9) ((0:Int),(0:Int),(0:Int)))))&&true))))=true then some (LR.ret v9) else Zai k v1 v7 v8 (wrap64 (v9+1)) else none else none else none else none else some (LR.go ())
noncomputable def Zli:Spec:=Spec.mk [.ro] [(1,.at (.snap 0 T6)),(7,.at (.snap 0 T6)),(8,.at (.int .i64)),(9,.at (.int .i64))]
noncomputable def ZKo:Spec:=Spec.mk [.ro] []
noncomputable def Z92:LoopDef (Tup Zdd×OutD):= .rets Zli ZKo (Unit) (Int) (fun k x=>Zai k x.2.1 x.2.2.1 x.2.2.2.1 x.2.2.2.2.1) (fun z=>(((),()),(()))) (fun y=>()) (fun _=>rfl) Zo2 ZnY ZqS
noncomputable def Zkh:Nat→List (Int×Int×Int)→List (Int×Int×Int)→Option Int
 |0,_,_=>none
 |k+1,p0,p1=>
  Option.bind (Zai k p1 p0 (↑(List.length p0):Int) (0:Int)) fun z0=>LR.on z0 (fun y0=>some (-1:Int)) fun r0=>some r0
noncomputable def Z83:FnDef:= .of ZBN Zdd (Int) (fun k x=>Zkh k x.1 x.2.1) Zo2 ZnY ZqS
noncomputable def ZkA:Code:=Tryz.f113.body.getD .skip
noncomputable def ZaO:Ctx (Tup Zdd×OutD):={T:=T,G:=[],mvs:=[],no:=0,n:=22,res:=resOf T ZBN Zdd Tryz.f113.results.toList,loops:=[(0,Z92.E)],regs:=[],conds:=[],cuts:=[]}
theorem ZC3(k:Nat):EnvOK Tryz.prog k ZaO.G:=(EnvOK.nil mixed)
noncomputable def Zg7:Code:=(findLoop 0 ZkA).getD .skip
theorem ZLr(k:Nat)(x:Zli.D):Z92.lp (k+1) x=loopK ZaO Z92 0 Zg7 k x:=by kernel_rfl
theorem ZKc(k:Nat):LOK Tryz.prog ZaO k Zg7:=LOK.by [] (by kernel_rfl) AllOK.nil
theorem ZKz(x:Zli.D):Z92.lp 0 x=none:=by kernel_rfl
theorem ZID(k:Nat):EOK Tryz.prog ZaO k Z92.E (.block 0 (.loop Zg7)):=Zd T_ok ZC3 ZKz ZLr ZKc k
theorem ZR5(k:Nat)(x:Tup Z83.ps):Z83.f (k+1) x=fnK Z83 ZaO ZkA k x:=by kernel_rfl
theorem ZQG(x:Tup Z83.ps):Z83.f 0 x=none:=by kernel_rfl
theorem ZPD(k:Nat):LOK Tryz.prog ZaO k ZkA:=LOK.by [(Z92.E,.block 0 (.loop Zg7))] (by kernel_rfl) (AllOK.cons (ZID k) AllOK.nil)
theorem ZPR(k:Nat):SoundAt Tryz.prog k 113 Z83.E:= @Z5 Tryz.prog Z83 ZaO 113 Tryz.f113 ZkA (by kernel_rfl) (by kernel_rfl) (by kernel_rfl) Tryz.func113 (by kernel_rfl) (by kernel_rfl) (by kernel_rfl) T_ok ZC3 ZPD ZQG ZR5 k
noncomputable def Z7F:List PK:=[]
noncomputable def Zqj:List PK:=[PK.mk (.pair I6 (.pair I6 (.slice 76 P6))) true (some (2,76,.pair I6 I6)) false none,PK.mk (.slice 3 I6) false none false none,PK.mk (.slice 3 I6) false none false none,PK.mk I6 false none false none]
noncomputable def ZpM(r:List (Int×Int)):Tup Z7F×OutD:=((()),some ⟨Ty.pair (Ty.int .i64) (Ty.int .i64),r⟩)
noncomputable def ZhO:Tup Z7F×OutD→Option (List (Int×Int))
 |(a,some ⟨u,ys⟩)=>if h:u=Ty.pair (Ty.int .i64) (Ty.int .i64) then some (castU h ys) else none
 |_=>none
theorem ZzB: ∀b r,ZhO b=some r→ZpM r=b:=by
 rintro ⟨a,o⟩ r h
 cases o with
 |none=>cases h
 |some s=>
  obtain ⟨u,ys⟩:=s
  simp only[ZhO]at h
  split at h
  ·rename_i hu;subst hu;injection h with h;subst h;rfl
  ·cases h
noncomputable def ZA:Nat→List (Int×Int)→Int→Int→List Int→List Int→Int→Int→Int→Option (List (Int×Int))
 |0,_,_,_,_,_,_,_,_=>none
 |k+1,o1,b2_0,b2_1,v1,v2,v3,v12,v13=>
  if decide (v13<v12)=true then if decide (v13=v3)=true then if (0:Int)≤v13 then if v13<(↑(List.length v2):Int) then if decide (List.getD v2 (Int.toNat v13) (0:Int)≠1)=true then if (0:Int)≤v13 then if v13<(↑(List.length o1):Int) then if (0:Int)≤v13 then if v13<(↑(List.length o1):Int) then ZA k (List.set o1 (Int.toNat v13) (Prod.fst (List.getD o1 (Int.toNat v13) ((0:Int),(0:Int))),wrap64 ((1:Int)-Prod.snd (List.getD o1 (Int.toNat v13) ((0:Int),(0:Int)))))) b2_0 b2_1 v1 v2 v3 v12 (wrap64 (v13+1)) else none else none else none else none else ZA k o1 b2_0 b2_1 v1 v2 v3 v12 (wrap64 (v13+1)) else none else none else if (0:Int)≤v3 then if v3<(↑(List.length o1):Int) then if decide (Prod.fst (List.getD o1 (Int.toNat v3) ((0:Int),(0:Int)))=6)=true then if (0:Int)≤v13 then if v13<(↑(List.length o1):Int) then if decide (Prod.fst (List.getD o1 (Int.toNat v13) ((0:Int),(0:Int)))=6)=true then if (0:Int)≤v13 then if v13<(↑(List.length v1):Int) then if (0:Int)≤v3 then if v3<(↑(List.length v1):Int) then if decide (List.getD v1 (Int.toNat v13) (0:Int)=List.getD v1 (Int.toNat v3) (0:Int))=true then if (0:Int)≤v13 then if v13<(↑(List.length v2):Int) then if decide (List.getD v2 (Int.toNat v13) (0:Int)≠1)=true then if (0:Int)≤v13 then if v13<(↑(List.length o1):Int) then if (0:Int)≤v13 then if v13<(↑(List.length o1):Int) then ZA k (List.set o1 (Int.toNat v13) (Prod.fst (List.getD o1 (Int.toNat v13) ((0:Int),(0:Int))),wrap64 ((1:Int)-Prod.snd (List.getD o1 (Int.toNat v13) ((0:Int),(0:Int)))))) b2_0 b2_1 v1 v2 v3 v12 (wrap64 (v13+1)) else none else none else none else none else ZA k o1 b2_0 b2_1 v1 v2 v3 v12 (wrap64 (v13+1)) else none else none else ZA k o1 b2_0 b2_1 v1 v2 v3 v12 (wrap64 (v13+1)) else none else none else none else none else ZA k o1 b2_0 b2_1 v1 v2 v3 v12 (wrap64 (v13+1)) else none else none else ZA k o1 b2_0 b2_1 v1 v2 v3 v12 (wrap64 (v13+1)) else none else none else some o1
noncomputable def ZfV:Spec:=Spec.mk [.ro,Oi,Of] [(1,.at (.snap 0 I6)),(2,.at (.snap 0 I6)),(3,.at (.int .i64)),(4,.at (.ptr 2 0)),(12,.at (.int .i64)),(13,.at (.int .i64))]
noncomputable def ZAh:Spec:=Spec.mk [.ro,Oi] []
noncomputable def Z5b:LoopDef (Tup Z7F×OutD):= .plain ZfV ZAh (List (Int×Int)) (fun k x=>ZA k x.1.2.1 x.1.2.2.1.1 x.1.2.2.1.2.1 x.2.1 x.2.2.1 x.2.2.2.1 x.2.2.2.2.2.1 x.2.2.2.2.2.2.1) (fun z=>(((),z,()),(()))) (fun y=>(y.1.2.1)) (fun _=>rfl)
noncomputable def Z7P:Nat→Int×Int×List (Int×Int)→List Int→List Int→Int→Option (List (Int×Int))
 |0,_,_,_,_=>none
 |k+1,p0,p1,p2,p3=>
  Option.bind (ZA k p0.2.2 p0.1 p0.2.1 p1 p2 p3 (↑(List.length p0.2.2):Int) (0:Int)) fun z0=>some z0
noncomputable def Z48:FnDef:= .of Zqj Z7F (List (Int×Int)) (fun k x=>Z7P k x.1 x.2.1 x.2.2.1 x.2.2.2.1) ZpM ZhO ZzB
noncomputable def Zey:Code:=Tryz.f115.body.getD .skip
noncomputable def Z5w:Ctx (Tup Z7F×OutD):={T:=T,G:=[],mvs:=[],no:=1,n:=69,res:=resOf T Zqj Z7F Tryz.f115.results.toList,loops:=[(0,Z5b.E)],regs:=[],conds:=[],cuts:=[]}
theorem Zqk(k:Nat):EnvOK Tryz.prog k Z5w.G:=(EnvOK.nil mixed)
noncomputable def Zbw:Code:=(findLoop 0 Zey).getD .skip
theorem ZAE(k:Nat)(x:ZfV.D):Z5b.lp (k+1) x=loopK Z5w Z5b 0 Zbw k x:=by kernel_rfl
theorem ZAf(k:Nat):LOK Tryz.prog Z5w k Zbw:=LOK.by [] (by kernel_rfl) AllOK.nil
theorem ZAG(x:ZfV.D):Z5b.lp 0 x=none:=by kernel_rfl
theorem Zz0(k:Nat):EOK Tryz.prog Z5w k Z5b.E (.block 0 (.loop Zbw)):=Zd T_ok Zqk ZAG ZAE ZAf k
theorem ZId(k:Nat)(x:Tup Z48.ps):Z48.f (k+1) x=fnK Z48 Z5w Zey k x:=by kernel_rfl
theorem ZIa(x:Tup Z48.ps):Z48.f 0 x=none:=by kernel_rfl
theorem ZGT(k:Nat):LOK Tryz.prog Z5w k Zey:=LOK.by [(Z5b.E,.block 0 (.loop Zbw))] (by kernel_rfl) (AllOK.cons (Zz0 k) AllOK.nil)
theorem ZHA(k:Nat):SoundAt Tryz.prog k 115 Z48.E:= @Z5 Tryz.prog Z48 Z5w 115 Tryz.f115 Zey (by kernel_rfl) (by kernel_rfl) (by kernel_rfl) Tryz.func115 (by kernel_rfl) (by kernel_rfl) (by kernel_rfl) T_ok Zqk ZGT ZIa ZId k
noncomputable def Zil:List PK:=[PK.mk I6 false none false none]
noncomputable def ZEH:List PK:=[PK.mk I6 false none false none,PK.mk I6 false none false none]
noncomputable def ZBc(r:Int):Tup Zil×OutD:=((r,()),none)
noncomputable def ZC4:Tup Zil×OutD→Option (Int)
 |(a,none)=>some (a.1)
 |_=>none
theorem ZLb: ∀b r,ZC4 b=some r→ZBc r=b:=by
 rintro ⟨a,_|_⟩ r h<;>cases h;rfl
noncomputable def Zmw:Nat→Int→Int→Option Int
 |0,_,_=>none
 |k+1,p0,p1=>
  if IntKind.wrap IntKind.u64 p1<(0:Int) then none else some (bits BinOp.and IntKind.i64 (Int.fdiv p0 ((2:Int)^min (Int.toNat (IntKind.wrap IntKind.u64 p1)) (IntKind.bits IntKind.i64))) (1:Int))
noncomputable def Za6:FnDef:= .of ZEH Zil (Int) (fun k x=>Zmw k x.1 x.2.1) ZBc ZC4 ZLb
noncomputable def Ztx:Code:=Tryz.f118.body.getD .skip
noncomputable def ZmS:Ctx (Tup Zil×OutD):={T:=T,G:=[],mvs:=[],no:=0,n:=10,res:=resOf T ZEH Zil Tryz.f118.results.toList,loops:=[],regs:=[],conds:=[],cuts:=[]}
theorem ZSB(k:Nat):EnvOK Tryz.prog k ZmS.G:=(EnvOK.nil mixed)
theorem ZS9(k:Nat)(x:Tup Za6.ps):Za6.f (k+1) x=fnK Za6 ZmS Ztx k x:=by kernel_rfl
theorem ZRs(x:Tup Za6.ps):Za6.f 0 x=none:=by kernel_rfl
theorem ZS8(k:Nat):LOK Tryz.prog ZmS k Ztx:=LOK.by [] (by kernel_rfl) AllOK.nil
theorem ZRJ(k:Nat):SoundAt Tryz.prog k 118 Za6.E:= @Z5 Tryz.prog Za6 ZmS 118 Tryz.f118 Ztx (by kernel_rfl) (by kernel_rfl) (by kernel_rfl) Tryz.func118 (by kernel_rfl) (by kernel_rfl) (by kernel_rfl) T_ok ZSB ZS8 ZRs ZS9 k
noncomputable def ZeZ:List PK:=[PK.mk (.pair I6 (.pair I6 (.slice 76 P6))) true none false none]
noncomputable def ZEy:List PK:=[PK.mk (.pair I6 (.pair I6 (.slice 76 P6))) true none false none]
noncomputable def ZCj(r:Int×Int×List (Int×Int)):Tup ZeZ×OutD:=((r,()),none)
noncomputable def ZCh:Tup ZeZ×OutD→Option (Int×Int×List (Int×Int))
 |(a,none)=>some (a.1)
 |_=>none
theorem ZJw: ∀b r,ZCh b=some r→ZCj r=b:=by
 rintro ⟨a,_|_⟩ r h<;>cases h;rfl
noncomputable def Zav:Nat→Int→Int→List (Int×Int)→Int→Int→List (Int×Int)→Option (Int×Int×List (Int×Int)):=fun k b1_0 b1_1 b1_2 b2_0 b2_1 o3=>
  if (0:Nat)+List.length b1_2≤(140737488355328/16:Nat) then some (b1_0,b1_1,b1_2) else none
noncomputable def ZfI:Nat→Int→Int→List (Int×Int)→Int→Int→List (Int×Int)→Option (List (Int×Int×List (Int×Int))):=fun k b1_0 b1_1 b1_2 b2_0 b2_1 o3=>
  joinL (joinL (if (0:Nat)+List.length b1_2≤(140737488355328/16:Nat) then some [(b1_0,b1_1,b1_2)] else none) (joinL (if (0:Nat)+List.length b1_2≤(140737488355328/16:Nat) then some [(b1_0,b1_1,b1_2)] else none) (if (0:Nat)+List.length b1_2≤(140737488355328/16:Nat) then some [(b1_0,b1_1,b1_2)] else none))) (joinL (joinL (if (0:Nat)+List.length b1_2≤(140737488355328/16:Nat) then some [(b1_0,b1_1,b1_2)] else none) (joinL (if (0:Nat)+List.length b1_2≤(140737488355328/16:Nat) then some [(b1_0,b1_1,b1_2)] else none) (if (0:Nat)+List.length b1_2≤(140737488355328/16:Nat) then some [(b1_0,b1_1,b1_2)] else none))) (joinL (joinL (if (0:Nat)+List.length b1_2≤(140737488355328/16:Nat) then some [(b1_0,b1_1,b1_2)] else none) (if (0:Nat)+List.length b1_2≤(140737488355328/16:Nat) then some [(b1_0,b1_1,b1_2)] else none)) (joinL (joinL (if (0:Nat)+List.length b1_2≤(140737488355328/16:Nat) then some [(b1_0,b1_1,b1_2)] else none) (if (0:Nat)+List.length b1_2≤(140737488355328/16:Nat) then some [(b1_0,b1_1,b1_2)] else none)) (if (0:Nat)+List.length b1_2≤(140737488355328/16:Nat) then joinL (some [(b1_0,b1_1,b1_2)]) (some [(b1_0,b1_1,b1_2)]) else none))))
noncomputable def ZrU:Spec:=Spec.mk [.ro,O2,Oa,O0] [(1,.at (.ptr 1 0)),(2,.at (.ptr 2 0))]
noncomputable def ZKT:Spec:=Spec.mk [.ro,Obq,O0] [(2,.at (.ptr 1 0))]
noncomputable def Z8K:LoopDef (Tup ZeZ×OutD):= .plain ZrU ZKT (Int×Int×List (Int×Int)) (fun k x=>Zav k x.1.2.1.1 x.1.2.1.2.1 x.1.2.1.2.2.1 x.1.2.2.1.1 x.1.2.2.1.2.1 x.1.2.2.2.1) (fun z=>(((),(z.1,z.2.1,(),()),z.2.2,()),((),()))) (fun y=>(y.1.2.1.1,y.1.2.1.2.1,y.1.2.2.1)) (fun _=>rfl)
theorem ZJp(k:Nat)(b1_0:Int)(b1_1:Int)(b1_2:List (Int×Int))(b2_0:Int)(b2_1:Int)(o3:List (Int×Int)):ZfI k b1_0 b1_1 b1_2 b2_0 b2_1 o3=repl 12 (Zav k b1_0 b1_1 b1_2 b2_0 b2_1 o3):=by
 first
 |(simp only[ZfI,Zav,Z9,Zc,Z6,Z8,Z7,Z3,if_true];done)
 |(simp only[ZfI,Zav,Z9,Zc,Z6,Z8,Z7,Z3,if_true];simp only[Z1g,Z1i,Z2p,Z3];simp only[Z3E];exact Z1F ⟨fun h=>by simp only[h,and_self],fun h=>by simp only[h,and_self]⟩)
noncomputable def Z9R:Nat→Int×Int×List (Int×Int)→Option (Int×Int×List (Int×Int))
 |0,_=>none
 |k+1,p0=>
  Option.bind (Zav k p0.1 p0.2.1 p0.2.2 (0:Int) (0:Int) []) fun z0=>some (z0.1,z0.2.1,z0.2.2)
noncomputable def Z5W:FnDef:= .of ZEy ZeZ (Int×Int×List (Int×Int)) (fun k x=>Z9R k x.1) ZCj ZCh ZJw
noncomputable def ZmE:Code:=Tryz.f126.body.getD .skip
noncomputable def Z66:Ctx (Tup ZeZ×OutD):={T:=T,G:=[],mvs:=[],no:=0,n:=12,res:=resOf T ZEy ZeZ Tryz.f126.results.toList,loops:=[],regs:=[(1,Z8K.E)],conds:=[],cuts:=[]}
theorem ZG8(k:Nat):EnvOK Tryz.prog k Z66.G:=(EnvOK.nil mixed)
noncomputable def ZkR:Array Oper:=(findReg 1 ZmE).getD #[]
theorem ZK3(k:Nat)(x:ZrU.D):execD Z66.T Z66.G Z66.mvs k ZkR (Z8K.inp.st Z66.n x) (outK Z66 Z8K)=ZfI k x.1.2.1.1 x.1.2.1.2.1 x.1.2.1.2.2.1 x.1.2.2.1.1 x.1.2.2.1.2.1 x.1.2.2.2.1:=by kernel_rfl
theorem ZHh(k:Nat):EOK Tryz.prog Z66 k Z8K.E (.region 1 ZkR true):=Z4m (D:=Z8K) (m:=12) T_ok (ZG8 k) (fun x=>(ZK3 k x).trans (ZJp k x.1.2.1.1 x.1.2.1.2.1 x.1.2.1.2.2.1 x.1.2.2.1.1 x.1.2.2.1.2.1 x.1.2.2.2.1))
theorem ZRR(k:Nat)(x:Tup Z5W.ps):Z5W.f (k+1) x=fnK Z5W Z66 ZmE k x:=by kernel_rfl
theorem ZRo(x:Tup Z5W.ps):Z5W.f 0 x=none:=by kernel_rfl
theorem ZRQ(k:Nat):LOK Tryz.prog Z66 k ZmE:=LOK.by [(Z8K.E,.region 1 ZkR true)] (by kernel_rfl) (AllOK.cons (ZHh k) AllOK.nil)
theorem Zsf(k:Nat):SoundAt Tryz.prog k 126 Z5W.E:= @Z5 Tryz.prog Z5W Z66 126 Tryz.f126 ZmE (by kernel_rfl) (by kernel_rfl) (by kernel_rfl) Tryz.func126 (by kernel_rfl) (by kernel_rfl) (by kernel_rfl) T_ok ZG8 ZRQ ZRo ZRR k
noncomputable def Zb8:List PK:=[PK.mk I6 false none false none]
noncomputable def ZqQ:List PK:=[PK.mk (.pair (.slice 5 (.int .u8)) (.pair I6 (.int .u64))) false none false (some 105)]
noncomputable def Zp7(r:Int×Int×Int):Tup Zb8×OutD:=((r.1,()),some ⟨Ty.pair (Ty.slice (5:Nat) (Ty.int .u8)) (Ty.pair (Ty.int .i64) (Ty.int .u64)),[([],r.2)]⟩)
noncomputable def Zi6:Tup Zb8×OutD→Option (Int×Int×Int)
 |(a,some ⟨u,ys⟩)=>if h:u=Ty.pair (Ty.slice (5:Nat) (Ty.int .u8)) (Ty.pair (Ty.int .i64) (Ty.int .u64)) then (match castU h ys with
  |[([],y)]=>some (a.1,y)
  |_=>none) else none
 |_=>none
theorem Zzf: ∀b r,Zi6 b=some r→Zp7 r=b:=by
 rintro ⟨a,o⟩ r h
 cases o with
 |none=>cases h
 |some s=>
  obtain ⟨u,ys⟩:=s
  simp only[Zi6]at h
  split at h
  ·rename_i hu
   subst hu
   match ys,h with
   |[],h=>cases (show (none:Option _)=some r from h)
   |[([],y)],h=>injection (show some _=some r from h) with h;subst h;rfl
   |[(_::_,y)],h=>cases (show (none:Option _)=some r from h)
   |(h1,_)::_::_,h=>cases h1<;>cases (show (none:Option _)=some r from h)
  ·cases h
noncomputable def Z7R:Nat→List Int×Int×Int→Option (Int×Int×Int)
 |0,_=>none
 |k+1,p0=>
  if decide (p0.2.1<(↑(List.length p0.1):Int))=true then if (0:Int)≤p0.2.1 then if p0.2.1<(↑(List.length p0.1):Int) then if decide (wrap64 (p0.2.1+1)≤(↑(List.length p0.1):Int))=true then some (wrap64 (List.getD p0.1 (Int.toNat p0.2.1) (0:Int)),wrap64 (p0.2.1+1),IntKind.wrap IntKind.u64 (IntKind.wrap IntKind.u64 (IntKind.wrap IntKind.u64 (p0.2.2*(6364136223846793005:Int))+IntKind.wrap IntKind.u64 (wrap64 (List.getD p0.1 (Int.toNat p0.2.1) (0:Int))))+1442695040888963407)) else some (wrap64 (bits BinOp.and IntKind.u64 (Int.fdiv (IntKind.wrap IntKind.u64 (IntKind.wrap IntKind.u64 (IntKind.wrap IntKind.u64 (p0.2.2*(6364136223846793005:Int))+IntKind.wrap IntKind.u64 (wrap64 (List.getD p0.1 (Int.toNat p0.2.1) (0:Int))))+1442695040888963407)) ((2:Int)^min (Int.toNat (40:Int)) (IntKind.bits IntKind.u64))) (255:Int)),wrap64 (p0.2.1+1),IntKind.wrap IntKind.u64 (IntKind.wrap IntKind.u64 (IntKind.wrap IntKind.u64 (p0.2.2*(6364136223846793005:Int))+IntKind.wrap IntKind.u64 (wrap64 (List.getD p0.1 (Int.toNat p0.2.1) (0:Int))))+1442695040888963407)) else none else none else if decide (wrap64 (p0.2.1+1)≤(↑(List.length p0.1):Int))=true then some ((0:Int),wrap64 (p0.2.1+1),IntKind.wrap IntKind.u64 (IntKind.wrap IntKind.u64 (IntKind.wrap IntKind.u64 (p0.2.2*(6364136223846793005:Int))+IntKind.wrap IntKind.u64 (0:Int))+1442695040888963407)) else some (wrap64 (bits BinOp.and IntKind.u64 (Int.fdiv (IntKind.wrap IntKind.u64 (IntKind.wrap IntKind.u64 (IntKind.wrap IntKind.u64 (p0.2.2*(6364136223846793005:Int))+IntKind.wrap IntKind.u64 (0:Int))+1442695040888963407)) ((2:Int)^min (Int.toNat (40:Int)) (IntKind.bits IntKind.u64))) (255:Int)),wrap64 (p0.2.1+1),IntKind.wrap IntKind.u64 (IntKind.wrap IntKind.u64 (IntKind.wrap IntKind.u64 (p0.2.2*(6364136223846793005:Int))+IntKind.wrap IntKind.u64 (0:Int))+1442695040888963407))
noncomputable def Z49:FnDef:= .of ZqQ Zb8 (Int×Int×Int) (fun k x=>Z7R k x.1) Zp7 Zi6 Zzf
noncomputable def Zjt:Code:=Tryz.f128.body.getD .skip
noncomputable def ZeA:Ctx (Tup Zb8×OutD):={T:=T,G:=[],mvs:=[],no:=2,n:=62,res:=resOf T ZqQ Zb8 Tryz.f128.results.toList,loops:=[],regs:=[],conds:=[],cuts:=[]}
theorem ZGS(k:Nat):EnvOK Tryz.prog k ZeA.G:=(EnvOK.nil mixed)
theorem ZGG(k:Nat)(x:Tup Z49.ps):Z49.f (k+1) x=fnK Z49 ZeA Zjt k x:=by kernel_rfl
theorem ZHF(x:Tup Z49.ps):Z49.f 0 x=none:=by kernel_rfl
theorem ZH0(k:Nat):LOK Tryz.prog ZeA k Zjt:=LOK.by [] (by kernel_rfl) AllOK.nil
theorem ZHx(k:Nat):SoundAt Tryz.prog k 128 Z49.E:= @Z5 Tryz.prog Z49 ZeA 128 Tryz.f128 Zjt (by kernel_rfl) (by kernel_rfl) (by kernel_rfl) Tryz.func128 (by kernel_rfl) (by kernel_rfl) (by kernel_rfl) T_ok ZGS ZH0 ZHF ZGG k
noncomputable def ZeR:List PK:=[PK.mk I6 false none false none]
noncomputable def ZxF:List PK:=[PK.mk I6 false none false none,PK.mk I6 false none false none]
noncomputable def Zvo(r:Int):Tup ZeR×OutD:=((r,()),none)
noncomputable def ZuS:Tup ZeR×OutD→Option (Int)
 |(a,none)=>some (a.1)
 |_=>none
theorem ZGi: ∀b r,ZuS b=some r→Zvo r=b:=by
 rintro ⟨a,_|_⟩ r h<;>cases h;rfl
noncomputable def Z1l:Nat→Int→Int→Option Int
 |0,_,_=>none
 |k+1,p0,p1=>
  if decide (p0<p1)=true then some p0 else some p1
noncomputable def Z6A:FnDef:= .of ZxF ZeR (Int) (fun k x=>Z1l k x.1 x.2.1) Zvo ZuS ZGi
noncomputable def ZoL:Code:=Tryz.f129.body.getD .skip
noncomputable def Ziz:Ctx (Tup ZeR×OutD):={T:=T,G:=[],mvs:=[],no:=0,n:=10,res:=resOf T ZxF ZeR Tryz.f129.results.toList,loops:=[],regs:=[],conds:=[],cuts:=[]}
theorem ZOO(k:Nat):EnvOK Tryz.prog k Ziz.G:=(EnvOK.nil mixed)
theorem ZOd(k:Nat)(x:Tup Z6A.ps):Z6A.f (k+1) x=fnK Z6A Ziz ZoL k x:=by kernel_rfl
theorem ZP6(x:Tup Z6A.ps):Z6A.f 0 x=none:=by kernel_rfl
theorem ZOI(k:Nat):LOK Tryz.prog Ziz k ZoL:=LOK.by [] (by kernel_rfl) AllOK.nil
theorem ZO6(k:Nat):SoundAt Tryz.prog k 129 Z6A.E:= @Z5 Tryz.prog Z6A Ziz 129 Tryz.f129 ZoL (by kernel_rfl) (by kernel_rfl) (by kernel_rfl) Tryz.func129 (by kernel_rfl) (by kernel_rfl) (by kernel_rfl) T_ok ZOO ZOI ZP6 ZOd k
noncomputable def Zkb:List PK:=[PK.mk P6 true none false none]
noncomputable def ZIR:List PK:=[PK.mk (.pair I6 (.pair I6 (.slice 76 P6))) true none false none,PK.mk I6 false none false none,PK.mk I6 false none false none]
noncomputable def ZFm(r:Int×Int):Tup Zkb×OutD:=((r,()),none)
noncomputable def ZFr:Tup Zkb×OutD→Option (Int×Int)
 |(a,none)=>some (a.1)
 |_=>none
theorem ZLS: ∀b r,ZFr b=some r→ZFm r=b:=by
 rintro ⟨a,_|_⟩ r h<;>cases h;rfl
noncomputable def ZbE:Nat→Int×Int×List (Int×Int)→Int→Int→Option (Int×Int)
 |0,_,_,_=>none
 |k+1,p0,p1,p2=>
  if (0:Int)≤wrap64 (wrap64 (p1*p0.2.1)+p2) then if wrap64 (wrap64 (p1*p0.2.1)+p2)<(↑(List.length p0.2.2):Int) then some (Prod.fst (List.getD p0.2.2 (Int.toNat (wrap64 (wrap64 (p1*p0.2.1)+p2))) ((0:Int),(0:Int))),Prod.snd (List.getD p0.2.2 (Int.toNat (wrap64 (wrap64 (p1*p0.2.1)+p2))) ((0:Int),(0:Int)))) else none else none
noncomputable def Z6Y:FnDef:= .of ZIR Zkb (Int×Int) (fun k x=>ZbE k x.1 x.2.1 x.2.2.1) ZFm ZFr ZLS
noncomputable def ZwP:Code:=Tryz.f133.body.getD .skip
noncomputable def ZoQ:Ctx (Tup Zkb×OutD):={T:=T,G:=[],mvs:=[],no:=0,n:=17,res:=resOf T ZIR Zkb Tryz.f133.results.toList,loops:=[],regs:=[],conds:=[],cuts:=[]}
theorem ZTf(k:Nat):EnvOK Tryz.prog k ZoQ.G:=(EnvOK.nil mixed)
theorem ZT8(k:Nat)(x:Tup Z6Y.ps):Z6Y.f (k+1) x=fnK Z6Y ZoQ ZwP k x:=by kernel_rfl
theorem ZSH(x:Tup Z6Y.ps):Z6Y.f 0 x=none:=by kernel_rfl
theorem ZT5(k:Nat):LOK Tryz.prog ZoQ k ZwP:=LOK.by [] (by kernel_rfl) AllOK.nil
theorem Zwk(k:Nat):SoundAt Tryz.prog k 133 Z6Y.E:= @Z5 Tryz.prog Z6Y ZoQ 133 Tryz.f133 ZwP (by kernel_rfl) (by kernel_rfl) (by kernel_rfl) Tryz.func133 (by kernel_rfl) (by kernel_rfl) (by kernel_rfl) T_ok ZTf ZT5 ZSH ZT8 k
noncomputable def Zgv:List PK:=[PK.mk I6 false none false none]
noncomputable def ZBY:List PK:=[PK.mk P6 true none false none,PK.mk I6 false none false none]
noncomputable def Zzi(r:Int):Tup Zgv×OutD:=((r,()),none)
noncomputable def ZxV:Tup Zgv×OutD→Option (Int)
 |(a,none)=>some (a.1)
 |_=>none
theorem ZH2: ∀b r,ZxV b=some r→Zzi r=b:=by
 rintro ⟨a,_|_⟩ r h<;>cases h;rfl
noncomputable def Zdo:Nat→Int×Int→Int→Option Int
 |0,_,_=>none
 |k+1,p0,p1=>
  if decide (p0.1=1)=true then some (-1:Int) else if decide (p0.1=2)=true then some (1:Int) else if decide (p0.1=3)=true then some (wrap64 (wrap64 ((2:Int)*p0.2)-1)) else if decide (p0.1=6)=true then some (wrap64 (wrap64 ((2:Int)*p0.2)-1)) else if decide (p0.1=4)=true then some (wrap64 ((0:Int)-p1)) else some (0:Int)
noncomputable def Z6f:FnDef:= .of ZBY Zgv (Int) (fun k x=>Zdo k x.1 x.2.1) Zzi ZxV ZH2
noncomputable def Zq9:Code:=Tryz.f134.body.getD .skip
noncomputable def Zko:Ctx (Tup Zgv×OutD):={T:=T,G:=[],mvs:=[],no:=0,n:=22,res:=resOf T ZBY Zgv Tryz.f134.results.toList,loops:=[],regs:=[],conds:=[],cuts:=[]}
theorem ZQ7(k:Nat):EnvOK Tryz.prog k Zko.G:=(EnvOK.nil mixed)
theorem ZQz(k:Nat)(x:Tup Z6f.ps):Z6f.f (k+1) x=fnK Z6f Zko Zq9 k x:=by kernel_rfl
theorem ZQV(x:Tup Z6f.ps):Z6f.f 0 x=none:=by kernel_rfl
theorem ZQ1(k:Nat):LOK Tryz.prog Zko k Zq9:=LOK.by [] (by kernel_rfl) AllOK.nil
theorem ZB6(k:Nat):SoundAt Tryz.prog k 134 Z6f.E:= @Z5 Tryz.prog Z6f Zko 134 Tryz.f134 Zq9 (by kernel_rfl) (by kernel_rfl) (by kernel_rfl) Tryz.func134 (by kernel_rfl) (by kernel_rfl) (by kernel_rfl) T_ok ZQ7 ZQ1 ZQV ZQz k
noncomputable def Zgz:List PK:=[PK.mk .bool false none false none]
noncomputable def ZBV:List PK:=[PK.mk P6 true none false none]
noncomputable def Zzz(r:Bool):Tup Zgz×OutD:=((r,()),none)
noncomputable def ZzE:Tup Zgz×OutD→Option (Bool)
 |(a,none)=>some (a.1)
 |_=>none
theorem ZHZ: ∀b r,ZzE b=some r→Zzz r=b:=by
 rintro ⟨a,_|_⟩ r h<;>cases h;rfl
noncomputable def ZgB:Nat→Int×Int→Option Bool
 |0,_=>none
 |k+1,p0=>
  if decide (p0.1=(6:Int))=true then some true else some (decide (p0.1=(7:Int)))
noncomputable def Z80:FnDef:= .of ZBV Zgz (Bool) (fun k x=>ZgB k x.1) Zzz ZzE ZHZ
noncomputable def Zqg:Code:=Tryz.f136.body.getD .skip
noncomputable def Zkj:Ctx (Tup Zgz×OutD):={T:=T,G:=[],mvs:=[],no:=0,n:=11,res:=resOf T ZBV Zgz Tryz.f136.results.toList,loops:=[],regs:=[],conds:=[],cuts:=[]}
theorem ZQW(k:Nat):EnvOK Tryz.prog k Zkj.G:=(EnvOK.nil mixed)
theorem ZRf(k:Nat)(x:Tup Z80.ps):Z80.f (k+1) x=fnK Z80 Zkj Zqg k x:=by kernel_rfl
theorem ZPS(x:Tup Z80.ps):Z80.f 0 x=none:=by kernel_rfl
theorem ZQg(k:Nat):LOK Tryz.prog Zkj k Zqg:=LOK.by [] (by kernel_rfl) AllOK.nil
theorem ZQY(k:Nat):SoundAt Tryz.prog k 136 Z80.E:= @Z5 Tryz.prog Z80 Zkj 136 Tryz.f136 Zqg (by kernel_rfl) (by kernel_rfl) (by kernel_rfl) Tryz.func136 (by kernel_rfl) (by kernel_rfl) (by kernel_rfl) T_ok ZQW ZQg ZPS ZRf k
noncomputable def ZgP:List PK:=[PK.mk (.slice 3 I6) false none false none]
noncomputable def ZBB:List PK:=[PK.mk (.pair I6 (.pair I6 (.slice 76 P6))) true none false none,PK.mk I6 false none false none]
noncomputable def ZxL(r:List Int):Tup ZgP×OutD:=((r,()),none)
noncomputable def Zyp:Tup ZgP×OutD→Option (List Int)
 |(a,none)=>some (a.1)
 |_=>none
theorem ZIq: ∀b r,Zyp b=some r→ZxL r=b:=by
 rintro ⟨a,_|_⟩ r h<;>cases h;rfl
noncomputable def Zkd:Nat→Int×Int×List (Int×Int)→Int→Option (List Int)
 |0,_,_=>none
 |k+1,p0,p1=>
  if p0.2.1=0 then none else if p0.2.1=0 then none else if decide (wrap64 (Int.tdiv p1 p0.2.1)>0)=true then if decide (Int.tmod p1 p0.2.1>0)=true then if decide (wrap64 (Int.tmod p1 p0.2.1+1)<p0.2.1)=true then if decide (wrap64 (wrap64 (Int.tdiv p1 p0.2.1)+1)<p0.1)=true then some ([wrap64 (p1-p0.2.1)]++[wrap64 (p1-1)]++[wrap64 (p1+1)]++[wrap64 (p1+p0.2.1)]) else some ([wrap64 (p1-p0.2.1)]++[wrap64 (p1-1)]++[wrap64 (p1+1)]) else if decide (wrap64 (wrap64 (Int.tdiv p1 p0.2.1)+1)<p0.1)=true then some ([wrap64 (p1-p0.2.1)]++[wrap64 (p1-1)]++[wrap64 (p1+p0.2.1)]) else some ([wrap64 (p1-p0.2.1)]++[wrap64 (p1-1)]) else if decide (wrap64 (Int.tmod p1 p0.2.1+1)<p0.2.1)=true then if decide (wrap64 (wrap64 (Int.tdiv p1 p0.2.1)+1)<p0.1)=true then some ([wrap64 (p1-p0.2.1)]++[wrap64 (p1+1)]++[wrap64 (p1+p0.2.1)]) else some ([wrap64 (p1-p0.2.1)]++[wrap64 (p1+1)]) else if decide (wrap64 (wrap64 (Int.tdiv p1 p0.2.1)+1)<p0.1)=true then some ([wrap64 (p1-p0.2.1)]++[wrap64 (p1+p0.2.1)]) else some [wrap64 (p1-p0.2.1)] else if decide (Int.tmod p1 p0.2.1>0)=true then if decide (wrap64 (Int.tmod p1 p0.2.1+1)<p0.2.1)=true then if decide (wrap64 (wrap64 (Int.tdiv p1 p0.2.1)+1)<p0.1)=true then some ([wrap64 (p1-1)]++[wrap64 (p1+1)]++[wrap64 (p1+p0.2.1)]) else some ([wrap64 (p1-1)]++[wrap64 (p1+1)]) else if decide (wrap64 (wrap64 (Int.tdiv p1 p0.2.1)+1)<p0.1)=true then some ([wrap64 (p1-1)]++[wrap64 (p1+p0.2.1)]) else some [wrap64 (p1-1)] else if decide (wrap64 (Int.tmod p1 p0.2.1+1)<p0.2.1)=true then if decide (wrap64 (wrap64 (Int.tdiv p1 p0.2.1)+1)<p0.1)=true then some ([wrap64 (p1+1)]++[wrap64 (p1+p0.2.1)]) else some [wrap64 (p1+1)] else if decide (wrap64 (wrap64 (Int.tdiv p1 p0.2.1)+1)<p0.1)=true then some [wrap64 (p1+p0.2.1)] else some []
noncomputable def Z7X:FnDef:= .of ZBB ZgP (List Int) (fun k x=>Zkd k x.1 x.2.1) ZxL Zyp ZIq
noncomputable def Zq1:Code:=Tryz.f137.body.getD .skip
noncomputable def Zki:Ctx (Tup ZgP×OutD):={T:=T,G:=[],mvs:=[],no:=0,n:=55,res:=resOf T ZBB ZgP Tryz.f137.results.toList,loops:=[],regs:=[],conds:=[],cuts:=[]}
theorem ZQy(k:Nat):EnvOK Tryz.prog k Zki.G:=(EnvOK.nil mixed)
theorem ZQv(k:Nat)(x:Tup Z7X.ps):Z7X.f (k+1) x=fnK Z7X Zki Zq1 k x:=by kernel_rfl
theorem ZPM(x:Tup Z7X.ps):Z7X.f 0 x=none:=by kernel_rfl
theorem ZRe(k:Nat):LOK Tryz.prog Zki k Zq1:=LOK.by [] (by kernel_rfl) AllOK.nil
theorem ZQZ(k:Nat):SoundAt Tryz.prog k 137 Z7X.E:= @Z5 Tryz.prog Z7X Zki 137 Tryz.f137 Zq1 (by kernel_rfl) (by kernel_rfl) (by kernel_rfl) Tryz.func137 (by kernel_rfl) (by kernel_rfl) (by kernel_rfl) T_ok ZQy ZRe ZPM ZQv k
noncomputable def ZgS:List PK:=[PK.mk I6 false none false none]
noncomputable def ZJ0:List PK:=[PK.mk (.slice 58 T6) false none false none,PK.mk I6 false none false none,PK.mk I6 false none false none]
noncomputable def Ztw(r:Int):Tup ZgS×OutD:=((r,()),none)
noncomputable def Zs8:Tup ZgS×OutD→Option (Int)
 |(a,none)=>some (a.1)
 |_=>none
theorem ZuX: ∀b r,Zs8 b=some r→Ztw r=b:=by
 rintro ⟨a,_|_⟩ r h<;>cases h;rfl
noncomputable def Z82:Nat→Int→Int→List (Int×Int×Int)→Int→Int→Option (LR Unit Int)
 |0,_,_,_,_,_=>none
 |k+1,v1,v2,v9,v10,v11=>
  if decide (v11<v10)=true then if (0:Int)≤v11 then if v11<(↑(List.length v9):Int) then if decide (Prod.fst (Prod.snd (List.getD v9 (Int.toNat v11) ((0:Int),(0:Int),(0:Int))))=v1)=true then if decide (Prod.snd (Prod.snd (List.getD v9 (Int.toNat v11) ((0:Int),(0:Int),(0:Int))))=v2)=true then some (LR.ret (Prod.fst (List.getD v9 (Int.toNat v11) ((0:Int),(0:Int),(0:Int))))) else Z82 k v1 v2 v9 v10 (wrap64 (v11+1)) else Z82 k v1 v2 v9 v10 (wrap64 (v11+1)) else none else none else some (LR.go ())
noncomputable def ZnZ:Spec:=Spec.mk [.ro] [(1,.at (.int .i64)),(2,.at (.int .i64)),(9,.at (.snap 0 T6)),(10,.at (.int .i64)),(11,.at (.int .i64))]
noncomputable def ZP2:Spec:=Spec.mk [.ro] []
noncomputable def Zc1:LoopDef (Tup ZgS×OutD):= .rets ZnZ ZP2 (Unit) (Int) (fun k x=>Z82 k x.2.1 x.2.2.1 x.2.2.2.1 x.2.2.2.2.1 x.2.2.2.2.2.1) (fun z=>(((),()),(()))) (fun y=>()) (fun _=>rfl) Ztw Zs8 ZuX
noncomputable def ZoV:Nat→List (Int×Int×Int)→Int→Int→Option Int
 |0,_,_,_=>none
 |k+1,p0,p1,p2=>
  Option.bind (Z82 k p1 p2 p0 (↑(List.length p0):Int) (0:Int)) fun z0=>LR.on z0 (fun y0=>some (0:Int)) fun r0=>some r0
noncomputable def ZbJ:FnDef:= .of ZJ0 ZgS (Int) (fun k x=>ZoV k x.1 x.2.1 x.2.2.1) Ztw Zs8 ZuX
noncomputable def ZoY:Code:=Tryz.f138.body.getD .skip
noncomputable def Zeg:Ctx (Tup ZgS×OutD):={T:=T,G:=[],mvs:=[],no:=0,n:=28,res:=resOf T ZJ0 ZgS Tryz.f138.results.toList,loops:=[(0,Zc1.E)],regs:=[],conds:=[],cuts:=[]}
theorem ZJe(k:Nat):EnvOK Tryz.prog k Zeg.G:=(EnvOK.nil mixed)
noncomputable def ZiA:Code:=(findLoop 0 ZoY).getD .skip
theorem ZOK(k:Nat)(x:ZnZ.D):Zc1.lp (k+1) x=loopK Zeg Zc1 0 ZiA k x:=by kernel_rfl
theorem ZNG(k:Nat):LOK Tryz.prog Zeg k ZiA:=LOK.by [] (by kernel_rfl) AllOK.nil
theorem ZNy(x:ZnZ.D):Zc1.lp 0 x=none:=by kernel_rfl
theorem ZMk(k:Nat):EOK Tryz.prog Zeg k Zc1.E (.block 0 (.loop ZiA)):=Zd T_ok ZJe ZNy ZOK ZNG k
theorem ZSM(k:Nat)(x:Tup ZbJ.ps):ZbJ.f (k+1) x=fnK ZbJ Zeg ZoY k x:=by kernel_rfl
theorem ZTh(x:Tup ZbJ.ps):ZbJ.f 0 x=none:=by kernel_rfl
theorem ZTc(k:Nat):LOK Tryz.prog Zeg k ZoY:=LOK.by [(Zc1.E,.block 0 (.loop ZiA))] (by kernel_rfl) (AllOK.cons (ZMk k) AllOK.nil)
theorem ZTl(k:Nat):SoundAt Tryz.prog k 138 ZbJ.E:= @Z5 Tryz.prog ZbJ Zeg 138 Tryz.f138 ZoY (by kernel_rfl) (by kernel_rfl) (by kernel_rfl) Tryz.func138 (by kernel_rfl) (by kernel_rfl) (by kernel_rfl) T_ok ZJe ZTc ZTh ZSM k
noncomputable def ZgE:List PK:=[PK.mk P6 true none false none]
noncomputable def ZCe:List PK:=[PK.mk P6 true none false none]
noncomputable def ZyK(r:Int×Int):Tup ZgE×OutD:=((r,()),none)
noncomputable def Zzy:Tup ZgE×OutD→Option (Int×Int)
 |(a,none)=>some (a.1)
 |_=>none
theorem ZIr: ∀b r,Zzy b=some r→ZyK r=b:=by
 rintro ⟨a,_|_⟩ r h<;>cases h;rfl
noncomputable def Zgu:Nat→Int×Int→Option (Int×Int)
 |0,_=>none
 |k+1,p0=>
  some (p0.1,wrap64 ((1:Int)-p0.2))
noncomputable def Z7T:FnDef:= .of ZCe ZgE (Int×Int) (fun k x=>Zgu k x.1) ZyK Zzy ZIr
noncomputable def Zqf:Code:=Tryz.f139.body.getD .skip
noncomputable def Zkr:Ctx (Tup ZgE×OutD):={T:=T,G:=[],mvs:=[],no:=0,n:=9,res:=resOf T ZCe ZgE Tryz.f139.results.toList,loops:=[],regs:=[],conds:=[],cuts:=[]}
theorem ZQL(k:Nat):EnvOK Tryz.prog k Zkr.G:=(EnvOK.nil mixed)
theorem ZRc(k:Nat)(x:Tup Z7T.ps):Z7T.f (k+1) x=fnK Z7T Zkr Zqf k x:=by kernel_rfl
theorem ZQJ(x:Tup Z7T.ps):Z7T.f 0 x=none:=by kernel_rfl
theorem ZPU(k:Nat):LOK Tryz.prog Zkr k Zqf:=LOK.by [] (by kernel_rfl) AllOK.nil
theorem ZQl(k:Nat):SoundAt Tryz.prog k 139 Z7T.E:= @Z5 Tryz.prog Z7T Zkr 139 Tryz.f139 Zqf (by kernel_rfl) (by kernel_rfl) (by kernel_rfl) Tryz.func139 (by kernel_rfl) (by kernel_rfl) (by kernel_rfl) T_ok ZQL ZPU ZQJ ZRc k
end
end Go.Proofs.YtmhfhiofcoggbaaGreat.Vs
