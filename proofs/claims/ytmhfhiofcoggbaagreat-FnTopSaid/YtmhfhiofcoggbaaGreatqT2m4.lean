/- The proof, part 5. -/
import Derived.Test.YtmhfhiofcoggbaaGreatqT2m3
set_option maxRecDepth 100000
set_option maxHeartbeats 2000000
set_option linter.unusedVariables false
set_option linter.unusedSimpArgs false
namespace Go.Proofs.YtmhfhiofcoggbaaGreat.Vs
open Go.RowKit
noncomputable section
noncomputable def Zdh:List PK:=[PK.mk .bool false none false none]
noncomputable def ZBl:List PK:=[PK.mk (.pair I6 (.pair I6 (.slice 76 P6))) true none false none,PK.mk (.pair I6 (.pair I6 (.slice 76 P6))) true none false none]
noncomputable def ZoM(r:Bool):Tup Zdh×OutD:=((r,()),none)
noncomputable def Zol:Tup Zdh×OutD→Option (Bool)
 |(a,none)=>some (a.1)
 |_=>none
theorem ZqW: ∀b r,Zol b=some r→ZoM r=b:=by
 rintro ⟨a,_|_⟩ r h<;>cases h;rfl
noncomputable def Zao:Nat→Int→Int→List (Int×Int)→Int→Int→List (Int×Int)→Int→Int→Option (LR Unit Bool)
 |0,_,_,_,_,_,_,_,_=>none
 |k+1,b1_0,b1_1,b1_2,b2_0,b2_1,b2_2,v29,v30=>
  if decide (v30<v29)=true then if (0:Int)≤v30 then if v30<(↑(List.length b1_2):Int) then if (0:Int)≤v30 then if v30<(↑(List.length b2_2):Int) then if (!(decide (Prod.fst (List.getD b1_2 (Int.toNat v30) ((0:Int),(0:Int)))=Prod.fst (List.getD b2_2 (Int.toNat v30) ((0:Int),(0:Int))))&&(decide (Prod.snd (List.getD b1_2 (Int.toNat v30) ((0:Int),(0:Int)))=Prod.snd (List.getD b2_2 (Int.toNat v30) ((0:Int),(0:Int))))&&true)))=true then some (LR.ret false) else Zao k b1_0 b1_1 b1_2 b2_0 b2_1 b2_2 v29 (wrap64 (v30+1)) else none else none else none else none else some (LR.go ())
noncomputable def Zle:Spec:=Spec.mk [.ro,O2,O2] [(2,.at (.ptr 1 0)),(3,.at (.ptr 2 0)),(29,.at (.int .i64)),(30,.at (.int .i64))]
noncomputable def ZJV:Spec:=Spec.mk [.ro] []
noncomputable def Z98:LoopDef (Tup Zdh×OutD):= .rets Zle ZJV (Unit) (Bool) (fun k x=>Zao k x.1.2.1.1 x.1.2.1.2.1 x.1.2.1.2.2.1 x.1.2.2.1.1 x.1.2.2.1.2.1 x.1.2.2.1.2.2.1 x.2.2.2.1 x.2.2.2.2.1) (fun z=>(((),()),(()))) (fun y=>()) (fun _=>rfl) ZoM Zol ZqW
noncomputable def Zgv:Nat→Int×Int×List (Int×Int)→Int×Int×List (Int×Int)→Option Bool
 |0,_,_=>none
 |k+1,p0,p1=>
  if decide (p0.1≠p1.1)=true then some false else if decide (p0.2.1≠p1.2.1)=true then some false else if decide ((↑(List.length p0.2.2):Int)≠(↑(List.length p1.2.2):Int))=true then some false else Option.bind (Zao k p0.1 p0.2.1 p0.2.2 p1.1 p1.2.1 p1.2.2 (↑(List.length p0.2.2):Int) (0:Int)) fun z0=>LR.on z0 (fun y0=>some true) fun r0=>some r0
noncomputable def Z7U:FnDef:= .of ZBl Zdh (Bool) (fun k x=>Zgv k x.1 x.2.1) ZoM Zol ZqW
noncomputable def Zko:Code:=Tryz.f7.body.getD .skip
noncomputable def ZaV:Ctx (Tup Zdh×OutD):={T:=T,G:=[],mvs:=[],no:=0,n:=45,res:=resOf T ZBl Zdh Tryz.f7.results.toList,loops:=[(0,Z98.E)],regs:=[],conds:=[],cuts:=[]}
theorem ZBk(k:Nat):EnvOK Tryz.prog k ZaV.G:=(EnvOK.nil mixed)
noncomputable def Zfz:Code:=(findLoop 0 Zko).getD .skip
theorem ZJy(k:Nat)(x:Zle.D):Z98.lp (k+1) x=loopK ZaV Z98 0 Zfz k x:=by kernel_rfl
theorem ZJX(k:Nat):LOK Tryz.prog ZaV k Zfz:=LOK.by [] (by kernel_rfl) AllOK.nil
theorem ZLy(x:Zle.D):Z98.lp 0 x=none:=by kernel_rfl
theorem ZHx(k:Nat):EOK Tryz.prog ZaV k Z98.E (.block 0 (.loop Zfz)):=Zd T_ok ZBk ZLy ZJy ZJX k
theorem ZRi(k:Nat)(x:Tup Z7U.ps):Z7U.f (k+1) x=fnK Z7U ZaV Zko k x:=by kernel_rfl
theorem ZRd(x:Tup Z7U.ps):Z7U.f 0 x=none:=by kernel_rfl
theorem ZQK(k:Nat):LOK Tryz.prog ZaV k Zko:=LOK.by [(Z98.E,.block 0 (.loop Zfz))] (by kernel_rfl) (AllOK.cons (ZHx k) AllOK.nil)
theorem ZQ1(k:Nat):SoundAt Tryz.prog k 7 Z7U.E:= @Z5 Tryz.prog Z7U ZaV 7 Tryz.f7 Zko (by kernel_rfl) (by kernel_rfl) (by kernel_rfl) Tryz.func7 (by kernel_rfl) (by kernel_rfl) (by kernel_rfl) T_ok ZBk ZQK ZRd ZRi k
noncomputable def ZeO:List PK:=[PK.mk .bool false none false none]
noncomputable def ZFk:List PK:=[PK.mk (.slice 3 I6) false none false none,PK.mk (.slice 3 I6) false none false none]
noncomputable def Zqg(r:Bool):Tup ZeO×OutD:=((r,()),none)
noncomputable def Zqb:Tup ZeO×OutD→Option (Bool)
 |(a,none)=>some (a.1)
 |_=>none
theorem Zt9: ∀b r,Zqb b=some r→Zqg r=b:=by
 rintro ⟨a,_|_⟩ r h<;>cases h;rfl
noncomputable def Zc5:Nat→List Int→List Int→Int→Int→Option (LR Unit Bool)
 |0,_,_,_,_=>none
 |k+1,v0,v1,v12,v13=>
  if decide (v13<v12)=true then if (0:Int)≤v13 then if v13<(↑(List.length v0):Int) then if (0:Int)≤v13 then if v13<(↑(List.length v1):Int) then if decide (List.getD v0 (Int.toNat v13) (0:Int)≠List.getD v1 (Int.toNat v13) (0:Int))=true then some (LR.ret false) else Zc5 k v0 v1 v12 (wrap64 (v13+1)) else none else none else none else none else some (LR.go ())
noncomputable def ZmG:Spec:=Spec.mk [.ro] [(0,.at (.snap 0 I6)),(1,.at (.snap 0 I6)),(12,.at (.int .i64)),(13,.at (.int .i64))]
noncomputable def ZM3:Spec:=Spec.mk [.ro] []
noncomputable def Zab:LoopDef (Tup ZeO×OutD):= .rets ZmG ZM3 (Unit) (Bool) (fun k x=>Zc5 k x.2.1 x.2.2.1 x.2.2.2.1 x.2.2.2.2.1) (fun z=>(((),()),(()))) (fun y=>()) (fun _=>rfl) Zqg Zqb Zt9
noncomputable def Zie:Nat→List Int→List Int→Option Bool
 |0,_,_=>none
 |k+1,p0,p1=>
  if decide ((↑(List.length p0):Int)≠(↑(List.length p1):Int))=true then some false else Option.bind (Zc5 k p0 p1 (↑(List.length p0):Int) (0:Int)) fun z0=>LR.on z0 (fun y0=>some true) fun r0=>some r0
noncomputable def Z75:FnDef:= .of ZFk ZeO (Bool) (fun k x=>Zie k x.1 x.2.1) Zqg Zqb Zt9
noncomputable def ZmO:Code:=Tryz.f19.body.getD .skip
noncomputable def Zch:Ctx (Tup ZeO×OutD):={T:=T,G:=[],mvs:=[],no:=0,n:=26,res:=resOf T ZFk ZeO Tryz.f19.results.toList,loops:=[(0,Zab.E)],regs:=[],conds:=[],cuts:=[]}
theorem ZG0(k:Nat):EnvOK Tryz.prog k Zch.G:=(EnvOK.nil mixed)
noncomputable def Zhe:Code:=(findLoop 0 ZmO).getD .skip
theorem ZMF(k:Nat)(x:ZmG.D):Zab.lp (k+1) x=loopK Zch Zab 0 Zhe k x:=by kernel_rfl
theorem ZMi(k:Nat):LOK Tryz.prog Zch k Zhe:=LOK.by [] (by kernel_rfl) AllOK.nil
theorem ZMU(x:ZmG.D):Zab.lp 0 x=none:=by kernel_rfl
theorem ZKr(k:Nat):EOK Tryz.prog Zch k Zab.E (.block 0 (.loop Zhe)):=Zd T_ok ZG0 ZMU ZMF ZMi k
theorem ZRv(k:Nat)(x:Tup Z75.ps):Z75.f (k+1) x=fnK Z75 Zch ZmO k x:=by kernel_rfl
theorem ZRS(x:Tup Z75.ps):Z75.f 0 x=none:=by kernel_rfl
theorem ZRp(k:Nat):LOK Tryz.prog Zch k ZmO:=LOK.by [(Zab.E,.block 0 (.loop Zhe))] (by kernel_rfl) (AllOK.cons (ZKr k) AllOK.nil)
theorem ZFr(k:Nat):SoundAt Tryz.prog k 19 Z75.E:= @Z5 Tryz.prog Z75 Zch 19 Tryz.f19 ZmO (by kernel_rfl) (by kernel_rfl) (by kernel_rfl) Tryz.func19 (by kernel_rfl) (by kernel_rfl) (by kernel_rfl) T_ok ZG0 ZRp ZRS ZRv k
noncomputable def ZgT:List PK:=[PK.mk I6 false none false none]
noncomputable def ZIN:List PK:=[PK.mk (.slice 3 I6) false none false none]
noncomputable def ZEN(r:Int):Tup ZgT×OutD:=((r,()),none)
noncomputable def ZGh:Tup ZgT×OutD→Option (Int)
 |(a,none)=>some (a.1)
 |_=>none
theorem ZLO: ∀b r,ZGh b=some r→ZEN r=b:=by
 rintro ⟨a,_|_⟩ r h<;>cases h;rfl
noncomputable def Zdj:Nat→Int→List Int→Int→Int→Option Int
 |0,_,_,_,_=>none
 |k+1,v3,v6,v7,v8=>
  if decide (v8<v7)=true then if (0:Int)≤v8 then if v8<(↑(List.length v6):Int) then Zdj k (wrap64 (v3+List.getD v6 (Int.toNat v8) (0:Int))) v6 v7 (wrap64 (v8+1)) else none else none else some v3
noncomputable def Zo5:Spec:=Spec.mk [.ro] [(3,.at (.int .i64)),(6,.at (.snap 0 I6)),(7,.at (.int .i64)),(8,.at (.int .i64))]
noncomputable def ZOQ:Spec:=Spec.mk [.ro] [(3,.at (.int .i64))]
noncomputable def Zc0:LoopDef (Tup ZgT×OutD):= .plain Zo5 ZOQ (Int) (fun k x=>Zdj k x.2.1 x.2.2.1 x.2.2.2.1 x.2.2.2.2.1) (fun z=>(((),()),(z,()))) (fun y=>(y.2.1)) (fun _=>rfl)
noncomputable def ZoU:Nat→List Int→Option Int
 |0,_=>none
 |k+1,p0=>
  Option.bind (Zdj k (0:Int) p0 (↑(List.length p0):Int) (0:Int)) fun z0=>some z0
noncomputable def ZbF:FnDef:= .of ZIN ZgT (Int) (fun k x=>ZoU k x.1) ZEN ZGh ZLO
noncomputable def ZoT:Code:=Tryz.f20.body.getD .skip
noncomputable def Zef:Ctx (Tup ZgT×OutD):={T:=T,G:=[],mvs:=[],no:=0,n:=17,res:=resOf T ZIN ZgT Tryz.f20.results.toList,loops:=[(0,Zc0.E)],regs:=[],conds:=[],cuts:=[]}
theorem ZIQ(k:Nat):EnvOK Tryz.prog k Zef.G:=(EnvOK.nil mixed)
noncomputable def ZiL:Code:=(findLoop 0 ZoT).getD .skip
theorem ZNp(k:Nat)(x:Zo5.D):Zc0.lp (k+1) x=loopK Zef Zc0 0 ZiL k x:=by kernel_rfl
theorem ZOE(k:Nat):LOK Tryz.prog Zef k ZiL:=LOK.by [] (by kernel_rfl) AllOK.nil
theorem ZNr(x:Zo5.D):Zc0.lp 0 x=none:=by kernel_rfl
theorem ZMf(k:Nat):EOK Tryz.prog Zef k Zc0.E (.block 0 (.loop ZiL)):=Zd T_ok ZIQ ZNr ZNp ZOE k
theorem ZSJ(k:Nat)(x:Tup ZbF.ps):ZbF.f (k+1) x=fnK ZbF Zef ZoT k x:=by kernel_rfl
theorem ZTg(x:Tup ZbF.ps):ZbF.f 0 x=none:=by kernel_rfl
theorem ZT7(k:Nat):LOK Tryz.prog Zef k ZoT:=LOK.by [(Zc0.E,.block 0 (.loop ZiL))] (by kernel_rfl) (AllOK.cons (ZMf k) AllOK.nil)
theorem ZTo(k:Nat):SoundAt Tryz.prog k 20 ZbF.E:= @Z5 Tryz.prog ZbF Zef 20 Tryz.f20 ZoT (by kernel_rfl) (by kernel_rfl) (by kernel_rfl) Tryz.func20 (by kernel_rfl) (by kernel_rfl) (by kernel_rfl) T_ok ZIQ ZT7 ZTg ZSJ k
noncomputable def ZbP:List PK:=[PK.mk .bool false none false none]
noncomputable def ZxE:List PK:=[PK.mk (.slice 58 T6) false none false none,PK.mk (.slice 58 T6) false none false none]
noncomputable def Zmn(r:Bool):Tup ZbP×OutD:=((r,()),none)
noncomputable def ZmV:Tup ZbP×OutD→Option (Bool)
 |(a,none)=>some (a.1)
 |_=>none
theorem ZpE: ∀b r,ZmV b=some r→Zmn r=b:=by
 rintro ⟨a,_|_⟩ r h<;>cases h;rfl
noncomputable def Z9d:Nat→List (Int×Int×Int)→List (Int×Int×Int)→Int→Int→Option (LR Unit Bool)
 |0,_,_,_,_=>none
 |k+1,v0,v1,v12,v13=>
  if decide (v13<v12)=true then if (0:Int)≤v13 then if v13<(↑(List.length v0):Int) then if (0:Int)≤v13 then if v13<(↑(List.length v1):Int) then if (!(decide (Prod.fst (List.getD v0 (Int.toNat v13) ((0:Int),(0:Int),(0:Int)))=Prod.fst (List.getD v1 (Int.toNat v13) ((0:Int),(0:Int),(0:Int))))&&(decide (Prod.fst (Prod.snd (List.getD v0 (Int.toNat v13) ((0:Int),(0:Int),(0:Int))))=Prod.fst (Prod.snd (List.getD v1 (Int.toNat v13) ((0:Int),(0:Int),(0:Int)))))&&(decide (Prod.snd (Prod.snd (List.getD v0 (Int.toNat v13) ((0:Int),(0:Int),(0:Int))))=Prod.snd (Prod.snd (List.getD v1 (Int.toNat v13) ((0:Int),(0:Int),(0:Int)))))&&true))))=true then some (LR.ret false) else Z9d k v0 v1 v12 (wrap64 (v13+1)) else none else none else none else none else some (LR.go ())
noncomputable def ZjS:Spec:=Spec.mk [.ro] [(0,.at (.snap 0 T6)),(1,.at (.snap 0 T6)),(12,.at (.int .i64)),(13,.at (.int .i64))]
noncomputable def ZGU:Spec:=Spec.mk [.ro] []
noncomputable def Z7A:LoopDef (Tup ZbP×OutD):= .rets ZjS ZGU (Unit) (Bool) (fun k x=>Z9d k x.2.1 x.2.2.1 x.2.2.2.1 x.2.2.2.2.1) (fun z=>(((),()),(()))) (fun y=>()) (fun _=>rfl) Zmn ZmV ZpE
noncomputable def ZiK:Nat→List (Int×Int×Int)→List (Int×Int×Int)→Option Bool
 |0,_,_=>none
 |k+1,p0,p1=>
  if decide ((↑(List.length p0):Int)≠(↑(List.length p1):Int))=true then some false else Option.bind (Z9d k p0 p1 (↑(List.length p0):Int) (0:Int)) fun z0=>LR.on z0 (fun y0=>some true) fun r0=>some r0
noncomputable def Z6I:FnDef:= .of ZxE ZbP (Bool) (fun k x=>ZiK k x.1 x.2.1) Zmn ZmV ZpE
noncomputable def ZiB:Code:=Tryz.f23.body.getD .skip
noncomputable def Z8B:Ctx (Tup ZbP×OutD):={T:=T,G:=[],mvs:=[],no:=0,n:=26,res:=resOf T ZxE ZbP Tryz.f23.results.toList,loops:=[(0,Z7A.E)],regs:=[],conds:=[],cuts:=[]}
theorem Zy2(k:Nat):EnvOK Tryz.prog k Z8B.G:=(EnvOK.nil mixed)
noncomputable def Zew:Code:=(findLoop 0 ZiB).getD .skip
theorem ZIk(k:Nat)(x:ZjS.D):Z7A.lp (k+1) x=loopK Z8B Z7A 0 Zew k x:=by kernel_rfl
theorem ZGL(k:Nat):LOK Tryz.prog Z8B k Zew:=LOK.by [] (by kernel_rfl) AllOK.nil
theorem ZGR(x:ZjS.D):Z7A.lp 0 x=none:=by kernel_rfl
theorem ZEI(k:Nat):EOK Tryz.prog Z8B k Z7A.E (.block 0 (.loop Zew)):=Zd T_ok Zy2 ZGR ZIk ZGL k
theorem ZNu(k:Nat)(x:Tup Z6I.ps):Z6I.f (k+1) x=fnK Z6I Z8B ZiB k x:=by kernel_rfl
theorem ZNA(x:Tup Z6I.ps):Z6I.f 0 x=none:=by kernel_rfl
theorem ZOM(k:Nat):LOK Tryz.prog Z8B k ZiB:=LOK.by [(Z7A.E,.block 0 (.loop Zew))] (by kernel_rfl) (AllOK.cons (ZEI k) AllOK.nil)
theorem ZNH(k:Nat):SoundAt Tryz.prog k 23 Z6I.E:= @Z5 Tryz.prog Z6I Z8B 23 Tryz.f23 ZiB (by kernel_rfl) (by kernel_rfl) (by kernel_rfl) Tryz.func23 (by kernel_rfl) (by kernel_rfl) (by kernel_rfl) T_ok Zy2 ZOM ZNA ZNu k
noncomputable def Zda:List PK:=[PK.mk .bool false none false none]
noncomputable def ZBd:List PK:=[PK.mk (.slice 40 T6) false none false none,PK.mk (.slice 40 T6) false none false none]
noncomputable def ZoD(r:Bool):Tup Zda×OutD:=((r,()),none)
noncomputable def Zo6:Tup Zda×OutD→Option (Bool)
 |(a,none)=>some (a.1)
 |_=>none
theorem ZqC: ∀b r,Zo6 b=some r→ZoD r=b:=by
 rintro ⟨a,_|_⟩ r h<;>cases h;rfl
noncomputable def ZaE:Nat→List (Int×Int×Int)→List (Int×Int×Int)→Int→Int→Option (LR Unit Bool)
 |0,_,_,_,_=>none
 |k+1,v0,v1,v12,v13=>
  if decide (v13<v12)=true then if (0:Int)≤v13 then if v13<(↑(List.length v0):Int) then if (0:Int)≤v13 then if v13<(↑(List.length v1):Int) then if (!(decide (Prod.fst (List.getD v0 (Int.toNat v13) ((0:Int),(0:Int),(0:Int)))=Prod.fst (List.getD v1 (Int.toNat v13) ((0:Int),(0:Int),(0:Int))))&&(decide (Prod.fst (Prod.snd (List.getD v0 (Int.toNat v13) ((0:Int),(0:Int),(0:Int))))=Prod.fst (Prod.snd (List.getD v1 (Int.toNat v13) ((0:Int),(0:Int),(0:Int)))))&&(decide (Prod.snd (Prod.snd (List.getD v0 (Int.toNat v13) ((0:Int),(0:Int),(0:Int))))=Prod.snd (Prod.snd (List.getD v1 (Int.toNat v13) ((0:Int),(0:Int),(0:Int)))))&&true))))=true then some (LR.ret false) else ZaE k v0 v1 v12 (wrap64 (v13+1)) else none else none else none else none else some (LR.go ())
noncomputable def Zlh:Spec:=Spec.mk [.ro] [(0,.at (.snap 0 T6)),(1,.at (.snap 0 T6)),(12,.at (.int .i64)),(13,.at (.int .i64))]
noncomputable def ZJO:Spec:=Spec.mk [.ro] []
noncomputable def Z9e:LoopDef (Tup Zda×OutD):= .rets Zlh ZJO (Unit) (Bool) (fun k x=>ZaE k x.2.1 x.2.2.1 x.2.2.2.1 x.2.2.2.2.1) (fun z=>(((),()),(()))) (fun y=>()) (fun _=>rfl) ZoD Zo6 ZqC
noncomputable def ZkE:Nat→List (Int×Int×Int)→List (Int×Int×Int)→Option Bool
 |0,_,_=>none
 |k+1,p0,p1=>
  if decide ((↑(List.length p0):Int)≠(↑(List.length p1):Int))=true then some false else Option.bind (ZaE k p0 p1 (↑(List.length p0):Int) (0:Int)) fun z0=>LR.on z0 (fun y0=>some true) fun r0=>some r0
noncomputable def Z7Z:FnDef:= .of ZBd Zda (Bool) (fun k x=>ZkE k x.1 x.2.1) ZoD Zo6 ZqC
noncomputable def Zkq:Code:=Tryz.f26.body.getD .skip
noncomputable def ZaP:Ctx (Tup Zda×OutD):={T:=T,G:=[],mvs:=[],no:=0,n:=26,res:=resOf T ZBd Zda Tryz.f26.results.toList,loops:=[(0,Z9e.E)],regs:=[],conds:=[],cuts:=[]}
theorem ZCc(k:Nat):EnvOK Tryz.prog k ZaP.G:=(EnvOK.nil mixed)
noncomputable def ZfU:Code:=(findLoop 0 Zkq).getD .skip
theorem ZK4(k:Nat)(x:Zlh.D):Z9e.lp (k+1) x=loopK ZaP Z9e 0 ZfU k x:=by kernel_rfl
theorem ZJS(k:Nat):LOK Tryz.prog ZaP k ZfU:=LOK.by [] (by kernel_rfl) AllOK.nil
theorem ZJC(x:Zlh.D):Z9e.lp 0 x=none:=by kernel_rfl
theorem ZH4(k:Nat):EOK Tryz.prog ZaP k Z9e.E (.block 0 (.loop ZfU)):=Zd T_ok ZCc ZJC ZK4 ZJS k
theorem ZQV(k:Nat)(x:Tup Z7Z.ps):Z7Z.f (k+1) x=fnK Z7Z ZaP Zkq k x:=by kernel_rfl
theorem ZQ0(x:Tup Z7Z.ps):Z7Z.f 0 x=none:=by kernel_rfl
theorem ZQg(k:Nat):LOK Tryz.prog ZaP k Zkq:=LOK.by [(Z9e.E,.block 0 (.loop ZfU))] (by kernel_rfl) (AllOK.cons (ZH4 k) AllOK.nil)
theorem ZR3(k:Nat):SoundAt Tryz.prog k 26 Z7Z.E:= @Z5 Tryz.prog Z7Z ZaP 26 Tryz.f26 Zkq (by kernel_rfl) (by kernel_rfl) (by kernel_rfl) Tryz.func26 (by kernel_rfl) (by kernel_rfl) (by kernel_rfl) T_ok ZCc ZQg ZQ0 ZQV k
noncomputable def Z5V:List PK:=[PK.mk (.slice 3 I6) false none false none]
noncomputable def Znr:List PK:=[PK.mk (.slice 3 I6) false none false none,PK.mk (.pair I6 (.slice 3 I6)) true none false none]
noncomputable def Zn4(r:List Int):Tup Z5V×OutD:=((r,()),none)
noncomputable def Zn9:Tup Z5V×OutD→Option (List Int)
 |(a,none)=>some (a.1)
 |_=>none
theorem Zuy: ∀b r,Zn9 b=some r→Zn4 r=b:=by
 rintro ⟨a,_|_⟩ r h<;>cases h;rfl
noncomputable def Z3m:Nat→Int→List Int→List Int→List Int→Int→Int→Option (List Int)
 |0,_,_,_,_,_,_=>none
 |k+1,b1_0,b1_1,o2,v9,v10,v11=>
  if decide (v11<v10)=true then if (0:Int)≤v11 then if v11<(↑(List.length v9):Int) then if (0:Int)≤v11 then if v11<(↑(List.length b1_1):Int) then if decide (List.getD v9 (Int.toNat v11) (0:Int)≠List.getD b1_1 (Int.toNat v11) (0:Int))=true then if List.length o2+List.length [v11]≤(140737488355328/8:Nat) then Z3m k b1_0 b1_1 (o2++[v11]) v9 v10 (wrap64 (v11+1)) else none else Z3m k b1_0 b1_1 o2 v9 v10 (wrap64 (v11+1)) else none else none else none else none else some o2
noncomputable def Ze1:Spec:=Spec.mk [.ro,.box 24 [.int .i64,.snap 0 I6],O1] [(3,.at (.ptr 1 0)),(5,.at (.sl 2)),(9,.at (.snap 0 I6)),(10,.at (.int .i64)),(11,.at (.int .i64))]
noncomputable def Zwv:Spec:=Spec.mk [.ro,O1] [(5,.at (.sl 1))]
noncomputable def Z45:LoopDef (Tup Z5V×OutD):= .plain Ze1 Zwv (List Int) (fun k x=>Z3m k x.1.2.1.1 x.1.2.1.2.1 x.1.2.2.1 x.2.2.2.1 x.2.2.2.2.1 x.2.2.2.2.2.1) (fun z=>(((),z,()),((),()))) (fun y=>(y.1.2.1)) (fun _=>rfl)
noncomputable def ZgW:Nat→List Int→Int×List Int→Option (List Int)
 |0,_,_=>none
 |k+1,p0,p1=>
  Option.bind (Z3m k p1.1 p1.2 [] p0 (↑(List.length p0):Int) (0:Int)) fun z0=>some z0
noncomputable def Z30:FnDef:= .of Znr Z5V (List Int) (fun k x=>ZgW k x.1 x.2.1) Zn4 Zn9 Zuy
noncomputable def ZcM:Code:=Tryz.f36.body.getD .skip
noncomputable def Z4j:Ctx (Tup Z5V×OutD):={T:=T,G:=[],mvs:=[],no:=0,n:=29,res:=resOf T Znr Z5V Tryz.f36.results.toList,loops:=[(0,Z45.E)],regs:=[],conds:=[],cuts:=[]}
theorem Znq(k:Nat):EnvOK Tryz.prog k Z4j.G:=(EnvOK.nil mixed)
noncomputable def Z9v:Code:=(findLoop 0 ZcM).getD .skip
theorem ZvS(k:Nat)(x:Ze1.D):Z45.lp (k+1) x=loopK Z4j Z45 0 Z9v k x:=by kernel_rfl
theorem Zxe(k:Nat):LOK Tryz.prog Z4j k Z9v:=LOK.by [] (by kernel_rfl) AllOK.nil
theorem Zxm(x:Ze1.D):Z45.lp 0 x=none:=by kernel_rfl
theorem Zu1(k:Nat):EOK Tryz.prog Z4j k Z45.E (.block 0 (.loop Z9v)):=Zd T_ok Znq Zxm ZvS Zxe k
theorem ZDt(k:Nat)(x:Tup Z30.ps):Z30.f (k+1) x=fnK Z30 Z4j ZcM k x:=by kernel_rfl
theorem ZCT(x:Tup Z30.ps):Z30.f 0 x=none:=by kernel_rfl
theorem ZCm(k:Nat):LOK Tryz.prog Z4j k ZcM:=LOK.by [(Z45.E,.block 0 (.loop Z9v))] (by kernel_rfl) (AllOK.cons (Zu1 k) AllOK.nil)
theorem ZCY(k:Nat):SoundAt Tryz.prog k 36 Z30.E:= @Z5 Tryz.prog Z30 Z4j 36 Tryz.f36 ZcM (by kernel_rfl) (by kernel_rfl) (by kernel_rfl) Tryz.func36 (by kernel_rfl) (by kernel_rfl) (by kernel_rfl) T_ok Znq ZCm ZCT ZDt k
noncomputable def Z8y:List PK:=[PK.mk (.pair I6 (.pair I6 (.slice 76 P6))) true none false none]
noncomputable def ZrN:List PK:=[PK.mk (.pair I6 (.pair I6 (.slice 76 P6))) true none false none]
noncomputable def Zqo(r:Int×Int×List (Int×Int)):Tup Z8y×OutD:=((r,()),none)
noncomputable def ZqS:Tup Z8y×OutD→Option (Int×Int×List (Int×Int))
 |(a,none)=>some (a.1)
 |_=>none
theorem ZA4: ∀b r,ZqS b=some r→Zqo r=b:=by
 rintro ⟨a,_|_⟩ r h<;>cases h;rfl
noncomputable def Z5S:Nat→Int→Int→List (Int×Int)→Int→Int→List (Int×Int)→Option (Int×Int×List (Int×Int)):=fun k b1_0 b1_1 b1_2 b2_0 b2_1 o3=>
  if (0:Nat)+List.length b1_2≤(140737488355328/16:Nat) then some (b1_0,b1_1,b1_2) else none
noncomputable def Zbk:Nat→Int→Int→List (Int×Int)→Int→Int→List (Int×Int)→Option (List (Int×Int×List (Int×Int))):=fun k b1_0 b1_1 b1_2 b2_0 b2_1 o3=>
  joinL (joinL (if (0:Nat)+List.length b1_2≤(140737488355328/16:Nat) then some [(b1_0,b1_1,b1_2)] else none) (joinL (if (0:Nat)+List.length b1_2≤(140737488355328/16:Nat) then some [(b1_0,b1_1,b1_2)] else none) (if (0:Nat)+List.length b1_2≤(140737488355328/16:Nat) then some [(b1_0,b1_1,b1_2)] else none))) (joinL (joinL (if (0:Nat)+List.length b1_2≤(140737488355328/16:Nat) then some [(b1_0,b1_1,b1_2)] else none) (joinL (if (0:Nat)+List.length b1_2≤(140737488355328/16:Nat) then some [(b1_0,b1_1,b1_2)] else none) (if (0:Nat)+List.length b1_2≤(140737488355328/16:Nat) then some [(b1_0,b1_1,b1_2)] else none))) (joinL (joinL (if (0:Nat)+List.length b1_2≤(140737488355328/16:Nat) then some [(b1_0,b1_1,b1_2)] else none) (if (0:Nat)+List.length b1_2≤(140737488355328/16:Nat) then some [(b1_0,b1_1,b1_2)] else none)) (joinL (joinL (if (0:Nat)+List.length b1_2≤(140737488355328/16:Nat) then some [(b1_0,b1_1,b1_2)] else none) (if (0:Nat)+List.length b1_2≤(140737488355328/16:Nat) then some [(b1_0,b1_1,b1_2)] else none)) (if (0:Nat)+List.length b1_2≤(140737488355328/16:Nat) then joinL (some [(b1_0,b1_1,b1_2)]) (some [(b1_0,b1_1,b1_2)]) else none))))
noncomputable def Zmo:Spec:=Spec.mk [.ro,O2,Oa,O0] [(1,.at (.ptr 1 0)),(2,.at (.ptr 2 0))]
noncomputable def ZzI:Spec:=Spec.mk [.ro,Obq,O0] [(2,.at (.ptr 1 0))]
noncomputable def Z5d:LoopDef (Tup Z8y×OutD):= .plain Zmo ZzI (Int×Int×List (Int×Int)) (fun k x=>Z5S k x.1.2.1.1 x.1.2.1.2.1 x.1.2.1.2.2.1 x.1.2.2.1.1 x.1.2.2.1.2.1 x.1.2.2.2.1) (fun z=>(((),(z.1,z.2.1,(),()),z.2.2,()),((),()))) (fun y=>(y.1.2.1.1,y.1.2.1.2.1,y.1.2.2.1)) (fun _=>rfl)
theorem ZAr(k:Nat)(b1_0:Int)(b1_1:Int)(b1_2:List (Int×Int))(b2_0:Int)(b2_1:Int)(o3:List (Int×Int)):Zbk k b1_0 b1_1 b1_2 b2_0 b2_1 o3=repl 12 (Z5S k b1_0 b1_1 b1_2 b2_0 b2_1 o3):=by
 first
 |(simp only[Zbk,Z5S,Z7,Zc,Z8,Z9,Z6,Z3,if_true];done)
 |(simp only[Zbk,Z5S,Z7,Zc,Z8,Z9,Z6,Z3,if_true];simp only[Z1g,Z1i,Z2p,Z3];simp only[Z3E];exact Z1H ⟨fun h=>by simp only[h,and_self],fun h=>by simp only[h,and_self]⟩)
noncomputable def Z4M:Nat→Int×Int×List (Int×Int)→Option (Int×Int×List (Int×Int))
 |0,_=>none
 |k+1,p0=>
  Option.bind (Z5S k p0.1 p0.2.1 p0.2.2 (0:Int) (0:Int) []) fun z0=>some (z0.1,z0.2.1,z0.2.2)
noncomputable def Z2G:FnDef:= .of ZrN Z8y (Int×Int×List (Int×Int)) (fun k x=>Z4M k x.1) Zqo ZqS ZA4
noncomputable def ZfQ:Code:=Tryz.f41.body.getD .skip
noncomputable def Z2F:Ctx (Tup Z8y×OutD):={T:=T,G:=[],mvs:=[],no:=0,n:=12,res:=resOf T ZrN Z8y Tryz.f41.results.toList,loops:=[],regs:=[(1,Z5d.E)],conds:=[],cuts:=[]}
theorem Zso(k:Nat):EnvOK Tryz.prog k Z2F.G:=(EnvOK.nil mixed)
noncomputable def Zg7:Array Oper:=(findReg 1 ZfQ).getD #[]
theorem ZAq(k:Nat)(x:Zmo.D):execD Z2F.T Z2F.G Z2F.mvs k Zg7 (Z5d.inp.st Z2F.n x) (outK Z2F Z5d)=Zbk k x.1.2.1.1 x.1.2.1.2.1 x.1.2.1.2.2.1 x.1.2.2.1.1 x.1.2.2.1.2.1 x.1.2.2.2.1:=by kernel_rfl
theorem Zzn(k:Nat):EOK Tryz.prog Z2F k Z5d.E (.region 1 Zg7 true):=Z4n (D:=Z5d) (m:=12) T_ok (Zso k) (fun x=>(ZAq k x).trans (ZAr k x.1.2.1.1 x.1.2.1.2.1 x.1.2.1.2.2.1 x.1.2.2.1.1 x.1.2.2.1.2.1 x.1.2.2.2.1))
theorem ZJG(k:Nat)(x:Tup Z2G.ps):Z2G.f (k+1) x=fnK Z2G Z2F ZfQ k x:=by kernel_rfl
theorem ZJU(x:Tup Z2G.ps):Z2G.f 0 x=none:=by kernel_rfl
theorem ZLf(k:Nat):LOK Tryz.prog Z2F k ZfQ:=LOK.by [(Z5d.E,.region 1 Zg7 true)] (by kernel_rfl) (AllOK.cons (Zzn k) AllOK.nil)
theorem ZkT(k:Nat):SoundAt Tryz.prog k 41 Z2G.E:= @Z5 Tryz.prog Z2G Z2F 41 Tryz.f41 ZfQ (by kernel_rfl) (by kernel_rfl) (by kernel_rfl) Tryz.func41 (by kernel_rfl) (by kernel_rfl) (by kernel_rfl) T_ok Zso ZLf ZJU ZJG k
noncomputable def Z94:List PK:=[PK.mk (.pair I6 (.pair I6 (.slice 76 P6))) true none false none]
noncomputable def ZxN:List PK:=[PK.mk (.pair I6 (.pair I6 (.pair (.slice 76 P6) (.pair (.slice 3 I6) (.slice 3 I6))))) true none false none,PK.mk I6 false none false none]
noncomputable def Zv0(r:Int×Int×List (Int×Int)):Tup Z94×OutD:=((r,()),none)
noncomputable def ZuR:Tup Z94×OutD→Option (Int×Int×List (Int×Int))
 |(a,none)=>some (a.1)
 |_=>none
theorem ZGs: ∀b r,ZuR b=some r→Zv0 r=b:=by
 rintro ⟨a,_|_⟩ r h<;>cases h;rfl
noncomputable def Z7R:Nat→Int→Int→List (Int×Int)→List Int→List Int→Int→Int→List (Int×Int)→Int→Option (Int×Int×List (Int×Int)×List Int×List Int×Int×Int×List (Int×Int)×Int×Int×List (Int×Int)×Int):=fun k b1_0 b1_1 b1_2 b1_3 b1_4 b2_0 b2_1 o3 v1=>
  if (0:Int)≤wrap64 (b1_0*b1_1) then if Int.toNat (wrap64 (b1_0*b1_1))*(16:Nat)≤(281474976710656:Nat) then some (b1_0,b1_1,b1_2,b1_3,b1_4,b2_0,b2_1,o3,b1_0,b1_1,List.replicate (Int.toNat (wrap64 (b1_0*b1_1))) ((0:Int),(0:Int)),v1) else none else none
noncomputable def ZdK:Nat→Int→Int→List (Int×Int)→List Int→List Int→Int→Int→List (Int×Int)→Int→Option (List (Int×Int×List (Int×Int)×List Int×List Int×Int×Int×List (Int×Int)×Int×Int×List (Int×Int)×Int)):=fun k b1_0 b1_1 b1_2 b1_3 b1_4 b2_0 b2_1 o3 v1=>
  joinL (if (0:Int)≤wrap64 (b1_0*b1_1) then if Int.toNat (wrap64 (b1_0*b1_1))*(16:Nat)≤(281474976710656:Nat) then some [(b1_0,b1_1,b1_2,b1_3,b1_4,b2_0,b2_1,o3,b1_0,b1_1,List.replicate (Int.toNat (wrap64 (b1_0*b1_1))) ((0:Int),(0:Int)),v1)] else none else none) (if (0:Int)≤wrap64 (b1_0*b1_1) then if Int.toNat (wrap64 (b1_0*b1_1))*(16:Nat)≤(281474976710656:Nat) then some [(b1_0,b1_1,b1_2,b1_3,b1_4,b2_0,b2_1,o3,b1_0,b1_1,List.replicate (Int.toNat (wrap64 (b1_0*b1_1))) ((0:Int),(0:Int)),v1)] else none else none)
noncomputable def Zpz:Spec:=Spec.mk [.ro,O4,Oa,O0] [(1,.at (.int .i64)),(2,.at (.ptr 1 0)),(4,.at (.ptr 2 0))]
noncomputable def ZE1:Spec:=Spec.mk [.ro,O4,Oa,O0,Od,O0] [(1,.at (.int .i64)),(2,.at (.ptr 1 0)),(4,.at (.ptr 2 0)),(5,.at (.ptr 4 0))]
noncomputable def Z6t:LoopDef (Tup Z94×OutD):= .plain Zpz ZE1 (Int×Int×List (Int×Int)×List Int×List Int×Int×Int×List (Int×Int)×Int×Int×List (Int×Int)×Int) (fun k x=>Z7R k x.1.2.1.1 x.1.2.1.2.1 x.1.2.1.2.2.1 x.1.2.1.2.2.2.1 x.1.2.1.2.2.2.2.1 x.1.2.2.1.1 x.1.2.2.1.2.1 x.1.2.2.2.1 x.2.1) (fun z=>(((),(z.1,z.2.1,z.2.2.1,z.2.2.2.1,z.2.2.2.2.1,()),(z.2.2.2.2.2.1,z.2.2.2.2.2.2.1,(),()),z.2.2.2.2.2.2.2.1,(z.2.2.2.2.2.2.2.2.1,z.2.2.2.2.2.2.2.2.2.1,(),()),z.2.2.2.2.2.2.2.2.2.2.1,()),(z.2.2.2.2.2.2.2.2.2.2.2,(),(),(),()))) (fun y=>(y.1.2.1.1,y.1.2.1.2.1,y.1.2.1.2.2.1,y.1.2.1.2.2.2.1,y.1.2.1.2.2.2.2.1,y.1.2.2.1.1,y.1.2.2.1.2.1,y.1.2.2.2.1,y.1.2.2.2.2.1.1,y.1.2.2.2.2.1.2.1,y.1.2.2.2.2.2.1,y.2.1)) (fun _=>rfl)
theorem ZFN(k:Nat)(b1_0:Int)(b1_1:Int)(b1_2:List (Int×Int))(b1_3:List Int)(b1_4:List Int)(b2_0:Int)(b2_1:Int)(o3:List (Int×Int))(v1:Int):ZdK k b1_0 b1_1 b1_2 b1_3 b1_4 b2_0 b2_1 o3 v1=repl 2 (Z7R k b1_0 b1_1 b1_2 b1_3 b1_4 b2_0 b2_1 o3 v1):=by
 first
 |(simp only[ZdK,Z7R,Z7,Zc,Z8,Z9,Z6,Z3,if_true];done)
 |(simp only[ZdK,Z7R,Z7,Zc,Z8,Z9,Z6,Z3,if_true];simp only[Z1g,Z1i,Z2p,Z3];simp only[Z3E];exact Z1H ⟨fun h=>by simp only[h,and_self],fun h=>by simp only[h,and_self]⟩)
noncomputable def Z6p:Nat→Int→Int→List (Int×Int)→List Int→List Int→Int→Int→List (Int×Int)→Int→Int→List (Int×Int)→Int→Int→Option (Int×Int×List (Int×Int)×Int×Int×List (Int×Int))
 |0,_,_,_,_,_,_,_,_,_,_,_,_,_=>none
 |k+1,b1_0,b1_1,b1_2,b1_3,b1_4,b2_0,b2_1,o3,b4_0,b4_1,o5,v1,v6=>
  if decide (v6≥0)=true then if addS (↑(List.length b1_2):Int) (1:Int)=0 then none else if decide (Int.tmod v1 (addS (↑(List.length b1_2):Int) (1:Int))>0)=true then if (0:Int)≤wrap64 (Int.tmod v1 (addS (↑(List.length b1_2):Int) (1:Int))-1) then if wrap64 (Int.tmod v1 (addS (↑(List.length b1_2):Int) (1:Int))-1)<(↑(List.length b1_2):Int) then if (0:Int)≤v6 then if v6<(↑(List.length o5):Int) then if addS (↑(List.length b1_2):Int) (1:Int)=0 then none else Z6p k b1_0 b1_1 b1_2 b1_3 b1_4 b2_0 b2_1 o3 b4_0 b4_1 (List.set o5 (Int.toNat v6) (Prod.fst (List.getD b1_2 (Int.toNat (wrap64 (Int.tmod v1 (addS (↑(List.length b1_2):Int) (1:Int))-1))) ((0:Int),(0:Int))),Prod.snd (List.getD b1_2 (Int.toNat (wrap64 (Int.tmod v1 (addS (↑(List.length b1_2):Int) (1:Int))-1))) ((0:Int),(0:Int))))) (wrap64 (Int.tdiv v1 (addS (↑(List.length b1_2):Int) (1:Int)))) (wrap64 (v6-1)) else none else none else none else none else if addS (↑(List.length b1_2):Int) (1:Int)=0 then none else Z6p k b1_0 b1_1 b1_2 b1_3 b1_4 b2_0 b2_1 o3 b4_0 b4_1 o5 (wrap64 (Int.tdiv v1 (addS (↑(List.length b1_2):Int) (1:Int)))) (wrap64 (v6-1)) else some (b2_0,b2_1,o3,b4_0,b4_1,o5)
noncomputable def ZjM:Spec:=Spec.mk [.ro,O4,Oa,O0,Od,O0] [(1,.at (.int .i64)),(2,.at (.ptr 1 0)),(4,.at (.ptr 2 0)),(5,.at (.ptr 4 0)),(6,.at (.int .i64))]
noncomputable def ZId:Spec:=Spec.mk [.ro,Obq,O0,O6,O0] [(4,.at (.ptr 1 0)),(5,.at (.ptr 3 0))]
noncomputable def Z7z:LoopDef (Tup Z94×OutD):= .plain ZjM ZId (Int×Int×List (Int×Int)×Int×Int×List (Int×Int)) (fun k x=>Z6p k x.1.2.1.1 x.1.2.1.2.1 x.1.2.1.2.2.1 x.1.2.1.2.2.2.1 x.1.2.1.2.2.2.2.1 x.1.2.2.1.1 x.1.2.2.1.2.1 x.1.2.2.2.1 x.1.2.2.2.2.1.1 x.1.2.2.2.2.1.2.1 x.1.2.2.2.2.2.1 x.2.1 x.2.2.2.2.2.1) (fun z=>(((),(z.1,z.2.1,(),()),z.2.2.1,(z.2.2.2.1,z.2.2.2.2.1,(),()),z.2.2.2.2.2,()),((),(),()))) (fun y=>(y.1.2.1.1,y.1.2.1.2.1,y.1.2.2.1,y.1.2.2.2.1.1,y.1.2.2.2.1.2.1,y.1.2.2.2.2.1)) (fun _=>rfl)
noncomputable def Zi:Nat→Int×Int×List (Int×Int)×List Int×List Int→Int→Option (Int×Int×List (Int×Int))
 |0,_,_=>none
 |k+1,p0,p1=>
  Option.bind (Z7R k p0.1 p0.2.1 p0.2.2.1 p0.2.2.2.1 p0.2.2.2.2 (0:Int) (0:Int) [] p1) fun z0=>Option.bind (Z6p k z0.1 z0.2.1 z0.2.2.1 z0.2.2.2.1 z0.2.2.2.2.1 z0.2.2.2.2.2.1 z0.2.2.2.2.2.2.1 z0.2.2.2.2.2.2.2.1 z0.2.2.2.2.2.2.2.2.1 z0.2.2.2.2.2.2.2.2.2.1 z0.2.2.2.2.2.2.2.2.2.2.1 z0.2.2.2.2.2.2.2.2.2.2.2 (wrap64 ((↑(List.length z0.2.2.2.2.2.2.2.2.2.2.1):Int)-1))) fun z1=>some (z1.2.2.2.1,z1.2.2.2.2.1,z1.2.2.2.2.2)
noncomputable def Z3V:FnDef:= .of ZxN Z94 (Int×Int×List (Int×Int)) (fun k x=>Zi k x.1 x.2.1) Zv0 ZuR ZGs
noncomputable def ZeV:Code:=Tryz.f47.body.getD .skip
noncomputable def Z1W:Ctx (Tup Z94×OutD):={T:=T,G:=[],mvs:=[200031,200049],no:=0,n:=52,res:=resOf T ZxN Z94 Tryz.f47.results.toList,loops:=[(0,Z7z.E)],regs:=[(1,Z6t.E)],conds:=[],cuts:=[]}
theorem Zof(k:Nat):EnvOK Tryz.prog k Z1W.G:=(EnvOK.nil mixed)
noncomputable def ZhW:Array Oper:=(findReg 1 ZeV).getD #[]
theorem ZEl(k:Nat)(x:Zpz.D):execD Z1W.T Z1W.G Z1W.mvs k ZhW (Z6t.inp.st Z1W.n x) (outK Z1W Z6t)=ZdK k x.1.2.1.1 x.1.2.1.2.1 x.1.2.1.2.2.1 x.1.2.1.2.2.2.1 x.1.2.1.2.2.2.2.1 x.1.2.2.1.1 x.1.2.2.1.2.1 x.1.2.2.2.1 x.2.1:=by kernel_rfl
theorem ZCN(k:Nat):EOK Tryz.prog Z1W k Z6t.E (.region 1 ZhW true):=Z4n (D:=Z6t) (m:=2) T_ok (Zof k) (fun x=>(ZEl k x).trans (ZFN k x.1.2.1.1 x.1.2.1.2.1 x.1.2.1.2.2.1 x.1.2.1.2.2.2.1 x.1.2.1.2.2.2.2.1 x.1.2.2.1.1 x.1.2.2.1.2.1 x.1.2.2.2.1 x.2.1))
noncomputable def ZeM:Code:=(findLoop 0 ZeV).getD .skip
theorem ZGP(k:Nat)(x:ZjM.D):Z7z.lp (k+1) x=loopK Z1W Z7z 0 ZeM k x:=by kernel_rfl
theorem ZIl(k:Nat):LOK Tryz.prog Z1W k ZeM:=LOK.by [] (by kernel_rfl) AllOK.nil
theorem ZIA(x:ZjM.D):Z7z.lp 0 x=none:=by kernel_rfl
theorem ZF4(k:Nat):EOK Tryz.prog Z1W k Z7z.E (.block 0 (.loop ZeM)):=Zd T_ok Zof ZIA ZGP ZIl k
theorem ZNc(k:Nat)(x:Tup Z3V.ps):Z3V.f (k+1) x=fnK Z3V Z1W ZeV k x:=by kernel_rfl
theorem ZNv(x:Tup Z3V.ps):Z3V.f 0 x=none:=by kernel_rfl
theorem ZOp(k:Nat):LOK Tryz.prog Z1W k ZeV:=LOK.by [(Z6t.E,.region 1 ZhW true),(Z7z.E,.block 0 (.loop ZeM))] (by kernel_rfl) (AllOK.cons (ZCN k) (AllOK.cons (ZF4 k) AllOK.nil))
theorem Zo4(k:Nat):SoundAt Tryz.prog k 47 Z3V.E:= @Z5 Tryz.prog Z3V Z1W 47 Tryz.f47 ZeV (by kernel_rfl) (by kernel_rfl) (by kernel_rfl) Tryz.func47 (by kernel_rfl) (by kernel_rfl) (by kernel_rfl) T_ok Zof ZOp ZNv ZNc k
noncomputable def Zc1:List PK:=[PK.mk I6 false none false none]
noncomputable def Zxq:List PK:=[PK.mk (.pair I6 (.pair I6 (.slice 76 P6))) true none false none]
noncomputable def ZvC(r:Int):Tup Zc1×OutD:=((r,()),none)
noncomputable def Zvc:Tup Zc1×OutD→Option (Int)
 |(a,none)=>some (a.1)
 |_=>none
theorem ZG4: ∀b r,Zvc b=some r→ZvC r=b:=by
 rintro ⟨a,_|_⟩ r h<;>cases h;rfl
noncomputable def Z6l:Nat→Int→List (Int×Int)→Int→Int→Option Int
 |0,_,_,_,_=>none
 |k+1,v3,v7,v8,v9=>
  if decide (v9<v8)=true then if (0:Int)≤v9 then if v9<(↑(List.length v7):Int) then if decide (Prod.fst (List.getD v7 (Int.toNat v9) ((0:Int),(0:Int)))≠0)=true then Z6l k (wrap64 (v3+1)) v7 v8 (wrap64 (v9+1)) else Z6l k v3 v7 v8 (wrap64 (v9+1)) else none else none else some v3
noncomputable def Zjv:Spec:=Spec.mk [.ro] [(3,.at (.int .i64)),(7,.at (.snap 0 P6)),(8,.at (.int .i64)),(9,.at (.int .i64))]
noncomputable def ZHS:Spec:=Spec.mk [.ro] [(3,.at (.int .i64))]
noncomputable def Z7K:LoopDef (Tup Zc1×OutD):= .plain Zjv ZHS (Int) (fun k x=>Z6l k x.2.1 x.2.2.1 x.2.2.2.1 x.2.2.2.2.1) (fun z=>(((),()),(z,()))) (fun y=>(y.2.1)) (fun _=>rfl)
noncomputable def Z6F:Nat→Int×Int×List (Int×Int)→Option Int
 |0,_=>none
 |k+1,p0=>
  Option.bind (Z6l k (0:Int) p0.2.2 (↑(List.length p0.2.2):Int) (0:Int)) fun z0=>some z0
noncomputable def Z3c:FnDef:= .of Zxq Zc1 (Int) (fun k x=>Z6F k x.1) ZvC Zvc ZG4
noncomputable def Ziy:Code:=Tryz.f51.body.getD .skip
noncomputable def Z8V:Ctx (Tup Zc1×OutD):={T:=T,G:=[],mvs:=[],no:=0,n:=20,res:=resOf T Zxq Zc1 Tryz.f51.results.toList,loops:=[(0,Z7K.E)],regs:=[],conds:=[],cuts:=[]}
theorem Zzq(k:Nat):EnvOK Tryz.prog k Z8V.G:=(EnvOK.nil mixed)
noncomputable def ZeC:Code:=(findLoop 0 Ziy).getD .skip
theorem ZGY(k:Nat)(x:Zjv.D):Z7K.lp (k+1) x=loopK Z8V Z7K 0 ZeC k x:=by kernel_rfl
theorem ZIK(k:Nat):LOK Tryz.prog Z8V k ZeC:=LOK.by [] (by kernel_rfl) AllOK.nil
theorem ZIb(x:Zjv.D):Z7K.lp 0 x=none:=by kernel_rfl
theorem ZFZ(k:Nat):EOK Tryz.prog Z8V k Z7K.E (.block 0 (.loop ZeC)):=Zd T_ok Zzq ZIb ZGY ZIK k
theorem ZOX(k:Nat)(x:Tup Z3c.ps):Z3c.f (k+1) x=fnK Z3c Z8V Ziy k x:=by kernel_rfl
theorem ZP4(x:Tup Z3c.ps):Z3c.f 0 x=none:=by kernel_rfl
theorem ZO1(k:Nat):LOK Tryz.prog Z8V k Ziy:=LOK.by [(Z7K.E,.block 0 (.loop ZeC))] (by kernel_rfl) (AllOK.cons (ZFZ k) AllOK.nil)
theorem ZiX(k:Nat):SoundAt Tryz.prog k 51 Z3c.E:= @Z5 Tryz.prog Z3c Z8V 51 Tryz.f51 Ziy (by kernel_rfl) (by kernel_rfl) (by kernel_rfl) Tryz.func51 (by kernel_rfl) (by kernel_rfl) (by kernel_rfl) T_ok Zzq ZO1 ZP4 ZOX k
noncomputable def Zc2:List PK:=[PK.mk .bool false none false none]
noncomputable def ZyI:List PK:=[PK.mk (.slice 3 I6) false none false none]
noncomputable def Zn2(r:Bool):Tup Zc2×OutD:=((r,()),none)
noncomputable def ZmX:Tup Zc2×OutD→Option (Bool)
 |(a,none)=>some (a.1)
 |_=>none
theorem Zpr: ∀b r,ZmX b=some r→Zn2 r=b:=by
 rintro ⟨a,_|_⟩ r h<;>cases h;rfl
noncomputable def Z6o:Nat→List Int→Int→Int→Option (LR Unit Bool)
 |0,_,_,_=>none
 |k+1,v5,v6,v7=>
  if decide (v7<v6)=true then if (0:Int)≤v7 then if v7<(↑(List.length v5):Int) then if decide (List.getD v5 (Int.toNat v7) (0:Int)≠0)=true then if decide (List.getD v5 (Int.toNat v7) (0:Int)≠1)=true then some (LR.ret false) else Z6o k v5 v6 (wrap64 (v7+1)) else Z6o k v5 v6 (wrap64 (v7+1)) else none else none else some (LR.go ())
noncomputable def Zjp:Spec:=Spec.mk [.ro] [(5,.at (.snap 0 I6)),(6,.at (.int .i64)),(7,.at (.int .i64))]
noncomputable def ZHm:Spec:=Spec.mk [.ro] []
noncomputable def Z7L:LoopDef (Tup Zc2×OutD):= .rets Zjp ZHm (Unit) (Bool) (fun k x=>Z6o k x.2.1 x.2.2.1 x.2.2.2.1) (fun z=>(((),()),(()))) (fun y=>()) (fun _=>rfl) Zn2 ZmX Zpr
noncomputable def Ziu:Nat→List Int→Option Bool
 |0,_=>none
 |k+1,p0=>
  Option.bind (Z6o k p0 (↑(List.length p0):Int) (0:Int)) fun z0=>LR.on z0 (fun y0=>some true) fun r0=>some r0
noncomputable def Z6C:FnDef:= .of ZyI Zc2 (Bool) (fun k x=>Ziu k x.1) Zn2 ZmX Zpr
noncomputable def ZiO:Code:=Tryz.f63.body.getD .skip
noncomputable def Z8G:Ctx (Tup Zc2×OutD):={T:=T,G:=[],mvs:=[],no:=0,n:=18,res:=resOf T ZyI Zc2 Tryz.f63.results.toList,loops:=[(0,Z7L.E)],regs:=[],conds:=[],cuts:=[]}
theorem Zy0(k:Nat):EnvOK Tryz.prog k Z8G.G:=(EnvOK.nil mixed)
noncomputable def Zep:Code:=(findLoop 0 ZiO).getD .skip
theorem ZID(k:Nat)(x:Zjp.D):Z7L.lp (k+1) x=loopK Z8G Z7L 0 Zep k x:=by kernel_rfl
theorem ZHJ(k:Nat):LOK Tryz.prog Z8G k Zep:=LOK.by [] (by kernel_rfl) AllOK.nil
theorem ZH5(x:Zjp.D):Z7L.lp 0 x=none:=by kernel_rfl
theorem ZFl(k:Nat):EOK Tryz.prog Z8G k Z7L.E (.block 0 (.loop Zep)):=Zd T_ok Zy0 ZH5 ZID ZHJ k
theorem ZOY(k:Nat)(x:Tup Z6C.ps):Z6C.f (k+1) x=fnK Z6C Z8G ZiO k x:=by kernel_rfl
theorem ZNV(x:Tup Z6C.ps):Z6C.f 0 x=none:=by kernel_rfl
theorem ZOO(k:Nat):LOK Tryz.prog Z8G k ZiO:=LOK.by [(Z7L.E,.block 0 (.loop Zep))] (by kernel_rfl) (AllOK.cons (ZFl k) AllOK.nil)
theorem ZOL(k:Nat):SoundAt Tryz.prog k 63 Z6C.E:= @Z5 Tryz.prog Z6C Z8G 63 Tryz.f63 ZiO (by kernel_rfl) (by kernel_rfl) (by kernel_rfl) Tryz.func63 (by kernel_rfl) (by kernel_rfl) (by kernel_rfl) T_ok Zy0 ZOO ZNV ZOY k
noncomputable def ZaF:List PK:=[PK.mk .bool false none false none]
noncomputable def ZuN:List PK:=[PK.mk (.slice 3 I6) false none false none]
noncomputable def ZkR(r:Bool):Tup ZaF×OutD:=((r,()),none)
noncomputable def ZkO:Tup ZaF×OutD→Option (Bool)
 |(a,none)=>some (a.1)
 |_=>none
theorem ZnN: ∀b r,ZkO b=some r→ZkR r=b:=by
 rintro ⟨a,_|_⟩ r h<;>cases h;rfl
noncomputable def ZjT:Nat→List Int→Int→Option (LR Unit Bool)
 |0,_,_=>none
 |k+1,v0,v3=>
  if decide (v3<(↑(List.length v0):Int))=true then if (0:Int)≤v3 then if v3<(↑(List.length v0):Int) then if (0:Int)≤wrap64 (v3-1) then if wrap64 (v3-1)<(↑(List.length v0):Int) then if decide (List.getD v0 (Int.toNat v3) (0:Int)<List.getD v0 (Int.toNat (wrap64 (v3-1))) (0:Int))=true then some (LR.ret false) else ZjT k v0 (wrap64 (v3+1)) else none else none else none else none else some (LR.go ())
noncomputable def ZhX:Spec:=Spec.mk [.ro] [(0,.at (.snap 0 I6)),(3,.at (.int .i64))]
noncomputable def ZEG:Spec:=Spec.mk [.ro] []
noncomputable def Z6N:LoopDef (Tup ZaF×OutD):= .rets ZhX ZEG (Unit) (Bool) (fun k x=>ZjT k x.2.1 x.2.2.1) (fun z=>(((),()),(()))) (fun y=>()) (fun _=>rfl) ZkR ZkO ZnN
noncomputable def Zve:Nat→List Int→Option Bool
 |0,_=>none
 |k+1,p0=>
  Option.bind (ZjT k p0 (1:Int)) fun z0=>LR.on z0 (fun y0=>some true) fun r0=>some r0
noncomputable def Z5H:FnDef:= .of ZuN ZaF (Bool) (fun k x=>Zve k x.1) ZkR ZkO ZnN
noncomputable def Zhh:Code:=Tryz.f64.body.getD .skip
noncomputable def Z7i:Ctx (Tup ZaF×OutD):={T:=T,G:=[],mvs:=[],no:=0,n:=20,res:=resOf T ZuN ZaF Tryz.f64.results.toList,loops:=[(0,Z6N.E)],regs:=[],conds:=[],cuts:=[]}
theorem Zvf(k:Nat):EnvOK Tryz.prog k Z7i.G:=(EnvOK.nil mixed)
noncomputable def ZdJ:Code:=(findLoop 0 Zhh).getD .skip
theorem ZF9(k:Nat)(x:ZhX.D):Z6N.lp (k+1) x=loopK Z7i Z6N 0 ZdJ k x:=by kernel_rfl
theorem ZGw(k:Nat):LOK Tryz.prog Z7i k ZdJ:=LOK.by [] (by kernel_rfl) AllOK.nil
theorem ZEL(x:ZhX.D):Z6N.lp 0 x=none:=by kernel_rfl
theorem ZDK(k:Nat):EOK Tryz.prog Z7i k Z6N.E (.block 0 (.loop ZdJ)):=Zd T_ok Zvf ZEL ZF9 ZGw k
theorem ZLS(k:Nat)(x:Tup Z5H.ps):Z5H.f (k+1) x=fnK Z5H Z7i Zhh k x:=by kernel_rfl
theorem ZLQ(x:Tup Z5H.ps):Z5H.f 0 x=none:=by kernel_rfl
theorem ZM7(k:Nat):LOK Tryz.prog Z7i k Zhh:=LOK.by [(Z6N.E,.block 0 (.loop ZdJ))] (by kernel_rfl) (AllOK.cons (ZDK k) AllOK.nil)
theorem ZMt(k:Nat):SoundAt Tryz.prog k 64 Z5H.E:= @Z5 Tryz.prog Z5H Z7i 64 Tryz.f64 Zhh (by kernel_rfl) (by kernel_rfl) (by kernel_rfl) Tryz.func64 (by kernel_rfl) (by kernel_rfl) (by kernel_rfl) T_ok Zvf ZM7 ZLQ ZLS k
noncomputable def Zdk:List PK:=[PK.mk (.slice 3 I6) false none false none]
noncomputable def ZBi:List PK:=[PK.mk (.pair I6 (.slice 3 I6)) true none false none]
noncomputable def ZxA(r:List Int):Tup Zdk×OutD:=((r,()),none)
noncomputable def Zyg:Tup Zdk×OutD→Option (List Int)
 |(a,none)=>some (a.1)
 |_=>none
theorem ZHz: ∀b r,Zyg b=some r→ZxA r=b:=by
 rintro ⟨a,_|_⟩ r h<;>cases h;rfl
noncomputable def Zhn:Nat→List Int→List Int→Int→Int→Option (List Int)
 |0,_,_,_,_=>none
 |k+1,o1,v7,v8,v9=>
  if decide (v9<v8)=true then if (0:Int)≤v9 then if v9<(↑(List.length v7):Int) then if decide (List.getD v7 (Int.toNat v9) (0:Int)=1)=true then if List.length o1+List.length [v9]≤(140737488355328/8:Nat) then Zhn k (o1++[v9]) v7 v8 (wrap64 (v9+1)) else none else Zhn k o1 v7 v8 (wrap64 (v9+1)) else none else none else some o1
noncomputable def Zlf:Spec:=Spec.mk [.ro,O1] [(3,.at (.sl 1)),(7,.at (.snap 0 I6)),(8,.at (.int .i64)),(9,.at (.int .i64))]
noncomputable def ZJj:Spec:=Spec.mk [.ro,O1] [(3,.at (.sl 1))]
noncomputable def Z8I:LoopDef (Tup Zdk×OutD):= .plain Zlf ZJj (List Int) (fun k x=>Zhn k x.1.2.1 x.2.2.1 x.2.2.2.1 x.2.2.2.2.1) (fun z=>(((),z,()),((),()))) (fun y=>(y.1.2.1)) (fun _=>rfl)
noncomputable def ZCa:Nat→Int×List Int→Option (List Int)
 |0,_=>none
 |k+1,p0=>
  Option.bind (Zhn k [] p0.2 (↑(List.length p0.2):Int) (0:Int)) fun z0=>some z0
noncomputable def Z7V:FnDef:= .of ZBi Zdk (List Int) (fun k x=>ZCa k x.1) ZxA Zyg ZHz
noncomputable def Zkw:Code:=Tryz.f67.body.getD .skip
noncomputable def ZaR:Ctx (Tup Zdk×OutD):={T:=T,G:=[],mvs:=[],no:=0,n:=22,res:=resOf T ZBi Zdk Tryz.f67.results.toList,loops:=[(0,Z8I.E)],regs:=[],conds:=[],cuts:=[]}
theorem ZBT(k:Nat):EnvOK Tryz.prog k ZaR.G:=(EnvOK.nil mixed)
noncomputable def ZfH:Code:=(findLoop 0 Zkw).getD .skip
theorem ZJJ(k:Nat)(x:Zlf.D):Z8I.lp (k+1) x=loopK ZaR Z8I 0 ZfH k x:=by kernel_rfl
theorem ZKb(k:Nat):LOK Tryz.prog ZaR k ZfH:=LOK.by [] (by kernel_rfl) AllOK.nil
theorem ZLb(x:Zlf.D):Z8I.lp 0 x=none:=by kernel_rfl
theorem ZI9(k:Nat):EOK Tryz.prog ZaR k Z8I.E (.block 0 (.loop ZfH)):=Zd T_ok ZBT ZLb ZJJ ZKb k
theorem ZPU(k:Nat)(x:Tup Z7V.ps):Z7V.f (k+1) x=fnK Z7V ZaR Zkw k x:=by kernel_rfl
theorem ZPI(x:Tup Z7V.ps):Z7V.f 0 x=none:=by kernel_rfl
theorem ZR1(k:Nat):LOK Tryz.prog ZaR k Zkw:=LOK.by [(Z8I.E,.block 0 (.loop ZfH))] (by kernel_rfl) (AllOK.cons (ZI9 k) AllOK.nil)
theorem ZQo(k:Nat):SoundAt Tryz.prog k 67 Z7V.E:= @Z5 Tryz.prog Z7V ZaR 67 Tryz.f67 Zkw (by kernel_rfl) (by kernel_rfl) (by kernel_rfl) Tryz.func67 (by kernel_rfl) (by kernel_rfl) (by kernel_rfl) T_ok ZBT ZR1 ZPI ZPU k
noncomputable def Z8T:List PK:=[]
noncomputable def Zsj:List PK:=[PK.mk (.pair I6 (.pair I6 (.slice 76 P6))) true (some (2,76,.pair I6 I6)) false none,PK.mk (.slice 3 I6) false none false none,PK.mk I6 false none false none]
noncomputable def Zqw(r:List (Int×Int)):Tup Z8T×OutD:=((()),some ⟨Ty.pair (Ty.int .i64) (Ty.int .i64),r⟩)
noncomputable def Zjq:Tup Z8T×OutD→Option (List (Int×Int))
 |(a,some ⟨u,ys⟩)=>if h:u=Ty.pair (Ty.int .i64) (Ty.int .i64) then some (castU h ys) else none
 |_=>none
theorem ZAO: ∀b r,Zjq b=some r→Zqw r=b:=by
 rintro ⟨a,o⟩ r h
 cases o with
 |none=>cases h
 |some s=>
  obtain ⟨u,ys⟩:=s
  simp only[Zjq]at h
  split at h
  ·rename_i hu;subst hu;injection h with h;subst h;rfl
  ·cases h
noncomputable def Z2y:Nat→List (Int×Int)→Int→Int→List Int→Int→Int→Int→Option (List (Int×Int))
 |0,_,_,_,_,_,_,_=>none
 |k+1,o1,b2_0,b2_1,v1,v2,v9,v10=>
  if decide (v10<v9)=true then if (0:Int)≤v10 then if v10<(↑(List.length o1):Int) then if decide (Prod.fst (List.getD o1 (Int.toNat v10) ((0:Int),(0:Int)))=6)=true then if (0:Int)≤v10 then if v10<(↑(List.length v1):Int) then if (0:Int)≤v2 then if v2<(↑(List.length v1):Int) then if decide (List.getD v1 (Int.toNat v10) (0:Int)=List.getD v1 (Int.toNat v2) (0:Int))=true then if (0:Int)≤v10 then if v10<(↑(List.length o1):Int) then if (0:Int)≤v10 then if v10<(↑(List.length o1):Int) then Z2y k (List.set o1 (Int.toNat v10) (Prod.fst (List.getD o1 (Int.toNat v10) ((0:Int),(0:Int))),wrap64 ((1:Int)-Prod.snd (List.getD o1 (Int.toNat v10) ((0:Int),(0:Int)))))) b2_0 b2_1 v1 v2 v9 (wrap64 (v10+1)) else none else none else none else none else Z2y k o1 b2_0 b2_1 v1 v2 v9 (wrap64 (v10+1)) else none else none else none else none else Z2y k o1 b2_0 b2_1 v1 v2 v9 (wrap64 (v10+1)) else none else none else some o1
noncomputable def Zh7:Spec:=Spec.mk [.ro,Oi,Of] [(1,.at (.snap 0 I6)),(2,.at (.int .i64)),(3,.at (.ptr 2 0)),(9,.at (.int .i64)),(10,.at (.int .i64))]
noncomputable def ZDS:Spec:=Spec.mk [.ro,Oi] []
noncomputable def Z5P:LoopDef (Tup Z8T×OutD):= .plain Zh7 ZDS (List (Int×Int)) (fun k x=>Z2y k x.1.2.1 x.1.2.2.1.1 x.1.2.2.1.2.1 x.2.1 x.2.2.1 x.2.2.2.2.1 x.2.2.2.2.2.1) (fun z=>(((),z,()),(()))) (fun y=>(y.1.2.1)) (fun _=>rfl)
noncomputable def Zcv:Nat→Int×Int×List (Int×Int)→List Int→Int→Option (List (Int×Int))
 |0,_,_,_=>none
 |k+1,p0,p1,p2=>
  Option.bind (Z2y k p0.2.2 p0.1 p0.2.1 p1 p2 (↑(List.length p0.2.2):Int) (0:Int)) fun z0=>some z0
noncomputable def Z4R:FnDef:= .of Zsj Z8T (List (Int×Int)) (fun k x=>Zcv k x.1 x.2.1 x.2.2.1) Zqw Zjq ZAO
noncomputable def Zgc:Code:=Tryz.f71.body.getD .skip
noncomputable def Z6k:Ctx (Tup Z8T×OutD):={T:=T,G:=[],mvs:=[],no:=1,n:=44,res:=resOf T Zsj Z8T Tryz.f71.results.toList,loops:=[(0,Z5P.E)],regs:=[],conds:=[],cuts:=[]}
theorem Ztc(k:Nat):EnvOK Tryz.prog k Z6k.G:=(EnvOK.nil mixed)
noncomputable def Zcy:Code:=(findLoop 0 Zgc).getD .skip
theorem ZD9(k:Nat)(x:Zh7.D):Z5P.lp (k+1) x=loopK Z6k Z5P 0 Zcy k x:=by kernel_rfl
theorem ZD0(k:Nat):LOK Tryz.prog Z6k k Zcy:=LOK.by [] (by kernel_rfl) AllOK.nil
theorem ZDX(x:Zh7.D):Z5P.lp 0 x=none:=by kernel_rfl
theorem ZAu(k:Nat):EOK Tryz.prog Z6k k Z5P.E (.block 0 (.loop Zcy)):=Zd T_ok Ztc ZDX ZD9 ZD0 k
theorem ZJp(k:Nat)(x:Tup Z4R.ps):Z4R.f (k+1) x=fnK Z4R Z6k Zgc k x:=by kernel_rfl
theorem ZKo(x:Tup Z4R.ps):Z4R.f 0 x=none:=by kernel_rfl
theorem ZKh(k:Nat):LOK Tryz.prog Z6k k Zgc:=LOK.by [(Z5P.E,.block 0 (.loop Zcy))] (by kernel_rfl) (AllOK.cons (ZAu k) AllOK.nil)
theorem ZK8(k:Nat):SoundAt Tryz.prog k 71 Z4R.E:= @Z5 Tryz.prog Z4R Z6k 71 Tryz.f71 Zgc (by kernel_rfl) (by kernel_rfl) (by kernel_rfl) Tryz.func71 (by kernel_rfl) (by kernel_rfl) (by kernel_rfl) T_ok Ztc ZKh ZKo ZJp k
noncomputable def Zdx:List PK:=[PK.mk .bool false none false none]
noncomputable def ZuK:List PK:=[PK.mk P6 true none false none]
noncomputable def Zsb(r:Bool):Tup Zdx×OutD:=((r,()),none)
noncomputable def Zsn:Tup Zdx×OutD→Option (Bool)
 |(a,none)=>some (a.1)
 |_=>none
theorem ZDu: ∀b r,Zsn b=some r→Zsb r=b:=by
 rintro ⟨a,_|_⟩ r h<;>cases h;rfl
noncomputable def ZdO:Nat→Int×Int→Option Bool
 |0,_=>none
 |k+1,p0=>
  if decide (p0.1=(6:Int))=true then some true else some (decide (p0.1=(7:Int)))
noncomputable def Z5E:FnDef:= .of ZuK Zdx (Bool) (fun k x=>ZdO k x.1) Zsb Zsn ZDu
noncomputable def ZmN:Code:=Tryz.f72.body.getD .skip
noncomputable def ZhA:Ctx (Tup Zdx×OutD):={T:=T,G:=[],mvs:=[],no:=0,n:=11,res:=resOf T ZuK Zdx Tryz.f72.results.toList,loops:=[],regs:=[],conds:=[],cuts:=[]}
theorem ZN7(k:Nat):EnvOK Tryz.prog k ZhA.G:=(EnvOK.nil mixed)
theorem ZMu(k:Nat)(x:Tup Z5E.ps):Z5E.f (k+1) x=fnK Z5E ZhA ZmN k x:=by kernel_rfl
theorem ZMl(x:Tup Z5E.ps):Z5E.f 0 x=none:=by kernel_rfl
theorem ZMW(k:Nat):LOK Tryz.prog ZhA k ZmN:=LOK.by [] (by kernel_rfl) AllOK.nil
theorem ZMH(k:Nat):SoundAt Tryz.prog k 72 Z5E.E:= @Z5 Tryz.prog Z5E ZhA 72 Tryz.f72 ZmN (by kernel_rfl) (by kernel_rfl) (by kernel_rfl) Tryz.func72 (by kernel_rfl) (by kernel_rfl) (by kernel_rfl) T_ok ZN7 ZMW ZMl ZMu k
noncomputable def ZdR:List PK:=[PK.mk (.slice 3 I6) false none false none]
noncomputable def ZuF:List PK:=[PK.mk (.pair I6 (.pair I6 (.slice 76 P6))) true none false none,PK.mk I6 false none false none]
noncomputable def Zse(r:List Int):Tup ZdR×OutD:=((r,()),none)
noncomputable def Zti:Tup ZdR×OutD→Option (List Int)
 |(a,none)=>some (a.1)
 |_=>none
theorem ZCL: ∀b r,Zti b=some r→Zse r=b:=by
 rintro ⟨a,_|_⟩ r h<;>cases h;rfl
noncomputable def Zhm:Nat→Int×Int×List (Int×Int)→Int→Option (List Int)
 |0,_,_=>none
 |k+1,p0,p1=>
  if p0.2.1=0 then none else if p0.2.1=0 then none else if decide (wrap64 (Int.tdiv p1 p0.2.1)>0)=true then if decide (Int.tmod p1 p0.2.1>0)=true then if decide (wrap64 (Int.tmod p1 p0.2.1+1)<p0.2.1)=true then if decide (wrap64 (wrap64 (Int.tdiv p1 p0.2.1)+1)<p0.1)=true then some ([wrap64 (p1-p0.2.1)]++[wrap64 (p1-1)]++[wrap64 (p1+1)]++[wrap64 (p1+p0.2.1)]) else some ([wrap64 (p1-p0.2.1)]++[wrap64 (p1-1)]++[wrap64 (p1+1)]) else if decide (wrap64 (wrap64 (Int.tdiv p1 p0.2.1)+1)<p0.1)=true then some ([wrap64 (p1-p0.2.1)]++[wrap64 (p1-1)]++[wrap64 (p1+p0.2.1)]) else some ([wrap64 (p1-p0.2.1)]++[wrap64 (p1-1)]) else if decide (wrap64 (Int.tmod p1 p0.2.1+1)<p0.2.1)=true then if decide (wrap64 (wrap64 (Int.tdiv p1 p0.2.1)+1)<p0.1)=true then some ([wrap64 (p1-p0.2.1)]++[wrap64 (p1+1)]++[wrap64 (p1+p0.2.1)]) else some ([wrap64 (p1-p0.2.1)]++[wrap64 (p1+1)]) else if decide (wrap64 (wrap64 (Int.tdiv p1 p0.2.1)+1)<p0.1)=true then some ([wrap64 (p1-p0.2.1)]++[wrap64 (p1+p0.2.1)]) else some [wrap64 (p1-p0.2.1)] else if decide (Int.tmod p1 p0.2.1>0)=true then if decide (wrap64 (Int.tmod p1 p0.2.1+1)<p0.2.1)=true then if decide (wrap64 (wrap64 (Int.tdiv p1 p0.2.1)+1)<p0.1)=true then some ([wrap64 (p1-1)]++[wrap64 (p1+1)]++[wrap64 (p1+p0.2.1)]) else some ([wrap64 (p1-1)]++[wrap64 (p1+1)]) else if decide (wrap64 (wrap64 (Int.tdiv p1 p0.2.1)+1)<p0.1)=true then some ([wrap64 (p1-1)]++[wrap64 (p1+p0.2.1)]) else some [wrap64 (p1-1)] else if decide (wrap64 (Int.tmod p1 p0.2.1+1)<p0.2.1)=true then if decide (wrap64 (wrap64 (Int.tdiv p1 p0.2.1)+1)<p0.1)=true then some ([wrap64 (p1+1)]++[wrap64 (p1+p0.2.1)]) else some [wrap64 (p1+1)] else if decide (wrap64 (wrap64 (Int.tdiv p1 p0.2.1)+1)<p0.1)=true then some [wrap64 (p1+p0.2.1)] else some []
noncomputable def Z5F:FnDef:= .of ZuF ZdR (List Int) (fun k x=>Zhm k x.1 x.2.1) Zse Zti ZCL
noncomputable def Zmd:Code:=Tryz.f73.body.getD .skip
noncomputable def Zhy:Ctx (Tup ZdR×OutD):={T:=T,G:=[],mvs:=[],no:=0,n:=56,res:=resOf T ZuF ZdR Tryz.f73.results.toList,loops:=[],regs:=[],conds:=[],cuts:=[]}
theorem ZN8(k:Nat):EnvOK Tryz.prog k Zhy.G:=(EnvOK.nil mixed)
theorem ZMz(k:Nat)(x:Tup Z5F.ps):Z5F.f (k+1) x=fnK Z5F Zhy Zmd k x:=by kernel_rfl
theorem ZMD(x:Tup Z5F.ps):Z5F.f 0 x=none:=by kernel_rfl
theorem ZN2(k:Nat):LOK Tryz.prog Zhy k Zmd:=LOK.by [] (by kernel_rfl) AllOK.nil
theorem ZMj(k:Nat):SoundAt Tryz.prog k 73 Z5F.E:= @Z5 Tryz.prog Z5F Zhy 73 Tryz.f73 Zmd (by kernel_rfl) (by kernel_rfl) (by kernel_rfl) Tryz.func73 (by kernel_rfl) (by kernel_rfl) (by kernel_rfl) T_ok ZN8 ZN2 ZMD ZMz k
noncomputable def ZgM:List PK:=[PK.mk .bool false none false none]
noncomputable def ZBR:List PK:=[PK.mk P6 true none false none]
noncomputable def Zza(r:Bool):Tup ZgM×OutD:=((r,()),none)
noncomputable def Zyf:Tup ZgM×OutD→Option (Bool)
 |(a,none)=>some (a.1)
 |_=>none
theorem ZHr: ∀b r,Zyf b=some r→Zza r=b:=by
 rintro ⟨a,_|_⟩ r h<;>cases h;rfl
noncomputable def ZaW:Nat→Int×Int→Option Bool
 |0,_=>none
 |k+1,p0=>
  if decide (p0.1<(0:Int))=true then some false else if decide (p0.1>(7:Int))=true then some false else if decide (p0.2<(0:Int))=true then some false else if decide (p0.2>(1:Int))=true then some false else if decide (p0.2=(0:Int))=true then some true else if decide (p0.1=(3:Int))=true then some true else some (decide (p0.1=(6:Int)))
noncomputable def Z3N:FnDef:= .of ZBR ZgM (Bool) (fun k x=>ZaW k x.1) Zza Zyf ZHr
noncomputable def Zq3:Code:=Tryz.f74.body.getD .skip
noncomputable def Zkm:Ctx (Tup ZgM×OutD):={T:=T,G:=[],mvs:=[],no:=0,n:=34,res:=resOf T ZBR ZgM Tryz.f74.results.toList,loops:=[],regs:=[],conds:=[],cuts:=[]}
theorem ZPH(k:Nat):EnvOK Tryz.prog k Zkm.G:=(EnvOK.nil mixed)
theorem ZQ4(k:Nat)(x:Tup Z3N.ps):Z3N.f (k+1) x=fnK Z3N Zkm Zq3 k x:=by kernel_rfl
theorem ZPS(x:Tup Z3N.ps):Z3N.f 0 x=none:=by kernel_rfl
theorem ZQI(k:Nat):LOK Tryz.prog Zkm k Zq3:=LOK.by [] (by kernel_rfl) AllOK.nil
theorem ZkI(k:Nat):SoundAt Tryz.prog k 74 Z3N.E:= @Z5 Tryz.prog Z3N Zkm 74 Tryz.f74 Zq3 (by kernel_rfl) (by kernel_rfl) (by kernel_rfl) Tryz.func74 (by kernel_rfl) (by kernel_rfl) (by kernel_rfl) T_ok ZPH ZQI ZPS ZQ4 k
noncomputable def Zk8:List PK:=[PK.mk .bool false none false none]
noncomputable def ZJg:List PK:=[PK.mk I6 false none false none,PK.mk I6 false none false none,PK.mk I6 false none false none]
noncomputable def ZE3(r:Bool):Tup Zk8×OutD:=((r,()),none)
noncomputable def ZEf:Tup Zk8×OutD→Option (Bool)
 |(a,none)=>some (a.1)
 |_=>none
theorem ZMC: ∀b r,ZEf b=some r→ZE3 r=b:=by
 rintro ⟨a,_|_⟩ r h<;>cases h;rfl
noncomputable def Z1f:Nat→Int→Int→Int→Option Bool
 |0,_,_,_=>none
 |k+1,p0,p1,p2=>
  if decide (p0≥p1)=true then some (decide (p0≤p2)) else some false
noncomputable def Z2i:FnDef:= .of ZJg Zk8 (Bool) (fun k x=>Z1f k x.1 x.2.1 x.2.2.1) ZE3 ZEf ZMC
noncomputable def Zwt:Code:=Tryz.f76.body.getD .skip
noncomputable def Zp0:Ctx (Tup Zk8×OutD):={T:=T,G:=[],mvs:=[],no:=0,n:=15,res:=resOf T ZJg Zk8 Tryz.f76.results.toList,loops:=[],regs:=[],conds:=[],cuts:=[]}
theorem ZTh(k:Nat):EnvOK Tryz.prog k Zp0.G:=(EnvOK.nil mixed)
theorem ZT5(k:Nat)(x:Tup Z2i.ps):Z2i.f (k+1) x=fnK Z2i Zp0 Zwt k x:=by kernel_rfl
theorem ZTq(x:Tup Z2i.ps):Z2i.f 0 x=none:=by kernel_rfl
theorem ZT0(k:Nat):LOK Tryz.prog Zp0 k Zwt:=LOK.by [] (by kernel_rfl) AllOK.nil
theorem Z9H(k:Nat):SoundAt Tryz.prog k 76 Z2i.E:= @Z5 Tryz.prog Z2i Zp0 76 Tryz.f76 Zwt (by kernel_rfl) (by kernel_rfl) (by kernel_rfl) Tryz.func76 (by kernel_rfl) (by kernel_rfl) (by kernel_rfl) T_ok ZTh ZT0 ZTq ZT5 k
noncomputable def Z10:List PK:=[PK.mk I6 false none false none]
noncomputable def Zbc:List PK:=[PK.mk (.slice 76 P6) false none false none,PK.mk P6 true none false none]
noncomputable def Z4Z(r:Int):Tup Z10×OutD:=((r,()),none)
noncomputable def Z50:Tup Z10×OutD→Option (Int)
 |(a,none)=>some (a.1)
 |_=>none
theorem Z8r: ∀b r,Z50 b=some r→Z4Z r=b:=by
 rintro ⟨a,_|_⟩ r h<;>cases h;rfl
noncomputable def Zw:Nat→Int→Int→List (Int×Int)→Int→Int→Option (LR Unit Int)
 |0,_,_,_,_,_=>none
 |k+1,b1_0,b1_1,v0,v7,v8=>
  if decide (v8<v7)=true then if (0:Int)≤v8 then if v8<(↑(List.length v0):Int) then if (decide (b1_0=Prod.fst (List.getD v0 (Int.toNat v8) ((0:Int),(0:Int))))&&(decide (b1_1=Prod.snd (List.getD v0 (Int.toNat v8) ((0:Int),(0:Int))))&&true))=true then some (LR.ret v8) else Zw k b1_0 b1_1 v0 v7 (wrap64 (v8+1)) else none else none else some (LR.go ())
noncomputable def Z4t:Spec:=Spec.mk [.ro,Ol] [(0,.at (.snap 0 P6)),(3,.at (.ptr 1 0)),(7,.at (.int .i64)),(8,.at (.int .i64))]
noncomputable def ZhB:Spec:=Spec.mk [.ro] []
noncomputable def ZI:LoopDef (Tup Z10×OutD):= .rets Z4t ZhB (Unit) (Int) (fun k x=>Zw k x.1.2.1.1 x.1.2.1.2.1 x.2.1 x.2.2.2.1 x.2.2.2.2.1) (fun z=>(((),()),(()))) (fun y=>()) (fun _=>rfl) Z4Z Z50 Z8r
noncomputable def Z12:Nat→List (Int×Int)→Int×Int→Option Int
 |0,_,_=>none
 |k+1,p0,p1=>
  Option.bind (Zw k p1.1 p1.2 p0 (↑(List.length p0):Int) (0:Int)) fun z0=>LR.on z0 (fun y0=>some (-1:Int)) fun r0=>some r0
noncomputable def Zt:FnDef:= .of Zbc Z10 (Int) (fun k x=>Z12 k x.1 x.2.1) Z4Z Z50 Z8r
noncomputable def Z35:Code:=Tryz.f81.body.getD .skip
noncomputable def ZE:Ctx (Tup Z10×OutD):={T:=T,G:=[],mvs:=[],no:=0,n:=19,res:=resOf T Zbc Z10 Tryz.f81.results.toList,loops:=[(0,ZI.E)],regs:=[],conds:=[],cuts:=[]}
theorem Zbf(k:Nat):EnvOK Tryz.prog k ZE.G:=(EnvOK.nil mixed)
noncomputable def Z2m:Code:=(findLoop 0 Z35).getD .skip
theorem ZhK(k:Nat)(x:Z4t.D):ZI.lp (k+1) x=loopK ZE ZI 0 Z2m k x:=by kernel_rfl
theorem ZhM(k:Nat):LOK Tryz.prog ZE k Z2m:=LOK.by [] (by kernel_rfl) AllOK.nil
theorem ZhG(x:Z4t.D):ZI.lp 0 x=none:=by kernel_rfl
theorem Zh1(k:Nat):EOK Tryz.prog ZE k ZI.E (.block 0 (.loop Z2m)):=Zd T_ok Zbf ZhG ZhK ZhM k
theorem ZjE(k:Nat)(x:Tup Zt.ps):Zt.f (k+1) x=fnK Zt ZE Z35 k x:=by kernel_rfl
theorem ZjA(x:Tup Zt.ps):Zt.f 0 x=none:=by kernel_rfl
theorem ZjV(k:Nat):LOK Tryz.prog ZE k Z35:=LOK.by [(ZI.E,.block 0 (.loop Z2m))] (by kernel_rfl) (AllOK.cons (Zh1 k) AllOK.nil)
theorem ZjU(k:Nat):SoundAt Tryz.prog k 81 Zt.E:= @Z5 Tryz.prog Zt ZE 81 Tryz.f81 Z35 (by kernel_rfl) (by kernel_rfl) (by kernel_rfl) Tryz.func81 (by kernel_rfl) (by kernel_rfl) (by kernel_rfl) T_ok Zbf ZjV ZjA ZjE k
noncomputable def Zca:List PK:=[PK.mk I6 false none false none]
noncomputable def Ztu:List PK:=[PK.mk (.pair I6 (.pair I6 (.slice 76 P6))) true none false none,PK.mk T6 true none false none]
noncomputable def ZqU(r:Int):Tup Zca×OutD:=((r,()),none)
noncomputable def Zqm:Tup Zca×OutD→Option (Int)
 |(a,none)=>some (a.1)
 |_=>none
theorem ZzG: ∀b r,Zqm b=some r→ZqU r=b:=by
 rintro ⟨a,_|_⟩ r h<;>cases h;rfl
noncomputable def ZfZ:Nat→Int×Int×List (Int×Int)→Int×Int×Int→Option Int
 |0,_,_=>none
 |k+1,p0,p1=>
  if decide (p1.1=1)=true then some p1.2.2 else if decide (p1.1=2)=true then some p0.2.1 else some (wrap64 (p0.2.1+1))
noncomputable def Z4O:FnDef:= .of Ztu Zca (Int) (fun k x=>ZfZ k x.1 x.2.1) ZqU Zqm ZzG
noncomputable def ZkM:Code:=Tryz.f82.body.getD .skip
noncomputable def Zgj:Ctx (Tup Zca×OutD):={T:=T,G:=[],mvs:=[],no:=0,n:=18,res:=resOf T Ztu Zca Tryz.f82.results.toList,loops:=[],regs:=[],conds:=[],cuts:=[]}
theorem ZKO(k:Nat):EnvOK Tryz.prog k Zgj.G:=(EnvOK.nil mixed)
theorem ZJF(k:Nat)(x:Tup Z4O.ps):Z4O.f (k+1) x=fnK Z4O Zgj ZkM k x:=by kernel_rfl
theorem ZK3(x:Tup Z4O.ps):Z4O.f 0 x=none:=by kernel_rfl
theorem ZLm(k:Nat):LOK Tryz.prog Zgj k ZkM:=LOK.by [] (by kernel_rfl) AllOK.nil
theorem ZJl(k:Nat):SoundAt Tryz.prog k 82 Z4O.E:= @Z5 Tryz.prog Z4O Zgj 82 Tryz.f82 ZkM (by kernel_rfl) (by kernel_rfl) (by kernel_rfl) Tryz.func82 (by kernel_rfl) (by kernel_rfl) (by kernel_rfl) T_ok ZKO ZLm ZK3 ZJF k
noncomputable def Z6J:List PK:=[PK.mk I6 false none false none]
noncomputable def Zpg:List PK:=[PK.mk (.pair I6 (.pair I6 (.pair (.slice 76 P6) (.pair (.slice 3 I6) (.slice 3 I6))))) true none false none]
noncomputable def Zny(r:Int):Tup Z6J×OutD:=((r,()),none)
noncomputable def ZnB:Tup Z6J×OutD→Option (Int)
 |(a,none)=>some (a.1)
 |_=>none
theorem Zw6: ∀b r,ZnB b=some r→Zny r=b:=by
 rintro ⟨a,_|_⟩ r h<;>cases h;rfl
noncomputable def Z5g:Nat→Int→Int→List (Int×Int)→List Int→List Int→Int→Int→Option Int
 |0,_,_,_,_,_,_,_=>none
 |k+1,b1_0,b1_1,b1_2,b1_3,b1_4,v3,v4=>
  if decide (v4<wrap64 (b1_0*b1_1))=true then Z5g k b1_0 b1_1 b1_2 b1_3 b1_4 (wrap64 (v3*wrap64 ((↑(List.length b1_2):Int)+1))) (wrap64 (v4+1)) else some v3
noncomputable def ZeP:Spec:=Spec.mk [.ro,O4] [(1,.at (.ptr 1 0)),(3,.at (.int .i64)),(4,.at (.int .i64))]
noncomputable def Zyz:Spec:=Spec.mk [.ro] [(3,.at (.int .i64))]
noncomputable def Z4B:LoopDef (Tup Z6J×OutD):= .plain ZeP Zyz (Int) (fun k x=>Z5g k x.1.2.1.1 x.1.2.1.2.1 x.1.2.1.2.2.1 x.1.2.1.2.2.2.1 x.1.2.1.2.2.2.2.1 x.2.2.1 x.2.2.2.1) (fun z=>(((),()),(z,()))) (fun y=>(y.2.1)) (fun _=>rfl)
noncomputable def ZdF:Nat→Int×Int×List (Int×Int)×List Int×List Int→Option Int
 |0,_=>none
 |k+1,p0=>
  Option.bind (Z5g k p0.1 p0.2.1 p0.2.2.1 p0.2.2.2.1 p0.2.2.2.2 (1:Int) (0:Int)) fun z0=>some z0
noncomputable def Z3x:FnDef:= .of Zpg Z6J (Int) (fun k x=>ZdF k x.1) Zny ZnB Zw6
noncomputable def ZdC:Code:=Tryz.f84.body.getD .skip
noncomputable def Z4T:Ctx (Tup Z6J×OutD):={T:=T,G:=[],mvs:=[],no:=0,n:=21,res:=resOf T Zpg Z6J Tryz.f84.results.toList,loops:=[(0,Z4B.E)],regs:=[],conds:=[],cuts:=[]}
theorem ZpL(k:Nat):EnvOK Tryz.prog k Z4T.G:=(EnvOK.nil mixed)
noncomputable def ZaB:Code:=(findLoop 0 ZdC).getD .skip
theorem Zyh(k:Nat)(x:ZeP.D):Z4B.lp (k+1) x=loopK Z4T Z4B 0 ZaB k x:=by kernel_rfl
theorem Zxu(k:Nat):LOK Tryz.prog Z4T k ZaB:=LOK.by [] (by kernel_rfl) AllOK.nil
theorem Zz8(x:ZeP.D):Z4B.lp 0 x=none:=by kernel_rfl
theorem ZvO(k:Nat):EOK Tryz.prog Z4T k Z4B.E (.block 0 (.loop ZaB)):=Zd T_ok ZpL Zz8 Zyh Zxu k
theorem ZEZ(k:Nat)(x:Tup Z3x.ps):Z3x.f (k+1) x=fnK Z3x Z4T ZdC k x:=by kernel_rfl
theorem ZGc(x:Tup Z3x.ps):Z3x.f 0 x=none:=by kernel_rfl
theorem ZFd(k:Nat):LOK Tryz.prog Z4T k ZdC:=LOK.by [(Z4B.E,.block 0 (.loop ZaB))] (by kernel_rfl) (AllOK.cons (ZvO k) AllOK.nil)
theorem ZEV(k:Nat):SoundAt Tryz.prog k 84 Z3x.E:= @Z5 Tryz.prog Z3x Z4T 84 Tryz.f84 ZdC (by kernel_rfl) (by kernel_rfl) (by kernel_rfl) Tryz.func84 (by kernel_rfl) (by kernel_rfl) (by kernel_rfl) T_ok ZpL ZFd ZGc ZEZ k
noncomputable def Z8Y:List PK:=[PK.mk (.pair I6 (.pair I6 (.slice 76 P6))) true none false none]
noncomputable def ZxP:List PK:=[PK.mk (.pair I6 (.pair I6 (.pair (.slice 76 P6) (.pair (.slice 3 I6) (.slice 3 I6))))) true none false none,PK.mk I6 false none false none]
noncomputable def Zvw(r:Int×Int×List (Int×Int)):Tup Z8Y×OutD:=((r,()),none)
noncomputable def ZuC:Tup Z8Y×OutD→Option (Int×Int×List (Int×Int))
 |(a,none)=>some (a.1)
 |_=>none
theorem ZGp: ∀b r,ZuC b=some r→Zvw r=b:=by
 rintro ⟨a,_|_⟩ r h<;>cases h;rfl
noncomputable def Z7P:Nat→Int→Int→List (Int×Int)→List Int→List Int→Int→Int→List (Int×Int)→Int→Option (Int×Int×List (Int×Int)×List Int×List Int×Int×Int×List (Int×Int)×Int×Int×List (Int×Int)×Int):=fun k b1_0 b1_1 b1_2 b1_3 b1_4 b2_0 b2_1 o3 v1=>
  if (0:Int)≤wrap64 (b1_0*b1_1) then if Int.toNat (wrap64 (b1_0*b1_1))*(16:Nat)≤(281474976710656:Nat) then some (b1_0,b1_1,b1_2,b1_3,b1_4,b2_0,b2_1,o3,b1_0,b1_1,List.replicate (Int.toNat (wrap64 (b1_0*b1_1))) ((0:Int),(0:Int)),v1) else none else none
noncomputable def Zdv:Nat→Int→Int→List (Int×Int)→List Int→List Int→Int→Int→List (Int×Int)→Int→Option (List (Int×Int×List (Int×Int)×List Int×List Int×Int×Int×List (Int×Int)×Int×Int×List (Int×Int)×Int)):=fun k b1_0 b1_1 b1_2 b1_3 b1_4 b2_0 b2_1 o3 v1=>
  joinL (if (0:Int)≤wrap64 (b1_0*b1_1) then if Int.toNat (wrap64 (b1_0*b1_1))*(16:Nat)≤(281474976710656:Nat) then some [(b1_0,b1_1,b1_2,b1_3,b1_4,b2_0,b2_1,o3,b1_0,b1_1,List.replicate (Int.toNat (wrap64 (b1_0*b1_1))) ((0:Int),(0:Int)),v1)] else none else none) (if (0:Int)≤wrap64 (b1_0*b1_1) then if Int.toNat (wrap64 (b1_0*b1_1))*(16:Nat)≤(281474976710656:Nat) then some [(b1_0,b1_1,b1_2,b1_3,b1_4,b2_0,b2_1,o3,b1_0,b1_1,List.replicate (Int.toNat (wrap64 (b1_0*b1_1))) ((0:Int),(0:Int)),v1)] else none else none)
noncomputable def Zpj:Spec:=Spec.mk [.ro,O4,Oa,O0] [(1,.at (.int .i64)),(2,.at (.ptr 1 0)),(4,.at (.ptr 2 0))]
noncomputable def ZFh:Spec:=Spec.mk [.ro,O4,Oa,O0,Od,O0] [(1,.at (.int .i64)),(2,.at (.ptr 1 0)),(4,.at (.ptr 2 0)),(5,.at (.ptr 4 0))]
noncomputable def Z6D:LoopDef (Tup Z8Y×OutD):= .plain Zpj ZFh (Int×Int×List (Int×Int)×List Int×List Int×Int×Int×List (Int×Int)×Int×Int×List (Int×Int)×Int) (fun k x=>Z7P k x.1.2.1.1 x.1.2.1.2.1 x.1.2.1.2.2.1 x.1.2.1.2.2.2.1 x.1.2.1.2.2.2.2.1 x.1.2.2.1.1 x.1.2.2.1.2.1 x.1.2.2.2.1 x.2.1) (fun z=>(((),(z.1,z.2.1,z.2.2.1,z.2.2.2.1,z.2.2.2.2.1,()),(z.2.2.2.2.2.1,z.2.2.2.2.2.2.1,(),()),z.2.2.2.2.2.2.2.1,(z.2.2.2.2.2.2.2.2.1,z.2.2.2.2.2.2.2.2.2.1,(),()),z.2.2.2.2.2.2.2.2.2.2.1,()),(z.2.2.2.2.2.2.2.2.2.2.2,(),(),(),()))) (fun y=>(y.1.2.1.1,y.1.2.1.2.1,y.1.2.1.2.2.1,y.1.2.1.2.2.2.1,y.1.2.1.2.2.2.2.1,y.1.2.2.1.1,y.1.2.2.1.2.1,y.1.2.2.2.1,y.1.2.2.2.2.1.1,y.1.2.2.2.2.1.2.1,y.1.2.2.2.2.2.1,y.2.1)) (fun _=>rfl)
theorem ZEp(k:Nat)(b1_0:Int)(b1_1:Int)(b1_2:List (Int×Int))(b1_3:List Int)(b1_4:List Int)(b2_0:Int)(b2_1:Int)(o3:List (Int×Int))(v1:Int):Zdv k b1_0 b1_1 b1_2 b1_3 b1_4 b2_0 b2_1 o3 v1=repl 2 (Z7P k b1_0 b1_1 b1_2 b1_3 b1_4 b2_0 b2_1 o3 v1):=by
 first
 |(simp only[Zdv,Z7P,Z7,Zc,Z8,Z9,Z6,Z3,if_true];done)
 |(simp only[Zdv,Z7P,Z7,Zc,Z8,Z9,Z6,Z3,if_true];simp only[Z1g,Z1i,Z2p,Z3];simp only[Z3E];exact Z1H ⟨fun h=>by simp only[h,and_self],fun h=>by simp only[h,and_self]⟩)
noncomputable def Z6i:Nat→Int→Int→List (Int×Int)→List Int→List Int→Int→Int→List (Int×Int)→Int→Int→List (Int×Int)→Int→Int→Option (Int×Int×List (Int×Int)×Int×Int×List (Int×Int))
 |0,_,_,_,_,_,_,_,_,_,_,_,_,_=>none
 |k+1,b1_0,b1_1,b1_2,b1_3,b1_4,b2_0,b2_1,o3,b4_0,b4_1,o5,v1,v6=>
  if decide (v6≥0)=true then if addS (↑(List.length b1_2):Int) (1:Int)=0 then none else if addS (↑(List.length b1_2):Int) (1:Int)=0 then none else if decide (Int.tmod v1 (addS (↑(List.length b1_2):Int) (1:Int))>0)=true then if (0:Int)≤wrap64 (Int.tmod v1 (addS (↑(List.length b1_2):Int) (1:Int))-1) then if wrap64 (Int.tmod v1 (addS (↑(List.length b1_2):Int) (1:Int))-1)<(↑(List.length b1_2):Int) then if (0:Int)≤v6 then if v6<(↑(List.length o5):Int) then Z6i k b1_0 b1_1 b1_2 b1_3 b1_4 b2_0 b2_1 o3 b4_0 b4_1 (List.set o5 (Int.toNat v6) (Prod.fst (List.getD b1_2 (Int.toNat (wrap64 (Int.tmod v1 (addS (↑(List.length b1_2):Int) (1:Int))-1))) ((0:Int),(0:Int))),Prod.snd (List.getD b1_2 (Int.toNat (wrap64 (Int.tmod v1 (addS (↑(List.length b1_2):Int) (1:Int))-1))) ((0:Int),(0:Int))))) (wrap64 (Int.tdiv v1 (addS (↑(List.length b1_2):Int) (1:Int)))) (wrap64 (v6-1)) else none else none else none else none else Z6i k b1_0 b1_1 b1_2 b1_3 b1_4 b2_0 b2_1 o3 b4_0 b4_1 o5 (wrap64 (Int.tdiv v1 (addS (↑(List.length b1_2):Int) (1:Int)))) (wrap64 (v6-1)) else some (b2_0,b2_1,o3,b4_0,b4_1,o5)
noncomputable def ZjQ:Spec:=Spec.mk [.ro,O4,Oa,O0,Od,O0] [(1,.at (.int .i64)),(2,.at (.ptr 1 0)),(4,.at (.ptr 2 0)),(5,.at (.ptr 4 0)),(6,.at (.int .i64))]
noncomputable def ZI0:Spec:=Spec.mk [.ro,Obq,O0,O6,O0] [(4,.at (.ptr 1 0)),(5,.at (.ptr 3 0))]
noncomputable def Z7E:LoopDef (Tup Z8Y×OutD):= .plain ZjQ ZI0 (Int×Int×List (Int×Int)×Int×Int×List (Int×Int)) (fun k x=>Z6i k x.1.2.1.1 x.1.2.1.2.1 x.1.2.1.2.2.1 x.1.2.1.2.2.2.1 x.1.2.1.2.2.2.2.1 x.1.2.2.1.1 x.1.2.2.1.2.1 x.1.2.2.2.1 x.1.2.2.2.2.1.1 x.1.2.2.2.2.1.2.1 x.1.2.2.2.2.2.1 x.2.1 x.2.2.2.2.2.1) (fun z=>(((),(z.1,z.2.1,(),()),z.2.2.1,(z.2.2.2.1,z.2.2.2.2.1,(),()),z.2.2.2.2.2,()),((),(),()))) (fun y=>(y.1.2.1.1,y.1.2.1.2.1,y.1.2.2.1,y.1.2.2.2.1.1,y.1.2.2.2.1.2.1,y.1.2.2.2.2.1)) (fun _=>rfl)
noncomputable def Zj3:Nat→Int×Int×List (Int×Int)×List Int×List Int→Int→Option (Int×Int×List (Int×Int))
 |0,_,_=>none
 |k+1,p0,p1=>
  Option.bind (Z7P k p0.1 p0.2.1 p0.2.2.1 p0.2.2.2.1 p0.2.2.2.2 (0:Int) (0:Int) [] p1) fun z0=>Option.bind (Z6i k z0.1 z0.2.1 z0.2.2.1 z0.2.2.2.1 z0.2.2.2.2.1 z0.2.2.2.2.2.1 z0.2.2.2.2.2.2.1 z0.2.2.2.2.2.2.2.1 z0.2.2.2.2.2.2.2.2.1 z0.2.2.2.2.2.2.2.2.2.1 z0.2.2.2.2.2.2.2.2.2.2.1 z0.2.2.2.2.2.2.2.2.2.2.2 (wrap64 ((↑(List.length z0.2.2.2.2.2.2.2.2.2.2.1):Int)-1))) fun z1=>some (z1.2.2.2.1,z1.2.2.2.2.1,z1.2.2.2.2.2)
noncomputable def Z6v:FnDef:= .of ZxP Z8Y (Int×Int×List (Int×Int)) (fun k x=>Zj3 k x.1 x.2.1) Zvw ZuC ZGp
noncomputable def Zf6:Code:=Tryz.f85.body.getD .skip
noncomputable def Z1X:Ctx (Tup Z8Y×OutD):={T:=T,G:=[],mvs:=[200031,200037],no:=0,n:=52,res:=resOf T ZxP Z8Y Tryz.f85.results.toList,loops:=[(0,Z7E.E)],regs:=[(1,Z6D.E)],conds:=[],cuts:=[]}
theorem ZoE(k:Nat):EnvOK Tryz.prog k Z1X.G:=(EnvOK.nil mixed)
noncomputable def Zia:Array Oper:=(findReg 1 Zf6).getD #[]
theorem ZG7(k:Nat)(x:Zpj.D):execD Z1X.T Z1X.G Z1X.mvs k Zia (Z6D.inp.st Z1X.n x) (outK Z1X Z6D)=Zdv k x.1.2.1.1 x.1.2.1.2.1 x.1.2.1.2.2.1 x.1.2.1.2.2.2.1 x.1.2.1.2.2.2.2.1 x.1.2.2.1.1 x.1.2.2.1.2.1 x.1.2.2.2.1 x.2.1:=by kernel_rfl
theorem ZDr(k:Nat):EOK Tryz.prog Z1X k Z6D.E (.region 1 Zia true):=Z4n (D:=Z6D) (m:=2) T_ok (ZoE k) (fun x=>(ZG7 k x).trans (ZEp k x.1.2.1.1 x.1.2.1.2.1 x.1.2.1.2.2.1 x.1.2.1.2.2.2.1 x.1.2.1.2.2.2.2.1 x.1.2.2.1.1 x.1.2.2.1.2.1 x.1.2.2.2.1 x.2.1))
noncomputable def Zeu:Code:=(findLoop 0 Zf6).getD .skip
theorem ZHu(k:Nat)(x:ZjQ.D):Z7E.lp (k+1) x=loopK Z1X Z7E 0 Zeu k x:=by kernel_rfl
theorem ZGM(k:Nat):LOK Tryz.prog Z1X k Zeu:=LOK.by [] (by kernel_rfl) AllOK.nil
theorem ZIB(x:ZjQ.D):Z7E.lp 0 x=none:=by kernel_rfl
theorem ZFx(k:Nat):EOK Tryz.prog Z1X k Z7E.E (.block 0 (.loop Zeu)):=Zd T_ok ZoE ZIB ZHu ZGM k
theorem ZNU(k:Nat)(x:Tup Z6v.ps):Z6v.f (k+1) x=fnK Z6v Z1X Zf6 k x:=by kernel_rfl
theorem ZNF(x:Tup Z6v.ps):Z6v.f 0 x=none:=by kernel_rfl
theorem ZP8(k:Nat):LOK Tryz.prog Z1X k Zf6:=LOK.by [(Z6D.E,.region 1 Zia true),(Z7E.E,.block 0 (.loop Zeu))] (by kernel_rfl) (AllOK.cons (ZDr k) (AllOK.cons (ZFx k) AllOK.nil))
theorem ZNB(k:Nat):SoundAt Tryz.prog k 85 Z6v.E:= @Z5 Tryz.prog Z6v Z1X 85 Tryz.f85 Zf6 (by kernel_rfl) (by kernel_rfl) (by kernel_rfl) Tryz.func85 (by kernel_rfl) (by kernel_rfl) (by kernel_rfl) T_ok ZoE ZP8 ZNF ZNU k
noncomputable def Z13:List PK:=[PK.mk .bool false none false none]
noncomputable def Zbg:List PK:=[PK.mk (.slice 40 T6) false none false none,PK.mk (.slice 40 T6) false none false none]
noncomputable def Z5a(r:Bool):Tup Z13×OutD:=((r,()),none)
noncomputable def Z5i:Tup Z13×OutD→Option (Bool)
 |(a,none)=>some (a.1)
 |_=>none
theorem Z8i: ∀b r,Z5i b=some r→Z5a r=b:=by
 rintro ⟨a,_|_⟩ r h<;>cases h;rfl
noncomputable def ZN:Nat→List (Int×Int×Int)→List (Int×Int×Int)→Int→Int→Option (LR Unit Bool)
 |0,_,_,_,_=>none
 |k+1,v0,v1,v12,v13=>
  if decide (v13<v12)=true then if (0:Int)≤v13 then if v13<(↑(List.length v0):Int) then if (0:Int)≤v13 then if v13<(↑(List.length v1):Int) then if (!(decide (Prod.fst (List.getD v0 (Int.toNat v13) ((0:Int),(0:Int),(0:Int)))=Prod.fst (List.getD v1 (Int.toNat v13) ((0:Int),(0:Int),(0:Int))))&&(decide (Prod.fst (Prod.snd (List.getD v0 (Int.toNat v13) ((0:Int),(0:Int),(0:Int))))=Prod.fst (Prod.snd (List.getD v1 (Int.toNat v13) ((0:Int),(0:Int),(0:Int)))))&&(decide (Prod.snd (Prod.snd (List.getD v0 (Int.toNat v13) ((0:Int),(0:Int),(0:Int))))=Prod.snd (Prod.snd (List.getD v1 (Int.toNat v13) ((0:Int),(0:Int),(0:Int)))))&&true))))=true then some (LR.ret false) else ZN k v0 v1 v12 (wrap64 (v13+1)) else none else none else none else none else some (LR.go ())
noncomputable def Z4s:Spec:=Spec.mk [.ro] [(0,.at (.snap 0 T6)),(1,.at (.snap 0 T6)),(12,.at (.int .i64)),(13,.at (.int .i64))]
noncomputable def ZhE:Spec:=Spec.mk [.ro] []
noncomputable def ZJ:LoopDef (Tup Z13×OutD):= .rets Z4s ZhE (Unit) (Bool) (fun k x=>ZN k x.2.1 x.2.2.1 x.2.2.2.1 x.2.2.2.2.1) (fun z=>(((),()),(()))) (fun y=>()) (fun _=>rfl) Z5a Z5i Z8i
noncomputable def Z38:Nat→List (Int×Int×Int)→List (Int×Int×Int)→Option Bool
 |0,_,_=>none
 |k+1,p0,p1=>
  if decide ((↑(List.length p0):Int)≠(↑(List.length p1):Int))=true then some false else Option.bind (ZN k p0 p1 (↑(List.length p0):Int) (0:Int)) fun z0=>LR.on z0 (fun y0=>some true) fun r0=>some r0
noncomputable def Zv:FnDef:= .of Zbg Z13 (Bool) (fun k x=>Z38 k x.1 x.2.1) Z5a Z5i Z8i
noncomputable def Z36:Code:=Tryz.f92.body.getD .skip
noncomputable def ZF:Ctx (Tup Z13×OutD):={T:=T,G:=[],mvs:=[],no:=0,n:=26,res:=resOf T Zbg Z13 Tryz.f92.results.toList,loops:=[(0,ZJ.E)],regs:=[],conds:=[],cuts:=[]}
theorem Zb5(k:Nat):EnvOK Tryz.prog k ZF.G:=(EnvOK.nil mixed)
noncomputable def Z2l:Code:=(findLoop 0 Z36).getD .skip
theorem ZhJ(k:Nat)(x:Z4s.D):ZJ.lp (k+1) x=loopK ZF ZJ 0 Z2l k x:=by kernel_rfl
theorem ZhF(k:Nat):LOK Tryz.prog ZF k Z2l:=LOK.by [] (by kernel_rfl) AllOK.nil
theorem ZhD(x:Z4s.D):ZJ.lp 0 x=none:=by kernel_rfl
theorem Zhc(k:Nat):EOK Tryz.prog ZF k ZJ.E (.block 0 (.loop Z2l)):=Zd T_ok Zb5 ZhD ZhJ ZhF k
theorem Zjs(k:Nat)(x:Tup Zv.ps):Zv.f (k+1) x=fnK Zv ZF Z36 k x:=by kernel_rfl
theorem ZjO(x:Tup Zv.ps):Zv.f 0 x=none:=by kernel_rfl
theorem ZjF(k:Nat):LOK Tryz.prog ZF k Z36:=LOK.by [(ZJ.E,.block 0 (.loop Z2l))] (by kernel_rfl) (AllOK.cons (Zhc k) AllOK.nil)
theorem ZjG(k:Nat):SoundAt Tryz.prog k 92 Zv.E:= @Z5 Tryz.prog Zv ZF 92 Tryz.f92 Z36 (by kernel_rfl) (by kernel_rfl) (by kernel_rfl) Tryz.func92 (by kernel_rfl) (by kernel_rfl) (by kernel_rfl) T_ok Zb5 ZjF ZjO Zjs k
noncomputable def Z5T:List PK:=[PK.mk (.slice 3 I6) false none false none]
noncomputable def Znt:List PK:=[PK.mk (.pair I6 (.pair I6 (.slice 76 P6))) true none false none,PK.mk (.slice 58 T6) false none false none]
noncomputable def Zms(r:List Int):Tup Z5T×OutD:=((r,()),none)
noncomputable def ZmJ:Tup Z5T×OutD→Option (List Int)
 |(a,none)=>some (a.1)
 |_=>none
theorem Zuf: ∀b r,ZmJ b=some r→Zms r=b:=by
 rintro ⟨a,_|_⟩ r h<;>cases h;rfl
noncomputable def Z4I:Nat→Int→Int→List (Int×Int)→List Int→List (Int×Int×Int)→Int→Int→Option (List Int)
 |0,_,_,_,_,_,_,_=>none
 |k+1,b1_0,b1_1,b1_2,o2,v12,v13,v14=>
  if decide (v14<v13)=true then if (0:Int)≤v14 then if v14<(↑(List.length v12):Int) then if (0:Int)≤wrap64 (wrap64 (Prod.fst (Prod.snd (List.getD v12 (Int.toNat v14) ((0:Int),(0:Int),(0:Int))))*b1_1)+Prod.snd (Prod.snd (List.getD v12 (Int.toNat v14) ((0:Int),(0:Int),(0:Int))))) then if wrap64 (wrap64 (Prod.fst (Prod.snd (List.getD v12 (Int.toNat v14) ((0:Int),(0:Int),(0:Int))))*b1_1)+Prod.snd (Prod.snd (List.getD v12 (Int.toNat v14) ((0:Int),(0:Int),(0:Int)))))<(↑(List.length o2):Int) then Z4I k b1_0 b1_1 b1_2 (List.set o2 (Int.toNat (wrap64 (wrap64 (Prod.fst (Prod.snd (List.getD v12 (Int.toNat v14) ((0:Int),(0:Int),(0:Int))))*b1_1)+Prod.snd (Prod.snd (List.getD v12 (Int.toNat v14) ((0:Int),(0:Int),(0:Int))))))) (Prod.fst (List.getD v12 (Int.toNat v14) ((0:Int),(0:Int),(0:Int))))) v12 v13 (wrap64 (v14+1)) else none else none else none else none else some o2
noncomputable def Zec:Spec:=Spec.mk [.ro,O2,O1] [(2,.at (.ptr 1 0)),(5,.at (.sl 2)),(12,.at (.snap 0 T6)),(13,.at (.int .i64)),(14,.at (.int .i64))]
noncomputable def Zx5:Spec:=Spec.mk [.ro,O1] [(5,.at (.sl 1))]
noncomputable def Z3T:LoopDef (Tup Z5T×OutD):= .plain Zec Zx5 (List Int) (fun k x=>Z4I k x.1.2.1.1 x.1.2.1.2.1 x.1.2.1.2.2.1 x.1.2.2.1 x.2.2.2.1 x.2.2.2.2.1 x.2.2.2.2.2.1) (fun z=>(((),z,()),((),()))) (fun y=>(y.1.2.1)) (fun _=>rfl)
noncomputable def Zcx:Nat→Int×Int×List (Int×Int)→List (Int×Int×Int)→Option (List Int)
 |0,_,_=>none
 |k+1,p0,p1=>
  if Int.toNat (↑(List.length p0.2.2):Int)*(8:Nat)≤(281474976710656:Nat) then Option.bind (Z4I k p0.1 p0.2.1 p0.2.2 (List.replicate (Int.toNat (↑(List.length p0.2.2):Int)) (0:Int)) p1 (↑(List.length p1):Int) (0:Int)) fun z0=>some z0 else none
noncomputable def Z2Q:FnDef:= .of Znt Z5T (List Int) (fun k x=>Zcx k x.1 x.2.1) Zms ZmJ Zuf
noncomputable def ZcH:Code:=Tryz.f93.body.getD .skip
noncomputable def Z4i:Ctx (Tup Z5T×OutD):={T:=T,G:=[],mvs:=[],no:=0,n:=32,res:=resOf T Znt Z5T Tryz.f93.results.toList,loops:=[(0,Z3T.E)],regs:=[],conds:=[],cuts:=[]}
theorem Znx(k:Nat):EnvOK Tryz.prog k Z4i.G:=(EnvOK.nil mixed)
noncomputable def Z9M:Code:=(findLoop 0 ZcH).getD .skip
theorem ZwQ(k:Nat)(x:Zec.D):Z3T.lp (k+1) x=loopK Z4i Z3T 0 Z9M k x:=by kernel_rfl
theorem ZwZ(k:Nat):LOK Tryz.prog Z4i k Z9M:=LOK.by [] (by kernel_rfl) AllOK.nil
theorem Zxj(x:Zec.D):Z3T.lp 0 x=none:=by kernel_rfl
theorem ZtQ(k:Nat):EOK Tryz.prog Z4i k Z3T.E (.block 0 (.loop Z9M)):=Zd T_ok Znx Zxj ZwQ ZwZ k
theorem ZCr(k:Nat)(x:Tup Z2Q.ps):Z2Q.f (k+1) x=fnK Z2Q Z4i ZcH k x:=by kernel_rfl
theorem ZDG(x:Tup Z2Q.ps):Z2Q.f 0 x=none:=by kernel_rfl
theorem ZCG(k:Nat):LOK Tryz.prog Z4i k ZcH:=LOK.by [(Z3T.E,.block 0 (.loop Z9M))] (by kernel_rfl) (AllOK.cons (ZtQ k) AllOK.nil)
theorem ZDW(k:Nat):SoundAt Tryz.prog k 93 Z2Q.E:= @Z5 Tryz.prog Z2Q Z4i 93 Tryz.f93 ZcH (by kernel_rfl) (by kernel_rfl) (by kernel_rfl) Tryz.func93 (by kernel_rfl) (by kernel_rfl) (by kernel_rfl) T_ok Znx ZCG ZDG ZCr k
noncomputable def Zih:List PK:=[PK.mk (.slice 3 I6) false none false none]
noncomputable def ZE2:List PK:=[PK.mk (.slice 3 I6) false none false none]
noncomputable def ZBc(r:List Int):Tup Zih×OutD:=((r,()),none)
noncomputable def ZBH:Tup Zih×OutD→Option (List Int)
 |(a,none)=>some (a.1)
 |_=>none
theorem ZLq: ∀b r,ZBH b=some r→ZBc r=b:=by
 rintro ⟨a,_|_⟩ r h<;>cases h;rfl
noncomputable def ZF1:Nat→List Int→Option (List Int)
 |0,_=>none
 |k+1,p0=>
  if (0:Nat)+List.length p0≤(140737488355328/8:Nat) then some p0 else none
noncomputable def Za4:FnDef:= .of ZE2 Zih (List Int) (fun k x=>ZF1 k x.1) ZBc ZBH ZLq
noncomputable def Ztb:Code:=Tryz.f102.body.getD .skip
noncomputable def ZmH:Ctx (Tup Zih×OutD):={T:=T,G:=[],mvs:=[],no:=0,n:=6,res:=resOf T ZE2 Zih Tryz.f102.results.toList,loops:=[],regs:=[],conds:=[],cuts:=[]}
theorem ZS8(k:Nat):EnvOK Tryz.prog k ZmH.G:=(EnvOK.nil mixed)
theorem ZSB(k:Nat)(x:Tup Za4.ps):Za4.f (k+1) x=fnK Za4 ZmH Ztb k x:=by kernel_rfl
theorem ZRQ(x:Tup Za4.ps):Za4.f 0 x=none:=by kernel_rfl
theorem ZSk(k:Nat):LOK Tryz.prog ZmH k Ztb:=LOK.by [] (by kernel_rfl) AllOK.nil
theorem ZS9(k:Nat):SoundAt Tryz.prog k 102 Za4.E:= @Z5 Tryz.prog Za4 ZmH 102 Tryz.f102 Ztb (by kernel_rfl) (by kernel_rfl) (by kernel_rfl) Tryz.func102 (by kernel_rfl) (by kernel_rfl) (by kernel_rfl) T_ok ZS8 ZSk ZRQ ZSB k
noncomputable def Zbt:BSig:=BSig.mk (111:Nat) [some ((3:Nat),Ty.int .i64),some ((3:Nat),Ty.int .i64),some ((76:Nat),Ty.pair (Ty.int .i64) (Ty.int .i64)),none]
noncomputable def Z9E:Nat→Int→List Int→List Int→List (Int×Int)→List (Int×Int)→Int→Option (Int×List Int×List Int×List (Int×Int)×List (Int×Int))
 |0,_,_,_,_,_,_=>none
 |k+1,b1_3,o2,o3,o4,o5,v3=>
  if decide (wrap64 (v3+1)<(↑(List.length o2):Int))=true then if (0:Int)≤v3 then if v3<(↑(List.length o2):Int) then if (0:Int)≤wrap64 (v3+1) then if wrap64 (v3+1)<(↑(List.length o2):Int) then if decide (List.getD o2 (Int.toNat v3) (0:Int)≤List.getD o2 (Int.toNat (wrap64 (v3+1))) (0:Int))=true then Z9E k b1_3 o2 o3 o4 o5 (wrap64 (v3+2)) else if (0:Int)≤v3 then if v3<(↑(List.length o5):Int) then if (0:Int)≤wrap64 (v3+1) then if wrap64 (v3+1)<(↑(List.length (List.set o5 (Int.toNat v3) ((2:Int),(0:Int)))):Int) then if (0:Int)≤v3 then if v3<(↑(List.length o2):Int) then if (0:Int)≤wrap64 (v3+1) then if wrap64 (v3+1)<(↑(List.length (List.set o2 (Int.toNat v3) (0:Int))):Int) then if (0:Int)≤v3 then if v3<(↑(List.length o3):Int) then if (0:Int)≤wrap64 (v3+1) then if wrap64 (v3+1)<(↑(List.length o3):Int) then if (0:Int)≤v3 then if v3<(↑(List.length o3):Int) then if (0:Int)≤wrap64 (v3+1) then if wrap64 (v3+1)<(↑(List.length (List.set o3 (Int.toNat v3) (List.getD o3 (Int.toNat (wrap64 (v3+1))) (0:Int)))):Int) then Z9E k b1_3 (List.set (List.set o2 (Int.toNat v3) (0:Int)) (Int.toNat (wrap64 (v3+1))) (1:Int)) (List.set (List.set o3 (Int.toNat v3) (List.getD o3 (Int.toNat (wrap64 (v3+1))) (0:Int))) (Int.toNat (wrap64 (v3+1))) (List.getD o3 (Int.toNat v3) (0:Int))) o4 (List.set (List.set o5 (Int.toNat v3) ((2:Int),(0:Int))) (Int.toNat (wrap64 (v3+1))) ((1:Int),(0:Int))) (wrap64 (v3+2)) else none else none else none else none else none else none else none else none else none else none else none else none else none else none else none else none else none else none else none else none else some (b1_3,o2,o3,o4,o5)
noncomputable def Zd2:Spec:=Spec.mk [.ro,Oe,O1,O1,O0,O0] [(0,.at (.ptr 1 0)),(2,.at (.sl 5)),(3,.at (.int .i64))]
noncomputable def ZtM:Spec:=Spec.mk [.ro,Oe,O1,O1,O0,O0] [(0,.at (.ptr 1 0)),(2,.at (.sl 5))]
noncomputable def Z3B:LoopDef (FD Zbt.fs×Bool):= .plain Zd2 ZtM (Int×List Int×List Int×List (Int×Int)×List (Int×Int)) (fun k x=>Z9E k x.1.2.1.2.2.2.1 x.1.2.2.1 x.1.2.2.2.1 x.1.2.2.2.2.1 x.1.2.2.2.2.2.1 x.2.2.2.1) (fun z=>(((),((),(),(),z.1,()),z.2.1,z.2.2.1,z.2.2.2.1,z.2.2.2.2,()),((),(),()))) (fun y=>(y.1.2.1.2.2.2.1,y.1.2.2.1,y.1.2.2.2.1,y.1.2.2.2.2.1,y.1.2.2.2.2.2.1)) (fun _=>rfl)
noncomputable def ZAb:Nat→List Int→List Int→List (Int×Int)→Int→Option ((List Int×List Int×List (Int×Int)×Int×Unit)×Bool)
 |0,_,_,_,_=>none
 |k+1,p0,p1,p2,p3=>
  if Int.toNat (↑(List.length p0):Int)*(16:Nat)≤(281474976710656:Nat) then Option.bind (Z9E k p3 p0 p1 p2 (List.replicate (Int.toNat (↑(List.length p0):Int)) ((0:Int),(0:Int))) (Int.tmod p3 (2:Int))) fun z0=>if List.length z0.2.2.2.1+List.length z0.2.2.2.2≤(140737488355328/16:Nat) then some ((z0.2.1,z0.2.2.1,z0.2.2.2.1++z0.2.2.2.2,wrap64 (z0.1+1),()),false) else none else none
noncomputable def Z1p:BDef:=⟨Zbt,none,fun k x=>ZAb k x.1 x.2.1 x.2.2.1 x.2.2.2.1⟩
noncomputable def Zbs:Code:=Tryz.f103.body.getD .skip
noncomputable def Z3F:Ctx (FD Zbt.fs×Bool):={T:=T,G:=[],mvs:=[],no:=1,n:=109,res:=BSig.res Zbt (none),loops:=[(0,Z3B.E)],regs:=[],conds:=[],cuts:=[]}
theorem ZmY(k:Nat):EnvOK Tryz.prog k Z3F.G:=(EnvOK.nil mixed)
noncomputable def Z8e:Code:=(findLoop 0 Zbs).getD .skip
theorem Zua(k:Nat)(x:Zd2.D):Z3B.lp (k+1) x=loopK Z3F Z3B 0 Z8e k x:=by kernel_rfl
theorem Zuc(k:Nat):LOK Tryz.prog Z3F k Z8e:=LOK.by [] (by kernel_rfl) AllOK.nil
theorem ZtD(x:Zd2.D):Z3B.lp 0 x=none:=by kernel_rfl
theorem ZrO(k:Nat):EOK Tryz.prog Z3F k Z3B.E (.block 0 (.loop Z8e)):=Zd T_ok ZmY ZtD Zua Zuc k
theorem ZzY(k:Nat)(x:FD Z1p.q.fs):Z1p.f (k+1) x=fnKB Z1p Z3F Zbs k x:=by kernel_rfl
theorem ZAC(x:FD Z1p.q.fs):Z1p.f 0 x=none:=by kernel_rfl
theorem ZAg(k:Nat):LOK Tryz.prog Z3F k Zbs:=LOK.by [(Z3B.E,.block 0 (.loop Z8e))] (by kernel_rfl) (AllOK.cons (ZrO k) AllOK.nil)
theorem ZAT(k:Nat):ClSound Tryz.prog k 103 Z1p.E:= @ZVr Tryz.prog Z1p Z3F 103 Tryz.f103 Zbs (by kernel_rfl) (by kernel_rfl) (by kernel_rfl) (by kernel_rfl) Tryz.func103 (by kernel_rfl) (by kernel_rfl) (by kernel_rfl) T_ok ZmY ZAg ZAC ZzY k
noncomputable def Z4F:BSig:=BSig.mk (111:Nat) [some ((3:Nat),Ty.int .i64),some ((3:Nat),Ty.int .i64),some ((76:Nat),Ty.pair (Ty.int .i64) (Ty.int .i64)),none]
noncomputable def Zk6(r:(List Int×List Int×List (Int×Int)×Int×Unit)×Bool):(FD Z4F.fs×Bool):=r
noncomputable def Zk7:(FD Z4F.fs×Bool)→Option ((List Int×List Int×List (Int×Int)×Int×Unit)×Bool):=fun b=>some b
theorem Zrw: ∀b r,Zk7 b=some r→Zk6 r=b:=fun b r h=>(Option.some.inj h).symm
noncomputable def Zd5:Nat→Int→List Int→List Int→List (Int×Int)→Int→Option (LR (Int×List Int×List Int×List (Int×Int)) ((List Int×List Int×List (Int×Int)×Int×Unit)×Bool))
 |0,_,_,_,_,_=>none
 |k+1,b1_3,o2,o3,o4,v3=>
  if decide (v3<(↑(List.length o2):Int))=true then if (0:Int)≤wrap64 (v3-1) then if wrap64 (v3-1)<(↑(List.length o2):Int) then if (0:Int)≤v3 then if v3<(↑(List.length o2):Int) then if decide (List.getD o2 (Int.toNat (wrap64 (v3-1))) (0:Int)>List.getD o2 (Int.toNat v3) (0:Int))=true then some (LR.ret ((o2,o3,o4,b1_3,()),false)) else Zd5 k b1_3 o2 o3 o4 (wrap64 (v3+1)) else none else none else none else none else some (LR.go (b1_3,o2,o3,o4))
noncomputable def Zcr:Spec:=Spec.mk [.ro,Oe,O1,O1,O0] [(0,.at (.ptr 1 0)),(3,.at (.int .i64))]
noncomputable def Zsa:Spec:=Spec.mk [.ro,Oe,O1,O1,O0] []
noncomputable def Z3h:LoopDef (FD Z4F.fs×Bool):= .rets Zcr Zsa (Int×List Int×List Int×List (Int×Int)) ((List Int×List Int×List (Int×Int)×Int×Unit)×Bool) (fun k x=>Zd5 k x.1.2.1.2.2.2.1 x.1.2.2.1 x.1.2.2.2.1 x.1.2.2.2.2.1 x.2.2.1) (fun z=>(((),((),(),(),z.1,()),z.2.1,z.2.2.1,z.2.2.2,()),(()))) (fun y=>(y.1.2.1.2.2.2.1,y.1.2.2.1,y.1.2.2.2.1,y.1.2.2.2.2.1)) (fun _=>rfl) Zk6 Zk7 Zrw
noncomputable def ZyP:Nat→List Int→List Int→List (Int×Int)→Int→Option ((List Int×List Int×List (Int×Int)×Int×Unit)×Bool)
 |0,_,_,_,_=>none
 |k+1,p0,p1,p2,p3=>
  Option.bind (Zd5 k p3 p0 p1 p2 (1:Int)) fun z0=>LR.on z0 (fun y0=>some ((y0.2.1,y0.2.2.1,y0.2.2.2,y0.1,()),true)) fun r0=>some r0
noncomputable def Z1x:BDef:=⟨Z4F,some (2:Nat),fun k x=>ZyP k x.1 x.2.1 x.2.2.1 x.2.2.2.1⟩
noncomputable def Zap:Code:=Tryz.f104.body.getD .skip
noncomputable def Z3n:Ctx (FD Z4F.fs×Bool):={T:=T,G:=[],mvs:=[],no:=1,n:=29,res:=BSig.res Z4F (some (2:Nat)),loops:=[(0,Z3h.E)],regs:=[],conds:=[],cuts:=[]}
theorem Zly(k:Nat):EnvOK Tryz.prog k Z3n.G:=(EnvOK.nil mixed)
noncomputable def Z7k:Code:=(findLoop 0 Zap).getD .skip
theorem ZsL(k:Nat)(x:Zcr.D):Z3h.lp (k+1) x=loopK Z3n Z3h 0 Z7k k x:=by kernel_rfl
theorem Zts(k:Nat):LOK Tryz.prog Z3n k Z7k:=LOK.by [] (by kernel_rfl) AllOK.nil
theorem ZsP(x:Zcr.D):Z3h.lp 0 x=none:=by kernel_rfl
theorem Zrk(k:Nat):EOK Tryz.prog Z3n k Z3h.E (.block 0 (.loop Z7k)):=Zd T_ok Zly ZsP ZsL Zts k
theorem Zzb(k:Nat)(x:FD Z1x.q.fs):Z1x.f (k+1) x=fnKB Z1x Z3n Zap k x:=by kernel_rfl
theorem Zzo(x:FD Z1x.q.fs):Z1x.f 0 x=none:=by kernel_rfl
theorem Zxx(k:Nat):LOK Tryz.prog Z3n k Zap:=LOK.by [(Z3h.E,.block 0 (.loop Z7k))] (by kernel_rfl) (AllOK.cons (Zrk k) AllOK.nil)
theorem ZyE(k:Nat):ClSound Tryz.prog k 104 Z1x.E:= @ZVr Tryz.prog Z1x Z3n 104 Tryz.f104 Zap (by kernel_rfl) (by kernel_rfl) (by kernel_rfl) (by kernel_rfl) Tryz.func104 (by kernel_rfl) (by kernel_rfl) (by kernel_rfl) T_ok Zly Zxx Zzo Zzb k
noncomputable def Zck:List PK:=[PK.mk .bool false none false none]
noncomputable def Ztf:List PK:=[PK.mk P6 true none false none]
noncomputable def ZqE(r:Bool):Tup Zck×OutD:=((r,()),none)
noncomputable def ZqH:Tup Zck×OutD→Option (Bool)
 |(a,none)=>some (a.1)
 |_=>none
theorem ZAN: ∀b r,ZqH b=some r→ZqE r=b:=by
 rintro ⟨a,_|_⟩ r h<;>cases h;rfl
noncomputable def Z6j:Nat→Int×Int→Option Bool
 |0,_=>none
 |k+1,p0=>
  if decide (p0.1=(3:Int))=true then some true else some (decide (p0.1=(6:Int)))
noncomputable def Z2E:FnDef:= .of Ztf Zck (Bool) (fun k x=>Z6j k x.1) ZqE ZqH ZAN
noncomputable def ZkU:Code:=Tryz.f105.body.getD .skip
noncomputable def Zgl:Ctx (Tup Zck×OutD):={T:=T,G:=[],mvs:=[],no:=0,n:=11,res:=resOf T Ztf Zck Tryz.f105.results.toList,loops:=[],regs:=[],conds:=[],cuts:=[]}
theorem ZJW(k:Nat):EnvOK Tryz.prog k Zgl.G:=(EnvOK.nil mixed)
theorem ZLp(k:Nat)(x:Tup Z2E.ps):Z2E.f (k+1) x=fnK Z2E Zgl ZkU k x:=by kernel_rfl
theorem ZKw(x:Tup Z2E.ps):Z2E.f 0 x=none:=by kernel_rfl
theorem ZKY(k:Nat):LOK Tryz.prog Zgl k ZkU:=LOK.by [] (by kernel_rfl) AllOK.nil
theorem Zli(k:Nat):SoundAt Tryz.prog k 105 Z2E.E:= @Z5 Tryz.prog Z2E Zgl 105 Tryz.f105 ZkU (by kernel_rfl) (by kernel_rfl) (by kernel_rfl) Tryz.func105 (by kernel_rfl) (by kernel_rfl) (by kernel_rfl) T_ok ZJW ZKY ZKw ZLp k
noncomputable def Zc4:List PK:=[PK.mk I6 false none false none]
noncomputable def Zzx:List PK:=[PK.mk I6 false none false none,PK.mk I6 false none false none]
noncomputable def Zv8(r:Int):Tup Zc4×OutD:=((r,()),none)
noncomputable def ZuS:Tup Zc4×OutD→Option (Int)
 |(a,none)=>some (a.1)
 |_=>none
theorem ZFm: ∀b r,ZuS b=some r→Zv8 r=b:=by
 rintro ⟨a,_|_⟩ r h<;>cases h;rfl
noncomputable def Z6m:Nat→Int→Int→Int→Option Int
 |0,_,_,_=>none
 |k+1,v0,v1,v5=>
  if decide (v1>0)=true then if decide (v5≤7000)=true then Z6m k v0 (wrap64 (v1-1)) (wrap64 (v5*v0)) else some v5 else some v5
noncomputable def Zjr:Spec:=Spec.mk [.ro] [(0,.at (.int .i64)),(1,.at (.int .i64)),(5,.at (.int .i64))]
noncomputable def ZI6:Spec:=Spec.mk [.ro] [(5,.at (.int .i64))]
noncomputable def Z7M:LoopDef (Tup Zc4×OutD):= .plain Zjr ZI6 (Int) (fun k x=>Z6m k x.2.1 x.2.2.1 x.2.2.2.1) (fun z=>(((),()),(z,()))) (fun y=>(y.2.1)) (fun _=>rfl)
noncomputable def Zo2:Nat→Int→Int→Option Int
 |0,_,_=>none
 |k+1,p0,p1=>
  Option.bind (Z6m k p0 p1 (1:Int)) fun z0=>some z0
noncomputable def Z6u:FnDef:= .of Zzx Zc4 (Int) (fun k x=>Zo2 k x.1 x.2.1) Zv8 ZuS ZFm
noncomputable def ZiH:Code:=Tryz.f106.body.getD .skip
noncomputable def Z97:Ctx (Tup Zc4×OutD):={T:=T,G:=[],mvs:=[],no:=0,n:=18,res:=resOf T Zzx Zc4 Tryz.f106.results.toList,loops:=[(0,Z7M.E)],regs:=[],conds:=[],cuts:=[]}
theorem ZxX(k:Nat):EnvOK Tryz.prog k Z97.G:=(EnvOK.nil mixed)
noncomputable def ZeK:Code:=(findLoop 0 ZiH).getD .skip
theorem ZHN(k:Nat)(x:Zjr.D):Z7M.lp (k+1) x=loopK Z97 Z7M 0 ZeK k x:=by kernel_rfl
theorem ZHq(k:Nat):LOK Tryz.prog Z97 k ZeK:=LOK.by [] (by kernel_rfl) AllOK.nil
theorem ZHC(x:Zjr.D):Z7M.lp 0 x=none:=by kernel_rfl
theorem ZEd(k:Nat):EOK Tryz.prog Z97 k Z7M.E (.block 0 (.loop ZeK)):=Zd T_ok ZxX ZHC ZHN ZHq k
theorem ZOS(k:Nat)(x:Tup Z6u.ps):Z6u.f (k+1) x=fnK Z6u Z97 ZiH k x:=by kernel_rfl
theorem ZNo(x:Tup Z6u.ps):Z6u.f 0 x=none:=by kernel_rfl
theorem ZNd(k:Nat):LOK Tryz.prog Z97 k ZiH:=LOK.by [(Z7M.E,.block 0 (.loop ZeK))] (by kernel_rfl) (AllOK.cons (ZEd k) AllOK.nil)
theorem ZOb(k:Nat):SoundAt Tryz.prog k 106 Z6u.E:= @Z5 Tryz.prog Z6u Z97 106 Tryz.f106 ZiH (by kernel_rfl) (by kernel_rfl) (by kernel_rfl) Tryz.func106 (by kernel_rfl) (by kernel_rfl) (by kernel_rfl) T_ok ZxX ZNd ZNo ZOS k
noncomputable def Zik:List PK:=[PK.mk I6 false none false none]
noncomputable def ZFC:List PK:=[PK.mk (.pair I6 (.pair I6 (.slice 76 P6))) true none false none,PK.mk T6 true none false none]
noncomputable def ZC8(r:Int):Tup Zik×OutD:=((r,()),none)
noncomputable def ZBn:Tup Zik×OutD→Option (Int)
 |(a,none)=>some (a.1)
 |_=>none
theorem ZKL: ∀b r,ZBn b=some r→ZC8 r=b:=by
 rintro ⟨a,_|_⟩ r h<;>cases h;rfl
noncomputable def ZhY:Nat→Int×Int×List (Int×Int)→Int×Int×Int→Option Int
 |0,_,_=>none
 |k+1,p0,p1=>
  if decide (p1.1=1)=true then some p1.2.2 else if decide (p1.1=2)=true then some p0.2.1 else some (wrap64 (p0.2.1+1))
noncomputable def Z72:FnDef:= .of ZFC Zik (Int) (fun k x=>ZhY k x.1 x.2.1) ZC8 ZBn ZKL
noncomputable def ZrQ:Code:=Tryz.f108.body.getD .skip
noncomputable def Zm1:Ctx (Tup Zik×OutD):={T:=T,G:=[],mvs:=[],no:=0,n:=18,res:=resOf T ZFC Zik Tryz.f108.results.toList,loops:=[],regs:=[],conds:=[],cuts:=[]}
theorem ZRC(k:Nat):EnvOK Tryz.prog k Zm1.G:=(EnvOK.nil mixed)
theorem ZSw(k:Nat)(x:Tup Z72.ps):Z72.f (k+1) x=fnK Z72 Zm1 ZrQ k x:=by kernel_rfl
theorem ZRK(x:Tup Z72.ps):Z72.f 0 x=none:=by kernel_rfl
theorem ZRD(k:Nat):LOK Tryz.prog Zm1 k ZrQ:=LOK.by [] (by kernel_rfl) AllOK.nil
theorem ZEg(k:Nat):SoundAt Tryz.prog k 108 Z72.E:= @Z5 Tryz.prog Z72 Zm1 108 Tryz.f108 ZrQ (by kernel_rfl) (by kernel_rfl) (by kernel_rfl) Tryz.func108 (by kernel_rfl) (by kernel_rfl) (by kernel_rfl) T_ok ZRC ZRD ZRK ZSw k
noncomputable def ZbZ:List PK:=[PK.mk (.slice 3 I6) false none false none]
noncomputable def Zyk:List PK:=[PK.mk (.pair I6 (.pair I6 (.slice 76 P6))) true none false none]
noncomputable def Zva(r:List Int):Tup ZbZ×OutD:=((r,()),none)
noncomputable def ZvB:Tup ZbZ×OutD→Option (List Int)
 |(a,none)=>some (a.1)
 |_=>none
theorem ZFo: ∀b r,ZvB b=some r→Zva r=b:=by
 rintro ⟨a,_|_⟩ r h<;>cases h;rfl
noncomputable def Z8J:Nat→List Int→List (Int×Int)→Int→Int→Option (List Int)
 |0,_,_,_,_=>none
 |k+1,o1,v8,v9,v10=>
  if decide (v10<v9)=true then if (0:Int)≤v10 then if v10<(↑(List.length v8):Int) then if (0:Int)≤Prod.fst (List.getD v8 (Int.toNat v10) ((0:Int),(0:Int))) then if Prod.fst (List.getD v8 (Int.toNat v10) ((0:Int),(0:Int)))<(↑(List.length o1):Int) then if (0:Int)≤Prod.fst (List.getD v8 (Int.toNat v10) ((0:Int),(0:Int))) then if Prod.fst (List.getD v8 (Int.toNat v10) ((0:Int),(0:Int)))<(↑(List.length o1):Int) then Z8J k (List.set o1 (Int.toNat (Prod.fst (List.getD v8 (Int.toNat v10) ((0:Int),(0:Int))))) (wrap64 (List.getD o1 (Int.toNat (Prod.fst (List.getD v8 (Int.toNat v10) ((0:Int),(0:Int))))) (0:Int)+1))) v8 v9 (wrap64 (v10+1)) else none else none else none else none else none else none else some o1
noncomputable def ZjL:Spec:=Spec.mk [.ro,O1] [(3,.at (.sl 1)),(8,.at (.snap 0 P6)),(9,.at (.int .i64)),(10,.at (.int .i64))]
noncomputable def ZHw:Spec:=Spec.mk [.ro,O1] [(3,.at (.sl 1))]
noncomputable def Z7Q:LoopDef (Tup ZbZ×OutD):= .plain ZjL ZHw (List Int) (fun k x=>Z8J k x.1.2.1 x.2.2.1 x.2.2.2.1 x.2.2.2.2.1) (fun z=>(((),z,()),((),()))) (fun y=>(y.1.2.1)) (fun _=>rfl)
noncomputable def ZoO:Nat→Int×Int×List (Int×Int)→Option (List Int)
 |0,_=>none
 |k+1,p0=>
  Option.bind (Z8J k (List.replicate (Int.toNat (8:Int)) (0:Int)) p0.2.2 (↑(List.length p0.2.2):Int) (0:Int)) fun z0=>some z0
noncomputable def Z6P:FnDef:= .of Zyk ZbZ (List Int) (fun k x=>ZoO k x.1) Zva ZvB ZFo
noncomputable def ZiU:Code:=Tryz.f109.body.getD .skip
noncomputable def Z93:Ctx (Tup ZbZ×OutD):={T:=T,G:=[],mvs:=[],no:=0,n:=23,res:=resOf T Zyk ZbZ Tryz.f109.results.toList,loops:=[(0,Z7Q.E)],regs:=[],conds:=[],cuts:=[]}
theorem Zy7(k:Nat):EnvOK Tryz.prog k Z93.G:=(EnvOK.nil mixed)
noncomputable def Zes:Code:=(findLoop 0 ZiU).getD .skip
theorem ZHT(k:Nat)(x:ZjL.D):Z7Q.lp (k+1) x=loopK Z93 Z7Q 0 Zes k x:=by kernel_rfl
theorem ZIs(k:Nat):LOK Tryz.prog Z93 k Zes:=LOK.by [] (by kernel_rfl) AllOK.nil
theorem ZHE(x:ZjL.D):Z7Q.lp 0 x=none:=by kernel_rfl
theorem ZGx(k:Nat):EOK Tryz.prog Z93 k Z7Q.E (.block 0 (.loop Zes)):=Zd T_ok Zy7 ZHE ZHT ZIs k
theorem ZNn(k:Nat)(x:Tup Z6P.ps):Z6P.f (k+1) x=fnK Z6P Z93 ZiU k x:=by kernel_rfl
theorem ZNy(x:Tup Z6P.ps):Z6P.f 0 x=none:=by kernel_rfl
theorem ZNW(k:Nat):LOK Tryz.prog Z93 k ZiU:=LOK.by [(Z7Q.E,.block 0 (.loop Zes))] (by kernel_rfl) (AllOK.cons (ZGx k) AllOK.nil)
theorem ZOt(k:Nat):SoundAt Tryz.prog k 109 Z6P.E:= @Z5 Tryz.prog Z6P Z93 109 Tryz.f109 ZiU (by kernel_rfl) (by kernel_rfl) (by kernel_rfl) Tryz.func109 (by kernel_rfl) (by kernel_rfl) (by kernel_rfl) T_ok Zy7 ZNW ZNy ZNn k
noncomputable def Zdg:List PK:=[PK.mk I6 false none false none]
noncomputable def ZC4:List PK:=[PK.mk (.slice 40 T6) false none false none,PK.mk (.slice 40 T6) false none false none]
noncomputable def Zoj(r:Int):Tup Zdg×OutD:=((r,()),none)
noncomputable def ZoI:Tup Zdg×OutD→Option (Int)
 |(a,none)=>some (a.1)
 |_=>none
theorem ZqF: ∀b r,ZoI b=some r→Zoj r=b:=by
 rintro ⟨a,_|_⟩ r h<;>cases h;rfl
noncomputable def Zav:Nat→List (Int×Int×Int)→List (Int×Int×Int)→Int→Int→Option (LR Unit Int)
 |0,_,_,_,_=>none
 |k+1,v1,v7,v8,v9=>
  if decide (v9<v8)=true then if (0:Int)≤v9 then if v9<(↑(List.length v7):Int) then if (0:Int)≤v9 then if v9<(↑(List.length v1):Int) then if (!(decide (Prod.fst (List.getD v7 (Int.toNat v9) ((0:Int),(0:Int),(0:Int)))=Prod.fst (List.getD v1 (Int.toNat v9) ((0:Int),(0:Int),(0:Int))))&&(decide (Prod.fst (Prod.snd (List.getD v7 (Int.toNat v9) ((0:Int),(0:Int),(0:Int))))=Prod.fst (Prod.snd (List.getD v1 (Int.toNat v9) ((0:Int),(0:Int),(0:Int)))))&&(decide (Prod.snd (Prod.snd (List.getD v7 (Int.toNat v9) ((0:Int),(0:Int),(0:Int))))=Prod.snd (Prod.snd (List.getD v1 (Int.toNat v9) ((0:Int),(0:Int),(0:Int)))))&&true))))=true then some (LR.ret v9) else Zav k v1 v7 v8 (wrap64 (v9+1)) else none else none else none else none else some (LR.go ())
noncomputable def ZkV:Spec:=Spec.mk [.ro] [(1,.at (.snap 0 T6)),(7,.at (.snap 0 T6)),(8,.at (.int .i64)),(9,.at (.int .i64))]
noncomputable def ZJB:Spec:=Spec.mk [.ro] []
noncomputable def Z95:LoopDef (Tup Zdg×OutD):= .rets ZkV ZJB (Unit) (Int) (fun k x=>Zav k x.2.1 x.2.2.1 x.2.2.2.1 x.2.2.2.2.1) (fun z=>(((),()),(()))) (fun y=>()) (fun _=>rfl) Zoj ZoI ZqF
noncomputable def Zkz:Nat→List (Int×Int×Int)→List (Int×Int×Int)→Option Int
 |0,_,_=>none
 |k+1,p0,p1=>
  Option.bind (Zav k p1 p0 (↑(List.length p0):Int) (0:Int)) fun z0=>LR.on z0 (fun y0=>some (-1:Int)) fun r0=>some r0
noncomputable def Z83:FnDef:= .of ZC4 Zdg (Int) (fun k x=>Zkz k x.1 x.2.1) Zoj ZoI ZqF
noncomputable def Zkx:Code:=Tryz.f113.body.getD .skip
noncomputable def Zb1:Ctx (Tup Zdg×OutD):={T:=T,G:=[],mvs:=[],no:=0,n:=22,res:=resOf T ZC4 Zdg Tryz.f113.results.toList,loops:=[(0,Z95.E)],regs:=[],conds:=[],cuts:=[]}
theorem ZB9(k:Nat):EnvOK Tryz.prog k Zb1.G:=(EnvOK.nil mixed)
noncomputable def Zg8:Code:=(findLoop 0 Zkx).getD .skip
theorem ZK6(k:Nat)(x:ZkV.D):Z95.lp (k+1) x=loopK Zb1 Z95 0 Zg8 k x:=by kernel_rfl
theorem ZKT(k:Nat):LOK Tryz.prog Zb1 k Zg8:=LOK.by [] (by kernel_rfl) AllOK.nil
theorem ZKC(x:ZkV.D):Z95.lp 0 x=none:=by kernel_rfl
theorem ZGZ(k:Nat):EOK Tryz.prog Zb1 k Z95.E (.block 0 (.loop Zg8)):=Zd T_ok ZB9 ZKC ZK6 ZKT k
theorem ZQd(k:Nat)(x:Tup Z83.ps):Z83.f (k+1) x=fnK Z83 Zb1 Zkx k x:=by kernel_rfl
theorem ZRa(x:Tup Z83.ps):Z83.f 0 x=none:=by kernel_rfl
theorem ZQu(k:Nat):LOK Tryz.prog Zb1 k Zkx:=LOK.by [(Z95.E,.block 0 (.loop Zg8))] (by kernel_rfl) (AllOK.cons (ZGZ k) AllOK.nil)
theorem ZQC(k:Nat):SoundAt Tryz.prog k 113 Z83.E:= @Z5 Tryz.prog Z83 Zb1 113 Tryz.f113 Zkx (by kernel_rfl) (by kernel_rfl) (by kernel_rfl) Tryz.func113 (by kernel_rfl) (by kernel_rfl) (by kernel_rfl) T_ok ZB9 ZQu ZRa ZQd k
noncomputable def Z7N:List PK:=[]
noncomputable def ZqP:List PK:=[PK.mk (.pair I6 (.pair I6 (.slice 76 P6))) true (some (2,76,.pair I6 I6)) false none,PK.mk (.slice 3 I6) false none false none,PK.mk (.slice 3 I6) false none false none,PK.mk I6 false none false none]
noncomputable def Zpc(r:List (Int×Int)):Tup Z7N×OutD:=((()),some ⟨Ty.pair (Ty.int .i64) (Ty.int .i64),r⟩)
noncomputable def Zin:Tup Z7N×OutD→Option (List (Int×Int))
 |(a,some ⟨u,ys⟩)=>if h:u=Ty.pair (Ty.int .i64) (Ty.int .i64) then some (castU h ys) else none
 |_=>none
theorem Zxw: ∀b r,Zin b=some r→Zpc r=b:=by
 rintro ⟨a,o⟩ r h
 cases o with
 |none=>cases h
 |some s=>
  obtain ⟨u,ys⟩:=s
  simp only[Zin]at h
  split at h
  ·rename_i hu;subst hu;injection h with h;subst h;rfl
  ·cases h
noncomputable def ZA:Nat→List (Int×Int)→Int→Int→List Int→List Int→Int→Int→Int→Option (List (Int×Int))
 |0,_,_,_,_,_,_,_,_=>none
 |k+1,o1,b2_0,b2_1,v1,v2,v3,v12,v13=>
  if decide (v13<v12)=true then if decide (v13=v3)=true then if (0:Int)≤v13 then if v13<(↑(List.length v2):Int) then if decide (List.getD v2 (Int.toNat v13) (0:Int)≠1)=true then if (0:Int)≤v13 then if v13<(↑(List.length o1):Int) then if (0:Int)≤v13 then if v13<(↑(List.length o1):Int) then ZA k (List.set o1 (Int.toNat v13) (Prod.fst (List.getD o1 (Int.toNat v13) ((0:Int),(0:Int))),wrap64 ((1:Int)-Prod.snd (List.getD o1 (Int.toNat v13) ((0:Int),(0:Int)))))) b2_0 b2_1 v1 v2 v3 v12 (wrap64 (v13+1)) else none else none else none else none else ZA k o1 b2_0 b2_1 v1 v2 v3 v12 (wrap64 (v13+1)) else none else none else if (0:Int)≤v3 then if v3<(↑(List.length o1):Int) then if decide (Prod.fst (List.getD o1 (Int.toNat v3) ((0:Int),(0:Int)))=6)=true then if (0:Int)≤v13 then if v13<(↑(List.length o1):Int) then if decide (Prod.fst (List.getD o1 (Int.toNat v13) ((0:Int),(0:Int)))=6)=true then if (0:Int)≤v13 then if v13<(↑(List.length v1):Int) then if (0:Int)≤v3 then if v3<(↑(List.length v1):Int) then if decide (List.getD v1 (Int.toNat v13) (0:Int)=List.getD v1 (Int.toNat v3) (0:Int))=true then if (0:Int)≤v13 then if v13<(↑(List.length v2):Int) then if decide (List.getD v2 (Int.toNat v13) (0:Int)≠1)=true then if (0:Int)≤v13 then if v13<(↑(List.length o1):Int) then if (0:Int)≤v13 then if v13<(↑(List.length o1):Int) then ZA k (List.set o1 (Int.toNat v13) (Prod.fst (List.getD o1 (Int.toNat v13) ((0:Int),(0:Int))),wrap64 ((1:Int)-Prod.snd (List.getD o1 (Int.toNat v13) ((0:Int),(0:Int)))))) b2_0 b2_1 v1 v2 v3 v12 (wrap64 (v13+1)) else none else none else none else none else ZA k o1 b2_0 b2_1 v1 v2 v3 v12 (wrap64 (v13+1)) else none else none else ZA k o1 b2_0 b2_1 v1 v2 v3 v12 (wrap64 (v13+1)) else none else none else none else none else ZA k o1 b2_0 b2_1 v1 v2 v3 v12 (wrap64 (v13+1)) else none else none else ZA k o1 b2_0 b2_1 v1 v2 v3 v12 (wrap64 (v13+1)) else none else none else some o1
noncomputable def ZfN:Spec:=Spec.mk [.ro,Oi,Of] [(1,.at (.snap 0 I6)),(2,.at (.snap 0 I6)),(3,.at (.int .i64)),(4,.at (.ptr 2 0)),(12,.at (.int .i64)),(13,.at (.int .i64))]
noncomputable def ZAa:Spec:=Spec.mk [.ro,Oi] []
noncomputable def Z5k:LoopDef (Tup Z7N×OutD):= .plain ZfN ZAa (List (Int×Int)) (fun k x=>ZA k x.1.2.1 x.1.2.2.1.1 x.1.2.2.1.2.1 x.2.1 x.2.2.1 x.2.2.2.1 x.2.2.2.2.2.1 x.2.2.2.2.2.2.1) (fun z=>(((),z,()),(()))) (fun y=>(y.1.2.1)) (fun _=>rfl)
noncomputable def Z7G:Nat→Int×Int×List (Int×Int)→List Int→List Int→Int→Option (List (Int×Int))
 |0,_,_,_,_=>none
 |k+1,p0,p1,p2,p3=>
  Option.bind (ZA k p0.2.2 p0.1 p0.2.1 p1 p2 p3 (↑(List.length p0.2.2):Int) (0:Int)) fun z0=>some z0
noncomputable def Z4d:FnDef:= .of ZqP Z7N (List (Int×Int)) (fun k x=>Z7G k x.1 x.2.1 x.2.2.1 x.2.2.2.1) Zpc Zin Zxw
noncomputable def ZeG:Code:=Tryz.f115.body.getD .skip
noncomputable def Z5u:Ctx (Tup Z7N×OutD):={T:=T,G:=[],mvs:=[],no:=1,n:=69,res:=resOf T ZqP Z7N Tryz.f115.results.toList,loops:=[(0,Z5k.E)],regs:=[],conds:=[],cuts:=[]}
theorem ZqX(k:Nat):EnvOK Tryz.prog k Z5u.G:=(EnvOK.nil mixed)
noncomputable def Zbv:Code:=(findLoop 0 ZeG).getD .skip
theorem ZzS(k:Nat)(x:ZfN.D):Z5k.lp (k+1) x=loopK Z5u Z5k 0 Zbv k x:=by kernel_rfl
theorem ZA7(k:Nat):LOK Tryz.prog Z5u k Zbv:=LOK.by [] (by kernel_rfl) AllOK.nil
theorem ZA2(x:ZfN.D):Z5k.lp 0 x=none:=by kernel_rfl
theorem Zxs(k:Nat):EOK Tryz.prog Z5u k Z5k.E (.block 0 (.loop Zbv)):=Zd T_ok ZqX ZA2 ZzS ZA7 k
theorem ZGH(k:Nat)(x:Tup Z4d.ps):Z4d.f (k+1) x=fnK Z4d Z5u ZeG k x:=by kernel_rfl
theorem ZHL(x:Tup Z4d.ps):Z4d.f 0 x=none:=by kernel_rfl
theorem ZIJ(k:Nat):LOK Tryz.prog Z5u k ZeG:=LOK.by [(Z5k.E,.block 0 (.loop Zbv))] (by kernel_rfl) (AllOK.cons (Zxs k) AllOK.nil)
theorem ZGV(k:Nat):SoundAt Tryz.prog k 115 Z4d.E:= @Z5 Tryz.prog Z4d Z5u 115 Tryz.f115 ZeG (by kernel_rfl) (by kernel_rfl) (by kernel_rfl) Tryz.func115 (by kernel_rfl) (by kernel_rfl) (by kernel_rfl) T_ok ZqX ZIJ ZHL ZGH k
noncomputable def Ziq:List PK:=[PK.mk I6 false none false none]
noncomputable def ZFV:List PK:=[PK.mk I6 false none false none,PK.mk I6 false none false none]
noncomputable def ZBN(r:Int):Tup Ziq×OutD:=((r,()),none)
noncomputable def ZB7:Tup Ziq×OutD→Option (Int)
 |(a,none)=>some (a.1)
 |_=>none
theorem ZKc: ∀b r,ZB7 b=some r→ZBN r=b:=by
 rintro ⟨a,_|_⟩ r h<;>cases h;rfl
noncomputable def ZmD:Nat→Int→Int→Option Int
 |0,_,_=>none
 |k+1,p0,p1=>
  if IntKind.wrap IntKind.u64 p1<(0:Int) then none else some (bits BinOp.and IntKind.i64 (Int.fdiv p0 ((2:Int)^min (Int.toNat (IntKind.wrap IntKind.u64 p1)) (IntKind.bits IntKind.i64))) (1:Int))
noncomputable def Z9V:FnDef:= .of ZFV Ziq (Int) (fun k x=>ZmD k x.1 x.2.1) ZBN ZB7 ZKc
noncomputable def Zs2:Code:=Tryz.f118.body.getD .skip
noncomputable def Zm8:Ctx (Tup Ziq×OutD):={T:=T,G:=[],mvs:=[],no:=0,n:=10,res:=resOf T ZFV Ziq Tryz.f118.results.toList,loops:=[],regs:=[],conds:=[],cuts:=[]}
theorem ZSj(k:Nat):EnvOK Tryz.prog k Zm8.G:=(EnvOK.nil mixed)
theorem ZSl(k:Nat)(x:Tup Z9V.ps):Z9V.f (k+1) x=fnK Z9V Zm8 Zs2 k x:=by kernel_rfl
theorem ZRR(x:Tup Z9V.ps):Z9V.f 0 x=none:=by kernel_rfl
theorem ZRz(k:Nat):LOK Tryz.prog Zm8 k Zs2:=LOK.by [] (by kernel_rfl) AllOK.nil
theorem ZRT(k:Nat):SoundAt Tryz.prog k 118 Z9V.E:= @Z5 Tryz.prog Z9V Zm8 118 Tryz.f118 Zs2 (by kernel_rfl) (by kernel_rfl) (by kernel_rfl) Tryz.func118 (by kernel_rfl) (by kernel_rfl) (by kernel_rfl) T_ok ZSj ZRz ZRR ZSl k
noncomputable def Zf0:List PK:=[PK.mk (.pair I6 (.pair I6 (.slice 76 P6))) true none false none]
noncomputable def ZGe:List PK:=[PK.mk (.pair I6 (.pair I6 (.slice 76 P6))) true none false none]
noncomputable def ZBE(r:Int×Int×List (Int×Int)):Tup Zf0×OutD:=((r,()),none)
noncomputable def ZB1:Tup Zf0×OutD→Option (Int×Int×List (Int×Int))
 |(a,none)=>some (a.1)
 |_=>none
theorem ZKN: ∀b r,ZB1 b=some r→ZBE r=b:=by
 rintro ⟨a,_|_⟩ r h<;>cases h;rfl
noncomputable def Zau:Nat→Int→Int→List (Int×Int)→Int→Int→List (Int×Int)→Option (Int×Int×List (Int×Int)):=fun k b1_0 b1_1 b1_2 b2_0 b2_1 o3=>
  if (0:Nat)+List.length b1_2≤(140737488355328/16:Nat) then some (b1_0,b1_1,b1_2) else none
noncomputable def Zgp:Nat→Int→Int→List (Int×Int)→Int→Int→List (Int×Int)→Option (List (Int×Int×List (Int×Int))):=fun k b1_0 b1_1 b1_2 b2_0 b2_1 o3=>
  joinL (joinL (if (0:Nat)+List.length b1_2≤(140737488355328/16:Nat) then some [(b1_0,b1_1,b1_2)] else none) (joinL (if (0:Nat)+List.length b1_2≤(140737488355328/16:Nat) then some [(b1_0,b1_1,b1_2)] else none) (if (0:Nat)+List.length b1_2≤(140737488355328/16:Nat) then some [(b1_0,b1_1,b1_2)] else none))) (joinL (joinL (if (0:Nat)+List.length b1_2≤(140737488355328/16:Nat) then some [(b1_0,b1_1,b1_2)] else none) (joinL (if (0:Nat)+List.length b1_2≤(140737488355328/16:Nat) then some [(b1_0,b1_1,b1_2)] else none) (if (0:Nat)+List.length b1_2≤(140737488355328/16:Nat) then some [(b1_0,b1_1,b1_2)] else none))) (joinL (joinL (if (0:Nat)+List.length b1_2≤(140737488355328/16:Nat) then some [(b1_0,b1_1,b1_2)] else none) (if (0:Nat)+List.length b1_2≤(140737488355328/16:Nat) then some [(b1_0,b1_1,b1_2)] else none)) (joinL (joinL (if (0:Nat)+List.length b1_2≤(140737488355328/16:Nat) then some [(b1_0,b1_1,b1_2)] else none) (if (0:Nat)+List.length b1_2≤(140737488355328/16:Nat) then some [(b1_0,b1_1,b1_2)] else none)) (if (0:Nat)+List.length b1_2≤(140737488355328/16:Nat) then joinL (some [(b1_0,b1_1,b1_2)]) (some [(b1_0,b1_1,b1_2)]) else none))))
noncomputable def ZsO:Spec:=Spec.mk [.ro,O2,Oa,O0] [(1,.at (.ptr 1 0)),(2,.at (.ptr 2 0))]
noncomputable def ZKZ:Spec:=Spec.mk [.ro,Obq,O0] [(2,.at (.ptr 1 0))]
noncomputable def Z91:LoopDef (Tup Zf0×OutD):= .plain ZsO ZKZ (Int×Int×List (Int×Int)) (fun k x=>Zau k x.1.2.1.1 x.1.2.1.2.1 x.1.2.1.2.2.1 x.1.2.2.1.1 x.1.2.2.1.2.1 x.1.2.2.2.1) (fun z=>(((),(z.1,z.2.1,(),()),z.2.2,()),((),()))) (fun y=>(y.1.2.1.1,y.1.2.1.2.1,y.1.2.2.1)) (fun _=>rfl)
theorem ZLx(k:Nat)(b1_0:Int)(b1_1:Int)(b1_2:List (Int×Int))(b2_0:Int)(b2_1:Int)(o3:List (Int×Int)):Zgp k b1_0 b1_1 b1_2 b2_0 b2_1 o3=repl 12 (Zau k b1_0 b1_1 b1_2 b2_0 b2_1 o3):=by
 first
 |(simp only[Zgp,Zau,Z7,Zc,Z8,Z9,Z6,Z3,if_true];done)
 |(simp only[Zgp,Zau,Z7,Zc,Z8,Z9,Z6,Z3,if_true];simp only[Z1g,Z1i,Z2p,Z3];simp only[Z3E];exact Z1H ⟨fun h=>by simp only[h,and_self],fun h=>by simp only[h,and_self]⟩)
noncomputable def Z9R:Nat→Int×Int×List (Int×Int)→Option (Int×Int×List (Int×Int))
 |0,_=>none
 |k+1,p0=>
  Option.bind (Zau k p0.1 p0.2.1 p0.2.2 (0:Int) (0:Int) []) fun z0=>some (z0.1,z0.2.1,z0.2.2)
noncomputable def Z5Y:FnDef:= .of ZGe Zf0 (Int×Int×List (Int×Int)) (fun k x=>Z9R k x.1) ZBE ZB1 ZKN
noncomputable def Zml:Code:=Tryz.f126.body.getD .skip
noncomputable def Z64:Ctx (Tup Zf0×OutD):={T:=T,G:=[],mvs:=[],no:=0,n:=12,res:=resOf T ZGe Zf0 Tryz.f126.results.toList,loops:=[],regs:=[(1,Z91.E)],conds:=[],cuts:=[]}
theorem ZFv(k:Nat):EnvOK Tryz.prog k Z64.G:=(EnvOK.nil mixed)
noncomputable def ZkW:Array Oper:=(findReg 1 Zml).getD #[]
theorem ZKW(k:Nat)(x:ZsO.D):execD Z64.T Z64.G Z64.mvs k ZkW (Z91.inp.st Z64.n x) (outK Z64 Z91)=Zgp k x.1.2.1.1 x.1.2.1.2.1 x.1.2.1.2.2.1 x.1.2.2.1.1 x.1.2.2.1.2.1 x.1.2.2.2.1:=by kernel_rfl
theorem ZHg(k:Nat):EOK Tryz.prog Z64 k Z91.E (.region 1 ZkW true):=Z4n (D:=Z91) (m:=12) T_ok (ZFv k) (fun x=>(ZKW k x).trans (ZLx k x.1.2.1.1 x.1.2.1.2.1 x.1.2.1.2.2.1 x.1.2.2.1.1 x.1.2.2.1.2.1 x.1.2.2.2.1))
theorem ZS2(k:Nat)(x:Tup Z5Y.ps):Z5Y.f (k+1) x=fnK Z5Y Z64 Zml k x:=by kernel_rfl
theorem ZSv(x:Tup Z5Y.ps):Z5Y.f 0 x=none:=by kernel_rfl
theorem ZSp(k:Nat):LOK Tryz.prog Z64 k Zml:=LOK.by [(Z91.E,.region 1 ZkW true)] (by kernel_rfl) (AllOK.cons (ZHg k) AllOK.nil)
theorem ZsE(k:Nat):SoundAt Tryz.prog k 126 Z5Y.E:= @Z5 Tryz.prog Z5Y Z64 126 Tryz.f126 Zml (by kernel_rfl) (by kernel_rfl) (by kernel_rfl) Tryz.func126 (by kernel_rfl) (by kernel_rfl) (by kernel_rfl) T_ok ZFv ZSp ZSv ZS2 k
noncomputable def Zb9:List PK:=[PK.mk I6 false none false none]
noncomputable def ZqM:List PK:=[PK.mk (.pair (.slice 5 (.int .u8)) (.pair I6 (.int .u64))) false none false (some 105)]
noncomputable def ZpF(r:Int×Int×Int):Tup Zb9×OutD:=((r.1,()),some ⟨Ty.pair (Ty.slice (5:Nat) (Ty.int .u8)) (Ty.pair (Ty.int .i64) (Ty.int .u64)),[([],r.2)]⟩)
noncomputable def ZhR:Tup Zb9×OutD→Option (Int×Int×Int)
 |(a,some ⟨u,ys⟩)=>if h:u=Ty.pair (Ty.slice (5:Nat) (Ty.int .u8)) (Ty.pair (Ty.int .i64) (Ty.int .u64)) then (match castU h ys with
  |[([],y)]=>some (a.1,y)
  |_=>none) else none
 |_=>none
theorem ZxG: ∀b r,ZhR b=some r→ZpF r=b:=by
 rintro ⟨a,o⟩ r h
 cases o with
 |none=>cases h
 |some s=>
  obtain ⟨u,ys⟩:=s
  simp only[ZhR]at h
  split at h
  ·rename_i hu
   subst hu
   match ys,h with
   |[],h=>cases (show (none:Option _)=some r from h)
   |[([],y)],h=>injection (show some _=some r from h) with h;subst h;rfl
   |[(_::_,y)],h=>cases (show (none:Option _)=some r from h)
   |(h1,_)::_::_,h=>cases h1<;>cases (show (none:Option _)=some r from h)
  ·cases h
noncomputable def Z7I:Nat→List Int×Int×Int→Option (Int×Int×Int)
 |0,_=>none
 |k+1,p0=>
  if decide (p0.2.1<(↑(List.length p0.1):Int))=true then if (0:Int)≤p0.2.1 then if p0.2.1<(↑(List.length p0.1):Int) then if decide (wrap64 (p0.2.1+1)≤(↑(List.length p0.1):Int))=true then some (wrap64 (List.getD p0.1 (Int.toNat p0.2.1) (0:Int)),wrap64 (p0.2.1+1),IntKind.wrap IntKind.u64 (IntKind.wrap IntKind.u64 (IntKind.wrap IntKind.u64 (p0.2.2*(6364136223846793005:Int))+IntKind.wrap IntKind.u64 (wrap64 (List.getD p0.1 (Int.toNat p0.2.1) (0:Int))))+1442695040888963407)) else some (wrap64 (bits BinOp.and IntKind.u64 (Int.fdiv (IntKind.wrap IntKind.u64 (IntKind.wrap IntKind.u64 (IntKind.wrap IntKind.u64 (p0.2.2*(6364136223846793005:Int))+IntKind.wrap IntKind.u64 (wrap64 (List.getD p0.1 (Int.toNat p0.2.1) (0:Int))))+1442695040888963407)) ((2:Int)^min (Int.toNat (40:Int)) (IntKind.bits IntKind.u64))) (255:Int)),wrap64 (p0.2.1+1),IntKind.wrap IntKind.u64 (IntKind.wrap IntKind.u64 (IntKind.wrap IntKind.u64 (p0.2.2*(6364136223846793005:Int))+IntKind.wrap IntKind.u64 (wrap64 (List.getD p0.1 (Int.toNat p0.2.1) (0:Int))))+1442695040888963407)) else none else none else if decide (wrap64 (p0.2.1+1)≤(↑(List.length p0.1):Int))=true then some ((0:Int),wrap64 (p0.2.1+1),IntKind.wrap IntKind.u64 (IntKind.wrap IntKind.u64 (IntKind.wrap IntKind.u64 (p0.2.2*(6364136223846793005:Int))+IntKind.wrap IntKind.u64 (0:Int))+1442695040888963407)) else some (wrap64 (bits BinOp.and IntKind.u64 (Int.fdiv (IntKind.wrap IntKind.u64 (IntKind.wrap IntKind.u64 (IntKind.wrap IntKind.u64 (p0.2.2*(6364136223846793005:Int))+IntKind.wrap IntKind.u64 (0:Int))+1442695040888963407)) ((2:Int)^min (Int.toNat (40:Int)) (IntKind.bits IntKind.u64))) (255:Int)),wrap64 (p0.2.1+1),IntKind.wrap IntKind.u64 (IntKind.wrap IntKind.u64 (IntKind.wrap IntKind.u64 (p0.2.2*(6364136223846793005:Int))+IntKind.wrap IntKind.u64 (0:Int))+1442695040888963407))
noncomputable def Z4c:FnDef:= .of ZqM Zb9 (Int×Int×Int) (fun k x=>Z7I k x.1) ZpF ZhR ZxG
noncomputable def Zjy:Code:=Tryz.f128.body.getD .skip
noncomputable def ZeH:Ctx (Tup Zb9×OutD):={T:=T,G:=[],mvs:=[],no:=2,n:=62,res:=resOf T ZqM Zb9 Tryz.f128.results.toList,loops:=[],regs:=[],conds:=[],cuts:=[]}
theorem ZH7(k:Nat):EnvOK Tryz.prog k ZeH.G:=(EnvOK.nil mixed)
theorem ZIy(k:Nat)(x:Tup Z4c.ps):Z4c.f (k+1) x=fnK Z4c ZeH Zjy k x:=by kernel_rfl
theorem ZHR(x:Tup Z4c.ps):Z4c.f 0 x=none:=by kernel_rfl
theorem ZIf(k:Nat):LOK Tryz.prog ZeH k Zjy:=LOK.by [] (by kernel_rfl) AllOK.nil
theorem ZHv(k:Nat):SoundAt Tryz.prog k 128 Z4c.E:= @Z5 Tryz.prog Z4c ZeH 128 Tryz.f128 Zjy (by kernel_rfl) (by kernel_rfl) (by kernel_rfl) Tryz.func128 (by kernel_rfl) (by kernel_rfl) (by kernel_rfl) T_ok ZH7 ZIf ZHR ZIy k
noncomputable def Zf9:List PK:=[PK.mk I6 false none false none]
noncomputable def ZyB:List PK:=[PK.mk I6 false none false none,PK.mk I6 false none false none]
noncomputable def ZvK(r:Int):Tup Zf9×OutD:=((r,()),none)
noncomputable def Zvd:Tup Zf9×OutD→Option (Int)
 |(a,none)=>some (a.1)
 |_=>none
theorem ZEB: ∀b r,Zvd b=some r→ZvK r=b:=by
 rintro ⟨a,_|_⟩ r h<;>cases h;rfl
noncomputable def Z1l:Nat→Int→Int→Option Int
 |0,_,_=>none
 |k+1,p0,p1=>
  if decide (p0<p1)=true then some p0 else some p1
noncomputable def Z6r:FnDef:= .of ZyB Zf9 (Int) (fun k x=>Z1l k x.1 x.2.1) ZvK Zvd ZEB
noncomputable def Zo8:Code:=Tryz.f129.body.getD .skip
noncomputable def ZiI:Ctx (Tup Zf9×OutD):={T:=T,G:=[],mvs:=[],no:=0,n:=10,res:=resOf T ZyB Zf9 Tryz.f129.results.toList,loops:=[],regs:=[],conds:=[],cuts:=[]}
theorem ZOU(k:Nat):EnvOK Tryz.prog k ZiI.G:=(EnvOK.nil mixed)
theorem ZO0(k:Nat)(x:Tup Z6r.ps):Z6r.f (k+1) x=fnK Z6r ZiI Zo8 k x:=by kernel_rfl
theorem ZNZ(x:Tup Z6r.ps):Z6r.f 0 x=none:=by kernel_rfl
theorem ZP0(k:Nat):LOK Tryz.prog ZiI k Zo8:=LOK.by [] (by kernel_rfl) AllOK.nil
theorem ZOe(k:Nat):SoundAt Tryz.prog k 129 Z6r.E:= @Z5 Tryz.prog Z6r ZiI 129 Tryz.f129 Zo8 (by kernel_rfl) (by kernel_rfl) (by kernel_rfl) Tryz.func129 (by kernel_rfl) (by kernel_rfl) (by kernel_rfl) T_ok ZOU ZP0 ZNZ ZO0 k
noncomputable def ZjY:List PK:=[PK.mk P6 true none false none]
noncomputable def ZJ5:List PK:=[PK.mk (.pair I6 (.pair I6 (.slice 76 P6))) true none false none,PK.mk I6 false none false none,PK.mk I6 false none false none]
noncomputable def ZFD(r:Int×Int):Tup ZjY×OutD:=((r,()),none)
noncomputable def ZEi:Tup ZjY×OutD→Option (Int×Int)
 |(a,none)=>some (a.1)
 |_=>none
theorem ZM0: ∀b r,ZEi b=some r→ZFD r=b:=by
 rintro ⟨a,_|_⟩ r h<;>cases h;rfl
noncomputable def ZbE:Nat→Int×Int×List (Int×Int)→Int→Int→Option (Int×Int)
 |0,_,_,_=>none
 |k+1,p0,p1,p2=>
  if (0:Int)≤wrap64 (wrap64 (p1*p0.2.1)+p2) then if wrap64 (wrap64 (p1*p0.2.1)+p2)<(↑(List.length p0.2.2):Int) then some (Prod.fst (List.getD p0.2.2 (Int.toNat (wrap64 (wrap64 (p1*p0.2.1)+p2))) ((0:Int),(0:Int))),Prod.snd (List.getD p0.2.2 (Int.toNat (wrap64 (wrap64 (p1*p0.2.1)+p2))) ((0:Int),(0:Int)))) else none else none
noncomputable def Z6Y:FnDef:= .of ZJ5 ZjY (Int×Int) (fun k x=>ZbE k x.1 x.2.1 x.2.2.1) ZFD ZEi ZM0
noncomputable def Zw7:Code:=Tryz.f133.body.getD .skip
noncomputable def ZoX:Ctx (Tup ZjY×OutD):={T:=T,G:=[],mvs:=[],no:=0,n:=17,res:=resOf T ZJ5 ZjY Tryz.f133.results.toList,loops:=[],regs:=[],conds:=[],cuts:=[]}
theorem ZSP(k:Nat):EnvOK Tryz.prog k ZoX.G:=(EnvOK.nil mixed)
theorem ZT2(k:Nat)(x:Tup Z6Y.ps):Z6Y.f (k+1) x=fnK Z6Y ZoX Zw7 k x:=by kernel_rfl
theorem ZTz(x:Tup Z6Y.ps):Z6Y.f 0 x=none:=by kernel_rfl
theorem ZSH(k:Nat):LOK Tryz.prog ZoX k Zw7:=LOK.by [] (by kernel_rfl) AllOK.nil
theorem Zxk(k:Nat):SoundAt Tryz.prog k 133 Z6Y.E:= @Z5 Tryz.prog Z6Y ZoX 133 Tryz.f133 Zw7 (by kernel_rfl) (by kernel_rfl) (by kernel_rfl) Tryz.func133 (by kernel_rfl) (by kernel_rfl) (by kernel_rfl) T_ok ZSP ZSH ZTz ZT2 k
noncomputable def Zgs:List PK:=[PK.mk I6 false none false none]
noncomputable def ZBS:List PK:=[PK.mk P6 true none false none,PK.mk I6 false none false none]
noncomputable def ZzA(r:Int):Tup Zgs×OutD:=((r,()),none)
noncomputable def ZyM:Tup Zgs×OutD→Option (Int)
 |(a,none)=>some (a.1)
 |_=>none
theorem ZHV: ∀b r,ZyM b=some r→ZzA r=b:=by
 rintro ⟨a,_|_⟩ r h<;>cases h;rfl
noncomputable def Zdm:Nat→Int×Int→Int→Option Int
 |0,_,_=>none
 |k+1,p0,p1=>
  if decide (p0.1=1)=true then some (-1:Int) else if decide (p0.1=2)=true then some (1:Int) else if decide (p0.1=3)=true then some (wrap64 (wrap64 ((2:Int)*p0.2)-1)) else if decide (p0.1=6)=true then some (wrap64 (wrap64 ((2:Int)*p0.2)-1)) else if decide (p0.1=4)=true then some (wrap64 ((0:Int)-p1)) else some (0:Int)
noncomputable def Z6d:FnDef:= .of ZBS Zgs (Int) (fun k x=>Zdm k x.1 x.2.1) ZzA ZyM ZHV
noncomputable def Zq5:Code:=Tryz.f134.body.getD .skip
noncomputable def Zkv:Ctx (Tup Zgs×OutD):={T:=T,G:=[],mvs:=[],no:=0,n:=22,res:=resOf T ZBS Zgs Tryz.f134.results.toList,loops:=[],regs:=[],conds:=[],cuts:=[]}
theorem ZQR(k:Nat):EnvOK Tryz.prog k Zkv.G:=(EnvOK.nil mixed)
theorem ZQG(k:Nat)(x:Tup Z6d.ps):Z6d.f (k+1) x=fnK Z6d Zkv Zq5 k x:=by kernel_rfl
theorem ZQZ(x:Tup Z6d.ps):Z6d.f 0 x=none:=by kernel_rfl
theorem ZPZ(k:Nat):LOK Tryz.prog Zkv k Zq5:=LOK.by [] (by kernel_rfl) AllOK.nil
theorem ZBb(k:Nat):SoundAt Tryz.prog k 134 Z6d.E:= @Z5 Tryz.prog Z6d Zkv 134 Tryz.f134 Zq5 (by kernel_rfl) (by kernel_rfl) (by kernel_rfl) Tryz.func134 (by kernel_rfl) (by kernel_rfl) (by kernel_rfl) T_ok ZQR ZPZ ZQZ ZQG k
noncomputable def ZgP:List PK:=[PK.mk .bool false none false none]
noncomputable def ZBu:List PK:=[PK.mk P6 true none false none]
noncomputable def Zyr(r:Bool):Tup ZgP×OutD:=((r,()),none)
noncomputable def ZxM:Tup ZgP×OutD→Option (Bool)
 |(a,none)=>some (a.1)
 |_=>none
theorem ZH2: ∀b r,ZxM b=some r→Zyr r=b:=by
 rintro ⟨a,_|_⟩ r h<;>cases h;rfl
noncomputable def ZgN:Nat→Int×Int→Option Bool
 |0,_=>none
 |k+1,p0=>
  if decide (p0.1=(6:Int))=true then some true else some (decide (p0.1=(7:Int)))
noncomputable def Z81:FnDef:= .of ZBu ZgP (Bool) (fun k x=>ZgN k x.1) Zyr ZxM ZH2
noncomputable def ZpV:Code:=Tryz.f136.body.getD .skip
noncomputable def Zkr:Ctx (Tup ZgP×OutD):={T:=T,G:=[],mvs:=[],no:=0,n:=11,res:=resOf T ZBu ZgP Tryz.f136.results.toList,loops:=[],regs:=[],conds:=[],cuts:=[]}
theorem ZQH(k:Nat):EnvOK Tryz.prog k Zkr.G:=(EnvOK.nil mixed)
theorem ZQc(k:Nat)(x:Tup Z81.ps):Z81.f (k+1) x=fnK Z81 Zkr ZpV k x:=by kernel_rfl
theorem ZPB(x:Tup Z81.ps):Z81.f 0 x=none:=by kernel_rfl
theorem ZR2(k:Nat):LOK Tryz.prog Zkr k ZpV:=LOK.by [] (by kernel_rfl) AllOK.nil
theorem ZQy(k:Nat):SoundAt Tryz.prog k 136 Z81.E:= @Z5 Tryz.prog Z81 Zkr 136 Tryz.f136 ZpV (by kernel_rfl) (by kernel_rfl) (by kernel_rfl) Tryz.func136 (by kernel_rfl) (by kernel_rfl) (by kernel_rfl) T_ok ZQH ZR2 ZPB ZQc k
noncomputable def ZgL:List PK:=[PK.mk (.slice 3 I6) false none false none]
noncomputable def ZAY:List PK:=[PK.mk (.pair I6 (.pair I6 (.slice 76 P6))) true none false none,PK.mk I6 false none false none]
noncomputable def Zxr(r:List Int):Tup ZgL×OutD:=((r,()),none)
noncomputable def Zzi:Tup ZgL×OutD→Option (List Int)
 |(a,none)=>some (a.1)
 |_=>none
theorem ZHM: ∀b r,Zzi b=some r→Zxr r=b:=by
 rintro ⟨a,_|_⟩ r h<;>cases h;rfl
noncomputable def Zkp:Nat→Int×Int×List (Int×Int)→Int→Option (List Int)
 |0,_,_=>none
 |k+1,p0,p1=>
  if p0.2.1=0 then none else if p0.2.1=0 then none else if decide (wrap64 (Int.tdiv p1 p0.2.1)>0)=true then if decide (Int.tmod p1 p0.2.1>0)=true then if decide (wrap64 (Int.tmod p1 p0.2.1+1)<p0.2.1)=true then if decide (wrap64 (wrap64 (Int.tdiv p1 p0.2.1)+1)<p0.1)=true then some ([wrap64 (p1-p0.2.1)]++[wrap64 (p1-1)]++[wrap64 (p1+1)]++[wrap64 (p1+p0.2.1)]) else some ([wrap64 (p1-p0.2.1)]++[wrap64 (p1-1)]++[wrap64 (p1+1)]) else if decide (wrap64 (wrap64 (Int.tdiv p1 p0.2.1)+1)<p0.1)=true then some ([wrap64 (p1-p0.2.1)]++[wrap64 (p1-1)]++[wrap64 (p1+p0.2.1)]) else some ([wrap64 (p1-p0.2.1)]++[wrap64 (p1-1)]) else if decide (wrap64 (Int.tmod p1 p0.2.1+1)<p0.2.1)=true then if decide (wrap64 (wrap64 (Int.tdiv p1 p0.2.1)+1)<p0.1)=true then some ([wrap64 (p1-p0.2.1)]++[wrap64 (p1+1)]++[wrap64 (p1+p0.2.1)]) else some ([wrap64 (p1-p0.2.1)]++[wrap64 (p1+1)]) else if decide (wrap64 (wrap64 (Int.tdiv p1 p0.2.1)+1)<p0.1)=true then some ([wrap64 (p1-p0.2.1)]++[wrap64 (p1+p0.2.1)]) else some [wrap64 (p1-p0.2.1)] else if decide (Int.tmod p1 p0.2.1>0)=true then if decide (wrap64 (Int.tmod p1 p0.2.1+1)<p0.2.1)=true then if decide (wrap64 (wrap64 (Int.tdiv p1 p0.2.1)+1)<p0.1)=true then some ([wrap64 (p1-1)]++[wrap64 (p1+1)]++[wrap64 (p1+p0.2.1)]) else some ([wrap64 (p1-1)]++[wrap64 (p1+1)]) else if decide (wrap64 (wrap64 (Int.tdiv p1 p0.2.1)+1)<p0.1)=true then some ([wrap64 (p1-1)]++[wrap64 (p1+p0.2.1)]) else some [wrap64 (p1-1)] else if decide (wrap64 (Int.tmod p1 p0.2.1+1)<p0.2.1)=true then if decide (wrap64 (wrap64 (Int.tdiv p1 p0.2.1)+1)<p0.1)=true then some ([wrap64 (p1+1)]++[wrap64 (p1+p0.2.1)]) else some [wrap64 (p1+1)] else if decide (wrap64 (wrap64 (Int.tdiv p1 p0.2.1)+1)<p0.1)=true then some [wrap64 (p1+p0.2.1)] else some []
noncomputable def Z7W:FnDef:= .of ZAY ZgL (List Int) (fun k x=>Zkp k x.1 x.2.1) Zxr Zzi ZHM
noncomputable def ZpP:Code:=Tryz.f137.body.getD .skip
noncomputable def Zkj:Ctx (Tup ZgL×OutD):={T:=T,G:=[],mvs:=[],no:=0,n:=55,res:=resOf T ZAY ZgL Tryz.f137.results.toList,loops:=[],regs:=[],conds:=[],cuts:=[]}
theorem ZPR(k:Nat):EnvOK Tryz.prog k Zkj.G:=(EnvOK.nil mixed)
theorem ZQW(k:Nat)(x:Tup Z7W.ps):Z7W.f (k+1) x=fnK Z7W Zkj ZpP k x:=by kernel_rfl
theorem ZQS(x:Tup Z7W.ps):Z7W.f 0 x=none:=by kernel_rfl
theorem ZPC(k:Nat):LOK Tryz.prog Zkj k ZpP:=LOK.by [] (by kernel_rfl) AllOK.nil
theorem ZQL(k:Nat):SoundAt Tryz.prog k 137 Z7W.E:= @Z5 Tryz.prog Z7W Zkj 137 Tryz.f137 ZpP (by kernel_rfl) (by kernel_rfl) (by kernel_rfl) Tryz.func137 (by kernel_rfl) (by kernel_rfl) (by kernel_rfl) T_ok ZPR ZPC ZQS ZQW k
noncomputable def ZgS:List PK:=[PK.mk I6 false none false none]
noncomputable def ZJh:List PK:=[PK.mk (.slice 58 T6) false none false none,PK.mk I6 false none false none,PK.mk I6 false none false none]
noncomputable def Zty(r:Int):Tup ZgS×OutD:=((r,()),none)
noncomputable def ZsS:Tup ZgS×OutD→Option (Int)
 |(a,none)=>some (a.1)
 |_=>none
theorem Zvj: ∀b r,ZsS b=some r→Zty r=b:=by
 rintro ⟨a,_|_⟩ r h<;>cases h;rfl
noncomputable def Z84:Nat→Int→Int→List (Int×Int×Int)→Int→Int→Option (LR Unit Int)
 |0,_,_,_,_,_=>none
 |k+1,v1,v2,v9,v10,v11=>
  if decide (v11<v10)=true then if (0:Int)≤v11 then if v11<(↑(List.length v9):Int) then if decide (Prod.fst (Prod.snd (List.getD v9 (Int.toNat v11) ((0:Int),(0:Int),(0:Int))))=v1)=true then if decide (Prod.snd (Prod.snd (List.getD v9 (Int.toNat v11) ((0:Int),(0:Int),(0:Int))))=v2)=true then some (LR.ret (Prod.fst (List.getD v9 (Int.toNat v11) ((0:Int),(0:Int),(0:Int))))) else Z84 k v1 v2 v9 v10 (wrap64 (v11+1)) else Z84 k v1 v2 v9 v10 (wrap64 (v11+1)) else none else none else some (LR.go ())
noncomputable def Zo7:Spec:=Spec.mk [.ro] [(1,.at (.int .i64)),(2,.at (.int .i64)),(9,.at (.snap 0 T6)),(10,.at (.int .i64)),(11,.at (.int .i64))]
noncomputable def ZNg:Spec:=Spec.mk [.ro] []
noncomputable def ZbR:LoopDef (Tup ZgS×OutD):= .rets Zo7 ZNg (Unit) (Int) (fun k x=>Z84 k x.2.1 x.2.2.1 x.2.2.2.1 x.2.2.2.2.1 x.2.2.2.2.2.1) (fun z=>(((),()),(()))) (fun y=>()) (fun _=>rfl) Zty ZsS Zvj
noncomputable def ZoQ:Nat→List (Int×Int×Int)→Int→Int→Option Int
 |0,_,_,_=>none
 |k+1,p0,p1,p2=>
  Option.bind (Z84 k p1 p2 p0 (↑(List.length p0):Int) (0:Int)) fun z0=>LR.on z0 (fun y0=>some (0:Int)) fun r0=>some r0
noncomputable def ZbI:FnDef:= .of ZJh ZgS (Int) (fun k x=>ZoQ k x.1 x.2.1 x.2.2.1) Zty ZsS Zvj
noncomputable def ZoZ:Code:=Tryz.f138.body.getD .skip
noncomputable def Ze2:Ctx (Tup ZgS×OutD):={T:=T,G:=[],mvs:=[],no:=0,n:=28,res:=resOf T ZJh ZgS Tryz.f138.results.toList,loops:=[(0,ZbR.E)],regs:=[],conds:=[],cuts:=[]}
theorem ZIP(k:Nat):EnvOK Tryz.prog k Ze2.G:=(EnvOK.nil mixed)
noncomputable def ZiG:Code:=(findLoop 0 ZoZ).getD .skip
theorem ZNe(k:Nat)(x:Zo7.D):ZbR.lp (k+1) x=loopK Ze2 ZbR 0 ZiG k x:=by kernel_rfl
theorem ZNJ(k:Nat):LOK Tryz.prog Ze2 k ZiG:=LOK.by [] (by kernel_rfl) AllOK.nil
theorem ZOx(x:Zo7.D):ZbR.lp 0 x=none:=by kernel_rfl
theorem ZMQ(k:Nat):EOK Tryz.prog Ze2 k ZbR.E (.block 0 (.loop ZiG)):=Zd T_ok ZIP ZOx ZNe ZNJ k
theorem ZT9(k:Nat)(x:Tup ZbI.ps):ZbI.f (k+1) x=fnK ZbI Ze2 ZoZ k x:=by kernel_rfl
theorem ZSI(x:Tup ZbI.ps):ZbI.f 0 x=none:=by kernel_rfl
theorem ZTb(k:Nat):LOK Tryz.prog Ze2 k ZoZ:=LOK.by [(ZbR.E,.block 0 (.loop ZiG))] (by kernel_rfl) (AllOK.cons (ZMQ k) AllOK.nil)
theorem ZSZ(k:Nat):SoundAt Tryz.prog k 138 ZbI.E:= @Z5 Tryz.prog ZbI Ze2 138 Tryz.f138 ZoZ (by kernel_rfl) (by kernel_rfl) (by kernel_rfl) Tryz.func138 (by kernel_rfl) (by kernel_rfl) (by kernel_rfl) T_ok ZIP ZTb ZSI ZT9 k
noncomputable def ZgA:List PK:=[PK.mk P6 true none false none]
noncomputable def ZBq:List PK:=[PK.mk P6 true none false none]
noncomputable def Zys(r:Int×Int):Tup ZgA×OutD:=((r,()),none)
noncomputable def ZxT:Tup ZgA×OutD→Option (Int×Int)
 |(a,none)=>some (a.1)
 |_=>none
theorem ZIp: ∀b r,ZxT b=some r→Zys r=b:=by
 rintro ⟨a,_|_⟩ r h<;>cases h;rfl
noncomputable def ZgB:Nat→Int×Int→Option (Int×Int)
 |0,_=>none
 |k+1,p0=>
  some (p0.1,wrap64 ((1:Int)-p0.2))
noncomputable def Z7S:FnDef:= .of ZBq ZgA (Int×Int) (fun k x=>ZgB k x.1) Zys ZxT ZIp
noncomputable def ZpZ:Code:=Tryz.f139.body.getD .skip
noncomputable def Zkh:Ctx (Tup ZgA×OutD):={T:=T,G:=[],mvs:=[],no:=0,n:=9,res:=resOf T ZBq ZgA Tryz.f139.results.toList,loops:=[],regs:=[],conds:=[],cuts:=[]}
theorem ZPY(k:Nat):EnvOK Tryz.prog k Zkh.G:=(EnvOK.nil mixed)
theorem ZPL(k:Nat)(x:Tup Z7S.ps):Z7S.f (k+1) x=fnK Z7S Zkh ZpZ k x:=by kernel_rfl
theorem ZR4(x:Tup Z7S.ps):Z7S.f 0 x=none:=by kernel_rfl
theorem ZPE(k:Nat):LOK Tryz.prog Zkh k ZpZ:=LOK.by [] (by kernel_rfl) AllOK.nil
theorem ZQB(k:Nat):SoundAt Tryz.prog k 139 Z7S.E:= @Z5 Tryz.prog Z7S Zkh 139 Tryz.f139 ZpZ (by kernel_rfl) (by kernel_rfl) (by kernel_rfl) Tryz.func139 (by kernel_rfl) (by kernel_rfl) (by kernel_rfl) T_ok ZPY ZPE ZR4 ZPL k
end
end Go.Proofs.YtmhfhiofcoggbaaGreat.Vs
