/- The proof, part 8. -/
import Derived.Test.YtmhfhiofcoggbaaGreatqT2m6
set_option maxRecDepth 100000
set_option maxHeartbeats 2000000
set_option linter.unusedVariables false
set_option linter.unusedSimpArgs false
namespace Go.Proofs.YtmhfhiofcoggbaaGreat.Vs
open Go.RowKit
noncomputable section
noncomputable def Zcs:List PK:=[PK.mk I6 false none false none,PK.mk .bool false none false none]
noncomputable def Zt3:List PK:=[PK.mk (.pair I6 (.pair I6 (.slice 76 P6))) true none false none]
noncomputable def Zqv(r:Int×Bool):Tup Zcs×OutD:=((r.1,r.2,()),none)
noncomputable def ZqT:Tup Zcs×OutD→Option (Int×Bool)
 |(a,none)=>some (a.1,a.2.1)
 |_=>none
theorem ZzV: ∀b r,ZqT b=some r→Zqv r=b:=by
 rintro ⟨a,_|_⟩ r h<;>cases h;rfl
noncomputable def Zgq:Nat→Int×Int×List (Int×Int)→Option (Int×Bool)
 |0,_=>none
 |k+1,p0=>
  Option.bind (Z3W k (p0.1,p0.2.1,p0.2.2)) fun z0=>if (!z0)=true then some ((0:Int),false) else Option.bind (Z6F k (p0.1,p0.2.1,p0.2.2)) fun z1=>some (z1,true)
noncomputable def Z4S:FnDef:= .of Zt3 Zcs (Int×Bool) (fun k x=>Zgq k x.1) Zqv ZqT ZzV
noncomputable def ZkS:Code:=Tryz.f17.body.getD .skip
noncomputable def Zgb:Ctx (Tup Zcs×OutD):={T:=T,G:=[(38,Z1z.E),(51,Z3c.E)],mvs:=[],no:=0,n:=9,res:=resOf T Zt3 Zcs Tryz.f17.results.toList,loops:=[],regs:=[],conds:=[],cuts:=[]}
theorem ZJk(k:Nat):EnvOK Tryz.prog k Zgb.G:=(EnvOK.cons (Z8S k) (EnvOK.cons (ZiX k) (EnvOK.nil mixed)))
theorem ZL6(k:Nat)(x:Tup Z4S.ps):Z4S.f (k+1) x=fnK Z4S Zgb ZkS k x:=by kernel_rfl
theorem ZKd(x:Tup Z4S.ps):Z4S.f 0 x=none:=by kernel_rfl
theorem ZKG(k:Nat):LOK Tryz.prog Zgb k ZkS:=LOK.by [] (by kernel_rfl) AllOK.nil
theorem ZL3(k:Nat):SoundAt Tryz.prog k 17 Z4S.E:= @Z5 Tryz.prog Z4S Zgb 17 Tryz.f17 ZkS (by kernel_rfl) (by kernel_rfl) (by kernel_rfl) Tryz.func17 (by kernel_rfl) (by kernel_rfl) (by kernel_rfl) T_ok ZJk ZKG ZKd ZL6 k
noncomputable def Zfc:List PK:=[PK.mk .bool false none false none]
noncomputable def Zyo:List PK:=[PK.mk (.pair I6 (.slice 3 I6)) true none false none]
noncomputable def ZuG(r:Bool):Tup Zfc×OutD:=((r,()),none)
noncomputable def Zvt:Tup Zfc×OutD→Option (Bool)
 |(a,none)=>some (a.1)
 |_=>none
theorem ZFg: ∀b r,Zvt b=some r→ZuG r=b:=by
 rintro ⟨a,_|_⟩ r h<;>cases h;rfl
noncomputable def Zix:Nat→Int×List Int→Option Bool
 |0,_=>none
 |k+1,p0=>
  Option.bind (ZkD k (p0.1,p0.2)) fun z0=>if z0=true then some (decide (p0.1≤(3:Int))) else some false
noncomputable def Z6L:FnDef:= .of Zyo Zfc (Bool) (fun k x=>Zix k x.1) ZuG Zvt ZFg
noncomputable def ZoJ:Code:=Tryz.f32.body.getD .skip
noncomputable def ZiP:Ctx (Tup Zfc×OutD):={T:=T,G:=[(65,Z80.E)],mvs:=[],no:=0,n:=10,res:=resOf T Zyo Zfc Tryz.f32.results.toList,loops:=[],regs:=[],conds:=[],cuts:=[]}
theorem ZP6(k:Nat):EnvOK Tryz.prog k ZiP.G:=(EnvOK.cons (ZRf k) (EnvOK.nil mixed))
theorem ZNj(k:Nat)(x:Tup Z6L.ps):Z6L.f (k+1) x=fnK Z6L ZiP ZoJ k x:=by kernel_rfl
theorem ZP5(x:Tup Z6L.ps):Z6L.f 0 x=none:=by kernel_rfl
theorem ZOr(k:Nat):LOK Tryz.prog ZiP k ZoJ:=LOK.by [] (by kernel_rfl) AllOK.nil
theorem ZNT(k:Nat):SoundAt Tryz.prog k 32 Z6L.E:= @Z5 Tryz.prog Z6L ZiP 32 Tryz.f32 ZoJ (by kernel_rfl) (by kernel_rfl) (by kernel_rfl) Tryz.func32 (by kernel_rfl) (by kernel_rfl) (by kernel_rfl) T_ok ZP6 ZOr ZP5 ZNj k
noncomputable def Z7b:List PK:=[PK.mk .bool false none false none]
noncomputable def Zmc:List PK:=[PK.mk (.pair I6 (.pair I6 (.slice 76 P6))) true none false none,PK.mk I6 false none false none]
noncomputable def ZlA(r:Bool):Tup Z7b×OutD:=((r,()),none)
noncomputable def Zlp:Tup Z7b×OutD→Option (Bool)
 |(a,none)=>some (a.1)
 |_=>none
theorem Zs7: ∀b r,Zlp b=some r→ZlA r=b:=by
 rintro ⟨a,_|_⟩ r h<;>cases h;rfl
noncomputable def Zbp:Nat→Int×Int×List (Int×Int)→Int→Option Bool
 |0,_,_=>none
 |k+1,p0,p1=>
  Option.bind (Z3W k (p0.1,p0.2.1,p0.2.2)) fun z0=>if (!z0)=true then some false else if decide (p1<0)=true then some false else if decide (p1>p0.2.1)=true then some false else if decide (p0.2.1=1)=true then some true else if decide (p0.2.1=2)=true then some true else if decide (p0.2.1=4)=true then some true else some (decide (p0.2.1=8))
noncomputable def Z2z:FnDef:= .of Zmc Z7b (Bool) (fun k x=>Zbp k x.1 x.2.1) ZlA Zlp Zs7
noncomputable def ZfP:Code:=Tryz.f35.body.getD .skip
noncomputable def Zbm:Ctx (Tup Z7b×OutD):={T:=T,G:=[(38,Z1z.E)],mvs:=[],no:=0,n:=36,res:=resOf T Zmc Z7b Tryz.f35.results.toList,loops:=[],regs:=[],conds:=[],cuts:=[]}
theorem ZAp(k:Nat):EnvOK Tryz.prog k Zbm.G:=(EnvOK.cons (Z8S k) (EnvOK.nil mixed))
theorem ZzU(k:Nat)(x:Tup Z2z.ps):Z2z.f (k+1) x=fnK Z2z Zbm ZfP k x:=by kernel_rfl
theorem ZAz(x:Tup Z2z.ps):Z2z.f 0 x=none:=by kernel_rfl
theorem ZzN(k:Nat):LOK Tryz.prog Zbm k ZfP:=LOK.by [] (by kernel_rfl) AllOK.nil
theorem ZzO(k:Nat):SoundAt Tryz.prog k 35 Z2z.E:= @Z5 Tryz.prog Z2z Zbm 35 Tryz.f35 ZfP (by kernel_rfl) (by kernel_rfl) (by kernel_rfl) Tryz.func35 (by kernel_rfl) (by kernel_rfl) (by kernel_rfl) T_ok ZAp ZzN ZAz ZzU k
noncomputable def Zb6:List PK:=[PK.mk .bool false none false none]
noncomputable def Zql:List PK:=[PK.mk (.pair I6 (.pair I6 (.slice 76 P6))) true none false none,PK.mk I6 false none false none]
noncomputable def Zp9(r:Bool):Tup Zb6×OutD:=((r,()),none)
noncomputable def Zp5:Tup Zb6×OutD→Option (Bool)
 |(a,none)=>some (a.1)
 |_=>none
theorem Zy4: ∀b r,Zp5 b=some r→Zp9 r=b:=by
 rintro ⟨a,_|_⟩ r h<;>cases h;rfl
noncomputable def Zey:Nat→Int×Int×List (Int×Int)→Int→Option Bool
 |0,_,_=>none
 |k+1,p0,p1=>
  Option.bind (Z3W k (p0.1,p0.2.1,p0.2.2)) fun z0=>if z0=true then if decide (p1≥0)=true then some (decide (p1<p0.2.1)) else some false else some false
noncomputable def Z46:FnDef:= .of Zql Zb6 (Bool) (fun k x=>Zey k x.1 x.2.1) Zp9 Zp5 Zy4
noncomputable def Zjn:Code:=Tryz.f39.body.getD .skip
noncomputable def ZeN:Ctx (Tup Zb6×OutD):={T:=T,G:=[(38,Z1z.E)],mvs:=[],no:=0,n:=17,res:=resOf T Zql Zb6 Tryz.f39.results.toList,loops:=[],regs:=[],conds:=[],cuts:=[]}
theorem ZHX(k:Nat):EnvOK Tryz.prog k ZeN.G:=(EnvOK.cons (Z8S k) (EnvOK.nil mixed))
theorem ZIi(k:Nat)(x:Tup Z46.ps):Z46.f (k+1) x=fnK Z46 ZeN Zjn k x:=by kernel_rfl
theorem ZIz(x:Tup Z46.ps):Z46.f 0 x=none:=by kernel_rfl
theorem ZHD(k:Nat):LOK Tryz.prog ZeN k Zjn:=LOK.by [] (by kernel_rfl) AllOK.nil
theorem ZIm(k:Nat):SoundAt Tryz.prog k 39 Z46.E:= @Z5 Tryz.prog Z46 ZeN 39 Tryz.f39 Zjn (by kernel_rfl) (by kernel_rfl) (by kernel_rfl) Tryz.func39 (by kernel_rfl) (by kernel_rfl) (by kernel_rfl) T_ok ZHX ZHD ZIz ZIi k
noncomputable def ZbL:List PK:=[PK.mk .bool false none false none]
noncomputable def ZxV:List PK:=[PK.mk (.pair I6 (.pair I6 (.pair (.slice 76 P6) (.pair (.slice 3 I6) (.slice 3 I6))))) true none false none,PK.mk (.pair I6 (.pair I6 (.slice 76 P6))) true none false none]
noncomputable def Zm7(r:Bool):Tup ZbL×OutD:=((r,()),none)
noncomputable def Zmp:Tup ZbL×OutD→Option (Bool)
 |(a,none)=>some (a.1)
 |_=>none
theorem Zpk: ∀b r,Zmp b=some r→Zm7 r=b:=by
 rintro ⟨a,_|_⟩ r h<;>cases h;rfl
noncomputable def Z8O:Nat→Int→Int→List (Int×Int)→List Int→List Int→Int→Int→List (Int×Int)→Int→Int→List (Int×Int)→List Int→List Int→Int→Int→Option (LR Unit Bool)
 |0,_,_,_,_,_,_,_,_,_,_,_,_,_,_,_=>none
 |k+1,b1_0,b1_1,b1_2,b1_3,b1_4,b2_0,b2_1,b2_2,b3_0,b3_1,o4,o5,v16,v17,v18=>
  if decide (v18<v17)=true then if (0:Int)≤v18 then if v18<(↑(List.length v16):Int) then Option.bind (Z9r k (b3_0,b3_1,o4) o5 (List.getD v16 (Int.toNat v18) (0:Int))) fun z2=>if (0:Int)≤v18 then if v18<(↑(List.length b1_4):Int) then Option.bind (ZfZ k (b2_0,b2_1,b2_2) (z2.1.1,z2.1.2.1,z2.1.2.2)) fun z3=>if decide (z3≠List.getD b1_4 (Int.toNat v18) (0:Int))=true then some (LR.ret false) else Z8O k b1_0 b1_1 b1_2 b1_3 b1_4 b2_0 b2_1 b2_2 b3_0 b3_1 z2.2.2 o5 v16 v17 (wrap64 (v18+1)) else none else none else none else none else some (LR.go ())
noncomputable def Zjz:Spec:=Spec.mk [.ro,O4,O2,O6,O0,O1] [(2,.at (.ptr 1 0)),(3,.at (.ptr 2 0)),(5,.at (.ptr 3 0)),(6,.at (.sl 5)),(16,.at (.snap 0 I6)),(17,.at (.int .i64)),(18,.at (.int .i64))]
noncomputable def ZGS:Spec:=Spec.mk [.ro] []
noncomputable def Z7F:LoopDef (Tup ZbL×OutD):= .rets Zjz ZGS (Unit) (Bool) (fun k x=>Z8O k x.1.2.1.1 x.1.2.1.2.1 x.1.2.1.2.2.1 x.1.2.1.2.2.2.1 x.1.2.1.2.2.2.2.1 x.1.2.2.1.1 x.1.2.2.1.2.1 x.1.2.2.1.2.2.1 x.1.2.2.2.1.1 x.1.2.2.2.1.2.1 x.1.2.2.2.2.1 x.1.2.2.2.2.2.1 x.2.2.2.2.2.1 x.2.2.2.2.2.2.1 x.2.2.2.2.2.2.2.1) (fun z=>(((),()),(()))) (fun y=>()) (fun _=>rfl) Zm7 Zmp Zpk
noncomputable def Zff:Nat→Int×Int×List (Int×Int)×List Int×List Int→Int×Int×List (Int×Int)→Option Bool
 |0,_,_=>none
 |k+1,p0,p1=>
  Option.bind (Z4M k (p1.1,p1.2.1,p1.2.2)) fun z0=>Option.bind (Z24 k (p1.1,p1.2.1,p1.2.2)) fun z1=>Option.bind (Z8O k p0.1 p0.2.1 p0.2.2.1 p0.2.2.2.1 p0.2.2.2.2 p1.1 p1.2.1 p1.2.2 z0.1 z0.2.1 z0.2.2 z1 p0.2.2.2.1 (↑(List.length p0.2.2.2.1):Int) (0:Int)) fun z4=>LR.on z4 (fun y4=>some true) fun r4=>some r4
noncomputable def Z5m:FnDef:= .of ZxV ZbL (Bool) (fun k x=>Zff k x.1 x.2.1) Zm7 Zmp Zpk
noncomputable def ZiV:Code:=Tryz.f49.body.getD .skip
noncomputable def Z99:Ctx (Tup ZbL×OutD):={T:=T,G:=[(41,Z2G.E),(42,Z1D.E),(40,Z9p.E),(82,Z4O.E)],mvs:=[],no:=0,n:=40,res:=resOf T ZxV ZbL Tryz.f49.results.toList,loops:=[(0,Z7F.E)],regs:=[],conds:=[],cuts:=[]}
theorem Zyx(k:Nat):EnvOK Tryz.prog k Z99.G:=(EnvOK.cons (ZkT k) (EnvOK.cons (Zhb k) (EnvOK.cons (ZJb k) (EnvOK.cons (ZJl k) (EnvOK.nil mixed)))))
noncomputable def ZeF:Code:=(findLoop 0 ZiV).getD .skip
theorem ZIu(k:Nat)(x:Zjz.D):Z7F.lp (k+1) x=loopK Z99 Z7F 0 ZeF k x:=by kernel_rfl
theorem ZHk(k:Nat):LOK Tryz.prog Z99 k ZeF:=LOK.by [] (by kernel_rfl) AllOK.nil
theorem ZHn(x:Zjz.D):Z7F.lp 0 x=none:=by kernel_rfl
theorem ZES(k:Nat):EOK Tryz.prog Z99 k Z7F.E (.block 0 (.loop ZeF)):=Zd T_ok Zyx ZHn ZIu ZHk k
theorem ZNq(k:Nat)(x:Tup Z5m.ps):Z5m.f (k+1) x=fnK Z5m Z99 ZiV k x:=by kernel_rfl
theorem ZOh(x:Tup Z5m.ps):Z5m.f 0 x=none:=by kernel_rfl
theorem ZP1(k:Nat):LOK Tryz.prog Z99 k ZiV:=LOK.by [(Z7F.E,.block 0 (.loop ZeF))] (by kernel_rfl) (AllOK.cons (ZES k) AllOK.nil)
theorem Zzg(k:Nat):SoundAt Tryz.prog k 49 Z5m.E:= @Z5 Tryz.prog Z5m Z99 49 Tryz.f49 ZiV (by kernel_rfl) (by kernel_rfl) (by kernel_rfl) Tryz.func49 (by kernel_rfl) (by kernel_rfl) (by kernel_rfl) T_ok Zyx ZP1 ZOh ZNq k
noncomputable def Z5L:List PK:=[PK.mk .bool false none false none]
noncomputable def ZnT:List PK:=[PK.mk (.pair I6 (.pair I6 (.slice 76 P6))) true none false none,PK.mk (.slice 3 I6) false none false none]
noncomputable def Zge(r:Bool):Tup Z5L×OutD:=((r,()),none)
noncomputable def ZfL:Tup Z5L×OutD→Option (Bool)
 |(a,none)=>some (a.1)
 |_=>none
theorem Zji: ∀b r,ZfL b=some r→Zge r=b:=by
 rintro ⟨a,_|_⟩ r h<;>cases h;rfl
noncomputable def Z4y:Nat→Int→Int→List (Int×Int)→List Int→Int→Int→Option (LR Unit Bool)
 |0,_,_,_,_,_,_=>none
 |k+1,b1_0,b1_1,b1_2,v15,v16,v17=>
  if decide (v17<v16)=true then if (0:Int)≤v17 then if v17<(↑(List.length v15):Int) then if decide (List.getD v15 (Int.toNat v17) (0:Int)<0)=true then some (LR.ret false) else if decide (List.getD v15 (Int.toNat v17) (0:Int)≥b1_1)=true then some (LR.ret false) else Z4y k b1_0 b1_1 b1_2 v15 v16 (wrap64 (v17+1)) else none else none else some (LR.go ())
noncomputable def Ze5:Spec:=Spec.mk [.ro,O2] [(2,.at (.ptr 1 0)),(15,.at (.snap 0 I6)),(16,.at (.int .i64)),(17,.at (.int .i64))]
noncomputable def Zx8:Spec:=Spec.mk [.ro] []
noncomputable def Z40:LoopDef (Tup Z5L×OutD):= .rets Ze5 Zx8 (Unit) (Bool) (fun k x=>Z4y k x.1.2.1.1 x.1.2.1.2.1 x.1.2.1.2.2.1 x.2.2.1 x.2.2.2.1 x.2.2.2.2.1) (fun z=>(((),()),(()))) (fun y=>()) (fun _=>rfl) Zge ZfL Zji
noncomputable def Z8n:Nat→Int×Int×List (Int×Int)→List Int→Option Bool
 |0,_,_=>none
 |k+1,p0,p1=>
  Option.bind (Z3W k (p0.1,p0.2.1,p0.2.2)) fun z0=>if (!z0)=true then some false else if decide ((↑(List.length p1):Int)>60)=true then some false else Option.bind (Z4y k p0.1 p0.2.1 p0.2.2 p1 (↑(List.length p1):Int) (0:Int)) fun z1=>LR.on z1 (fun y1=>some true) fun r1=>some r1
noncomputable def Z26:FnDef:= .of ZnT Z5L (Bool) (fun k x=>Z8n k x.1 x.2.1) Zge ZfL Zji
noncomputable def ZcN:Code:=Tryz.f58.body.getD .skip
noncomputable def Z4g:Ctx (Tup Z5L×OutD):={T:=T,G:=[(38,Z1z.E)],mvs:=[],no:=0,n:=30,res:=resOf T ZnT Z5L Tryz.f58.results.toList,loops:=[(0,Z40.E)],regs:=[],conds:=[],cuts:=[]}
theorem Znw(k:Nat):EnvOK Tryz.prog k Z4g.G:=(EnvOK.cons (Z8S k) (EnvOK.nil mixed))
noncomputable def Z9F:Code:=(findLoop 0 ZcN).getD .skip
theorem ZwU(k:Nat)(x:Ze5.D):Z40.lp (k+1) x=loopK Z4g Z40 0 Z9F k x:=by kernel_rfl
theorem Zws(k:Nat):LOK Tryz.prog Z4g k Z9F:=LOK.by [] (by kernel_rfl) AllOK.nil
theorem ZvM(x:Ze5.D):Z40.lp 0 x=none:=by kernel_rfl
theorem Zug(k:Nat):EOK Tryz.prog Z4g k Z40.E (.block 0 (.loop Z9F)):=Zd T_ok Znw ZvM ZwU Zws k
theorem ZD4(k:Nat)(x:Tup Z26.ps):Z26.f (k+1) x=fnK Z26 Z4g ZcN k x:=by kernel_rfl
theorem ZCy(x:Tup Z26.ps):Z26.f 0 x=none:=by kernel_rfl
theorem ZDR(k:Nat):LOK Tryz.prog Z4g k ZcN:=LOK.by [(Z40.E,.block 0 (.loop Z9F))] (by kernel_rfl) (AllOK.cons (Zug k) AllOK.nil)
theorem Zns(k:Nat):SoundAt Tryz.prog k 58 Z26.E:= @Z5 Tryz.prog Z26 Z4g 58 Tryz.f58 ZcN (by kernel_rfl) (by kernel_rfl) (by kernel_rfl) Tryz.func58 (by kernel_rfl) (by kernel_rfl) (by kernel_rfl) T_ok Znw ZDR ZCy ZD4 k
noncomputable def Z6z:List PK:=[PK.mk (.slice 40 T6) false none false none,PK.mk (.pair I6 (.pair I6 (.slice 76 P6))) true none false none]
noncomputable def Zps:List PK:=[PK.mk (.pair I6 (.pair I6 (.slice 76 P6))) true none false none,PK.mk (.slice 58 T6) false none false none,PK.mk (.slice 3 I6) false none false none]
noncomputable def Znz(r:List (Int×Int×Int)×Int×Int×List (Int×Int)):Tup Z6z×OutD:=((r.1,r.2,()),none)
noncomputable def ZnL:Tup Z6z×OutD→Option (List (Int×Int×Int)×Int×Int×List (Int×Int))
 |(a,none)=>some (a.1,a.2.1)
 |_=>none
theorem ZwI: ∀b r,ZnL b=some r→Znz r=b:=by
 rintro ⟨a,_|_⟩ r h<;>cases h;rfl
noncomputable def Z5e:Nat→Int→Int→List (Int×Int)→Int→Int→List (Int×Int)→List Int→List Int→List (Int×Int×Int)→List Int→Int→Int→Option (Int×Int×List (Int×Int)×Int×Int×List (Int×Int)×List (Int×Int×Int))
 |0,_,_,_,_,_,_,_,_,_,_,_,_=>none
 |k+1,b1_0,b1_1,o2,b3_0,b3_1,o4,o5,o6,o7,v22,v23,v24=>
  if decide (v24<v23)=true then if (0:Int)≤v24 then if v24<(↑(List.length v22):Int) then Option.bind (ZeL k (b3_0,b3_1,o4) o5 o6 (List.getD v22 (Int.toNat v24) (0:Int))) fun z3=>if List.length o7+List.length [(z3.1.1,z3.1.2.1,z3.1.2.2)]≤(140737488355328/24:Nat) then Z5e k b1_0 b1_1 o2 b3_0 b3_1 z3.2 o5 o6 (o7++[(z3.1.1,z3.1.2.1,z3.1.2.2)]) v22 v23 (wrap64 (v24+1)) else none else none else none else some (b1_0,b1_1,o2,b3_0,b3_1,o4,o7)
noncomputable def Zfl:Spec:=Spec.mk [.ro,Obq,O0,O6,O0,O1,O1,Om] [(7,.at (.ptr 1 0)),(8,.at (.ptr 3 0)),(9,.at (.sl 5)),(10,.at (.sl 6)),(11,.at (.sl 7)),(22,.at (.snap 0 I6)),(23,.at (.int .i64)),(24,.at (.int .i64))]
noncomputable def ZyN:Spec:=Spec.mk [.ro,Obq,O0,O6,O0,Om] [(7,.at (.ptr 1 0)),(8,.at (.ptr 3 0)),(11,.at (.sl 5))]
noncomputable def Z4A:LoopDef (Tup Z6z×OutD):= .plain Zfl ZyN (Int×Int×List (Int×Int)×Int×Int×List (Int×Int)×List (Int×Int×Int)) (fun k x=>Z5e k x.1.2.1.1 x.1.2.1.2.1 x.1.2.2.1 x.1.2.2.2.1.1 x.1.2.2.2.1.2.1 x.1.2.2.2.2.1 x.1.2.2.2.2.2.1 x.1.2.2.2.2.2.2.1 x.1.2.2.2.2.2.2.2.1 x.2.2.2.2.2.2.1 x.2.2.2.2.2.2.2.1 x.2.2.2.2.2.2.2.2.1) (fun z=>(((),(z.1,z.2.1,(),()),z.2.2.1,(z.2.2.2.1,z.2.2.2.2.1,(),()),z.2.2.2.2.2.1,z.2.2.2.2.2.2,()),((),(),(),()))) (fun y=>(y.1.2.1.1,y.1.2.1.2.1,y.1.2.2.1,y.1.2.2.2.1.1,y.1.2.2.2.1.2.1,y.1.2.2.2.2.1,y.1.2.2.2.2.2.1)) (fun _=>rfl)
noncomputable def Z9S:Nat→Int×Int×List (Int×Int)→List (Int×Int×Int)→List Int→Option (List (Int×Int×Int)×Int×Int×List (Int×Int))
 |0,_,_,_=>none
 |k+1,p0,p1,p2=>
  Option.bind (Z4M k (p0.1,p0.2.1,p0.2.2)) fun z0=>Option.bind (Z24 k (p0.1,p0.2.1,p0.2.2)) fun z1=>Option.bind (Zcx k (p0.1,p0.2.1,p0.2.2) p1) fun z2=>Option.bind (Z5e k (0:Int) (0:Int) [] z0.1 z0.2.1 z0.2.2 z1 z2 [] p2 (↑(List.length p2):Int) (0:Int)) fun z4=>some (z4.2.2.2.2.2.2,z4.2.2.2.1,z4.2.2.2.2.1,z4.2.2.2.2.2.1)
noncomputable def Z2D:FnDef:= .of Zps Z6z (List (Int×Int×Int)×Int×Int×List (Int×Int)) (fun k x=>Z9S k x.1 x.2.1 x.2.2.1) Znz ZnL ZwI
noncomputable def ZdU:Code:=Tryz.f59.body.getD .skip
noncomputable def Z4U:Ctx (Tup Z6z×OutD):={T:=T,G:=[(41,Z2G.E),(42,Z1D.E),(93,Z2Q.E),(94,Z49.E)],mvs:=[],no:=0,n:=39,res:=resOf T Zps Z6z Tryz.f59.results.toList,loops:=[(0,Z4A.E)],regs:=[],conds:=[],cuts:=[]}
theorem Zpy(k:Nat):EnvOK Tryz.prog k Z4U.G:=(EnvOK.cons (ZkT k) (EnvOK.cons (Zhb k) (EnvOK.cons (ZDW k) (EnvOK.cons (ZH6 k) (EnvOK.nil mixed)))))
noncomputable def Zaf:Code:=(findLoop 0 ZdU).getD .skip
theorem Zzp(k:Nat)(x:Zfl.D):Z4A.lp (k+1) x=loopK Z4U Z4A 0 Zaf k x:=by kernel_rfl
theorem Zy3(k:Nat):LOK Tryz.prog Z4U k Zaf:=LOK.by [] (by kernel_rfl) AllOK.nil
theorem ZyO(x:Zfl.D):Z4A.lp 0 x=none:=by kernel_rfl
theorem Zwu(k:Nat):EOK Tryz.prog Z4U k Z4A.E (.block 0 (.loop Zaf)):=Zd T_ok Zpy ZyO Zzp Zy3 k
theorem ZF3(k:Nat)(x:Tup Z2D.ps):Z2D.f (k+1) x=fnK Z2D Z4U ZdU k x:=by kernel_rfl
theorem ZEo(x:Tup Z2D.ps):Z2D.f 0 x=none:=by kernel_rfl
theorem ZEY(k:Nat):LOK Tryz.prog Z4U k ZdU:=LOK.by [(Z4A.E,.block 0 (.loop Zaf))] (by kernel_rfl) (AllOK.cons (Zwu k) AllOK.nil)
theorem ZpD(k:Nat):SoundAt Tryz.prog k 59 Z2D.E:= @Z5 Tryz.prog Z2D Z4U 59 Tryz.f59 ZdU (by kernel_rfl) (by kernel_rfl) (by kernel_rfl) Tryz.func59 (by kernel_rfl) (by kernel_rfl) (by kernel_rfl) T_ok Zpy ZEY ZEo ZF3 k
noncomputable def Z3r:List PK:=[PK.mk (.slice 58 T6) false none false none]
noncomputable def Zlu:List PK:=[PK.mk (.pair I6 (.pair I6 (.slice 76 P6))) true none false none]
noncomputable def Zk5(r:List (Int×Int×Int)):Tup Z3r×OutD:=((r,()),none)
noncomputable def Zk4:Tup Z3r×OutD→Option (List (Int×Int×Int))
 |(a,none)=>some (a.1)
 |_=>none
theorem Zry: ∀b r,Zk4 b=some r→Zk5 r=b:=by
 rintro ⟨a,_|_⟩ r h<;>cases h;rfl
noncomputable def Z1h:Nat→Int→Int→List (Int×Int)→List (Int×Int×Int)→Int→Int→Int→Int→List (Int×Int)→Int→Int→Option (Int×Int×List (Int×Int)×List (Int×Int×Int)×List (Int×Int)×Int×Int)
 |0,_,_,_,_,_,_,_,_,_,_,_=>none
 |k+1,b1_0,b1_1,b1_2,o2,b3_0,b3_1,v4,v6,v9,v10,v11=>
  if decide (v6≤3)=true then Option.bind (Zfq k (b3_0,b3_1) v6) fun z0=>if z0=true then if b1_1=0 then none else if b1_1=0 then none else if List.length o2+List.length [(v6,wrap64 (Int.tdiv v4 b1_1),Int.tmod v4 b1_1)]≤(140737488355328/24:Nat) then Z1h k b1_0 b1_1 b1_2 (o2++[(v6,wrap64 (Int.tdiv v4 b1_1),Int.tmod v4 b1_1)]) b3_0 b3_1 v4 (wrap64 (v6+1)) v9 v10 v11 else none else Z1h k b1_0 b1_1 b1_2 o2 b3_0 b3_1 v4 (wrap64 (v6+1)) v9 v10 v11 else some (b1_0,b1_1,b1_2,o2,v9,v10,v11)
noncomputable def Zcf:Spec:=Spec.mk [.ro,O2,Og,Ol] [(1,.at (.ptr 1 0)),(3,.at (.sl 2)),(4,.at (.int .i64)),(5,.at (.ptr 3 0)),(6,.at (.int .i64)),(9,.at (.snap 0 P6)),(10,.at (.int .i64)),(11,.at (.int .i64))]
noncomputable def Zsv:Spec:=Spec.mk [.ro,O2,Og] [(1,.at (.ptr 1 0)),(3,.at (.sl 2)),(9,.at (.snap 0 P6)),(10,.at (.int .i64)),(11,.at (.int .i64))]
noncomputable def Z3l:LoopDef (Tup Z3r×OutD):= .plain Zcf Zsv (Int×Int×List (Int×Int)×List (Int×Int×Int)×List (Int×Int)×Int×Int) (fun k x=>Z1h k x.1.2.1.1 x.1.2.1.2.1 x.1.2.1.2.2.1 x.1.2.2.1 x.1.2.2.2.1.1 x.1.2.2.2.1.2.1 x.2.2.2.1 x.2.2.2.2.2.1 x.2.2.2.2.2.2.1 x.2.2.2.2.2.2.2.1 x.2.2.2.2.2.2.2.2.1) (fun z=>(((),(z.1,z.2.1,z.2.2.1,()),z.2.2.2.1,()),((),(),z.2.2.2.2.1,z.2.2.2.2.2.1,z.2.2.2.2.2.2,()))) (fun y=>(y.1.2.1.1,y.1.2.1.2.1,y.1.2.1.2.2.1,y.1.2.2.1,y.2.2.2.1,y.2.2.2.2.1,y.2.2.2.2.2.1)) (fun _=>rfl)
noncomputable def Z2q:Nat→Int→Int→List (Int×Int)→List (Int×Int×Int)→List (Int×Int)→Int→Int→Option (List (Int×Int×Int))
 |0,_,_,_,_,_,_,_=>none
 |k+1,b1_0,b1_1,b1_2,o2,v9,v10,v11=>
  if decide (v11<v10)=true then if (0:Int)≤v11 then if v11<(↑(List.length v9):Int) then Option.bind (Z1h k b1_0 b1_1 b1_2 o2 (Prod.fst (List.getD v9 (Int.toNat v11) ((0:Int),(0:Int)))) (Prod.snd (List.getD v9 (Int.toNat v11) ((0:Int),(0:Int)))) v11 (1:Int) v9 v10 v11) fun z1=>Z2q k z1.1 z1.2.1 z1.2.2.1 z1.2.2.2.1 z1.2.2.2.2.1 z1.2.2.2.2.2.1 (wrap64 (z1.2.2.2.2.2.2+1)) else none else none else some o2
noncomputable def Zcn:Spec:=Spec.mk [.ro,O2,Og] [(1,.at (.ptr 1 0)),(3,.at (.sl 2)),(9,.at (.snap 0 P6)),(10,.at (.int .i64)),(11,.at (.int .i64))]
noncomputable def Zt1:Spec:=Spec.mk [.ro,Og] [(3,.at (.sl 1))]
noncomputable def Z3i:LoopDef (Tup Z3r×OutD):= .plain Zcn Zt1 (List (Int×Int×Int)) (fun k x=>Z2q k x.1.2.1.1 x.1.2.1.2.1 x.1.2.1.2.2.1 x.1.2.2.1 x.2.2.2.1 x.2.2.2.2.1 x.2.2.2.2.2.1) (fun z=>(((),z,()),((),()))) (fun y=>(y.1.2.1)) (fun _=>rfl)
noncomputable def Zak:Nat→Int×Int×List (Int×Int)→Option (List (Int×Int×Int))
 |0,_=>none
 |k+1,p0=>
  Option.bind (Z2q k p0.1 p0.2.1 p0.2.2 [] p0.2.2 (↑(List.length p0.2.2):Int) (0:Int)) fun z2=>some z2
noncomputable def Z2d:FnDef:= .of Zlu Z3r (List (Int×Int×Int)) (fun k x=>Zak k x.1) Zk5 Zk4 Zry
noncomputable def Z6G:Code:=Tryz.f86.body.getD .skip
noncomputable def Z1e:Ctx (Tup Z3r×OutD):={T:=T,G:=[(91,Z53.E)],mvs:=[],no:=0,n:=38,res:=resOf T Zlu Z3r Tryz.f86.results.toList,loops:=[(2,Z3l.E),(0,Z3i.E)],regs:=[],conds:=[],cuts:=[]}
theorem Zf8(k:Nat):EnvOK Tryz.prog k Z1e.G:=(EnvOK.cons (Zz9 k) (EnvOK.nil mixed))
noncomputable def Z7q:Code:=(findLoop 2 Z6G).getD .skip
theorem Zs6(k:Nat)(x:Zcf.D):Z3l.lp (k+1) x=loopK Z1e Z3l 2 Z7q k x:=by kernel_rfl
theorem ZrS(k:Nat):LOK Tryz.prog Z1e k Z7q:=LOK.by [] (by kernel_rfl) AllOK.nil
theorem ZsG(x:Zcf.D):Z3l.lp 0 x=none:=by kernel_rfl
theorem Zri(k:Nat):EOK Tryz.prog Z1e k Z3l.E (.block 2 (.loop Z7q)):=Zd T_ok Zf8 ZsG Zs6 ZrS k
noncomputable def Z7s:Code:=(findLoop 0 Z6G).getD .skip
theorem Zs4(k:Nat)(x:Zcn.D):Z3i.lp (k+1) x=loopK Z1e Z3i 0 Z7s k x:=by kernel_rfl
theorem Zs3(k:Nat):LOK Tryz.prog Z1e k Z7s:=LOK.by [(Z3l.E,.block 2 (.loop Z7q))] (by kernel_rfl) (AllOK.cons (Zri k) AllOK.nil)
theorem ZsD(x:Zcn.D):Z3i.lp 0 x=none:=by kernel_rfl
theorem Zrz(k:Nat):EOK Tryz.prog Z1e k Z3i.E (.block 0 (.loop Z7s)):=Zd T_ok Zf8 ZsD Zs4 Zs3 k
theorem Zzt(k:Nat)(x:Tup Z2d.ps):Z2d.f (k+1) x=fnK Z2d Z1e Z6G k x:=by kernel_rfl
theorem ZyG(x:Tup Z2d.ps):Z2d.f 0 x=none:=by kernel_rfl
theorem ZyJ(k:Nat):LOK Tryz.prog Z1e k Z6G:=LOK.by [(Z3i.E,.block 0 (.loop Z7s))] (by kernel_rfl) (AllOK.cons (Zrz k) AllOK.nil)
theorem Zyw(k:Nat):SoundAt Tryz.prog k 86 Z2d.E:= @Z5 Tryz.prog Z2d Z1e 86 Tryz.f86 Z6G (by kernel_rfl) (by kernel_rfl) (by kernel_rfl) Tryz.func86 (by kernel_rfl) (by kernel_rfl) (by kernel_rfl) T_ok Zf8 ZyJ ZyG Zzt k
noncomputable def Zfr:List PK:=[PK.mk .bool false none false none]
noncomputable def Zyl:List PK:=[PK.mk (.pair I6 (.pair I6 (.slice 76 P6))) true none false none]
noncomputable def ZuJ(r:Bool):Tup Zfr×OutD:=((r,()),none)
noncomputable def ZuU:Tup Zfr×OutD→Option (Bool)
 |(a,none)=>some (a.1)
 |_=>none
theorem ZEm: ∀b r,ZuU b=some r→ZuJ r=b:=by
 rintro ⟨a,_|_⟩ r h<;>cases h;rfl
noncomputable def Ziz:Nat→Int×Int×List (Int×Int)→Option Bool
 |0,_=>none
 |k+1,p0=>
  Option.bind (ZgJ k (p0.1,p0.2.1,p0.2.2)) fun z0=>if z0=true then some (decide ((↑(List.length p0.2.2):Int)≤24)) else some false
noncomputable def Z6y:FnDef:= .of Zyl Zfr (Bool) (fun k x=>Ziz k x.1) ZuJ ZuU ZEm
noncomputable def Zoh:Code:=Tryz.f87.body.getD .skip
noncomputable def ZiW:Ctx (Tup Zfr×OutD):={T:=T,G:=[(110,Z69.E)],mvs:=[],no:=0,n:=11,res:=resOf T Zyl Zfr Tryz.f87.results.toList,loops:=[],regs:=[],conds:=[],cuts:=[]}
theorem ZNQ(k:Nat):EnvOK Tryz.prog k ZiW.G:=(EnvOK.cons (ZCb k) (EnvOK.nil mixed))
theorem ZNO(k:Nat)(x:Tup Z6y.ps):Z6y.f (k+1) x=fnK Z6y ZiW Zoh k x:=by kernel_rfl
theorem ZNY(x:Tup Z6y.ps):Z6y.f 0 x=none:=by kernel_rfl
theorem ZOH(k:Nat):LOK Tryz.prog ZiW k Zoh:=LOK.by [] (by kernel_rfl) AllOK.nil
theorem ZNx(k:Nat):SoundAt Tryz.prog k 87 Z6y.E:= @Z5 Tryz.prog Z6y ZiW 87 Tryz.f87 Zoh (by kernel_rfl) (by kernel_rfl) (by kernel_rfl) Tryz.func87 (by kernel_rfl) (by kernel_rfl) (by kernel_rfl) T_ok ZNQ ZOH ZNY ZNO k
noncomputable def Zfb:List PK:=[PK.mk .bool false none false none]
noncomputable def Zym:List PK:=[PK.mk (.pair I6 (.pair I6 (.slice 76 P6))) true none false none,PK.mk I6 false none false none,PK.mk I6 false none false none]
noncomputable def ZuQ(r:Bool):Tup Zfb×OutD:=((r,()),none)
noncomputable def ZuV:Tup Zfb×OutD→Option (Bool)
 |(a,none)=>some (a.1)
 |_=>none
theorem ZGo: ∀b r,ZuV b=some r→ZuQ r=b:=by
 rintro ⟨a,_|_⟩ r h<;>cases h;rfl
noncomputable def ZiA:Nat→Int×Int×List (Int×Int)→Int→Int→Option Bool
 |0,_,_,_=>none
 |k+1,p0,p1,p2=>
  Option.bind (Z3W k (p0.1,p0.2.1,p0.2.2)) fun z0=>if z0=true then if decide (p1≥0)=true then if decide (p1<p0.1)=true then if decide (p2≥0)=true then some (decide (p2<p0.2.1)) else some false else some false else some false else some false
noncomputable def Z6w:FnDef:= .of Zym Zfb (Bool) (fun k x=>ZiA k x.1 x.2.1 x.2.2.1) ZuQ ZuV ZGo
noncomputable def ZoH:Code:=Tryz.f90.body.getD .skip
noncomputable def ZiN:Ctx (Tup Zfb×OutD):={T:=T,G:=[(38,Z1z.E)],mvs:=[],no:=0,n:=29,res:=resOf T Zym Zfb Tryz.f90.results.toList,loops:=[],regs:=[],conds:=[],cuts:=[]}
theorem ZO2(k:Nat):EnvOK Tryz.prog k ZiN.G:=(EnvOK.cons (Z8S k) (EnvOK.nil mixed))
theorem ZNX(k:Nat)(x:Tup Z6w.ps):Z6w.f (k+1) x=fnK Z6w ZiN ZoH k x:=by kernel_rfl
theorem ZO5(x:Tup Z6w.ps):Z6w.f 0 x=none:=by kernel_rfl
theorem ZOP(k:Nat):LOK Tryz.prog ZiN k ZoH:=LOK.by [] (by kernel_rfl) AllOK.nil
theorem ZNz(k:Nat):SoundAt Tryz.prog k 90 Z6w.E:= @Z5 Tryz.prog Z6w ZiN 90 Tryz.f90 ZoH (by kernel_rfl) (by kernel_rfl) (by kernel_rfl) Tryz.func90 (by kernel_rfl) (by kernel_rfl) (by kernel_rfl) T_ok ZO2 ZOP ZO5 ZNX k
noncomputable def Z3H:List PK:=[PK.mk (.pair I6 (.slice 3 I6)) true none false none]
noncomputable def ZmA:List PK:=[PK.mk (.pair (.slice 5 (.int .u8)) (.pair I6 (.int .u64))) false none false (some 105),PK.mk I6 false none false none]
noncomputable def Zlw(r:(Int×List Int)×Int×Int):Tup Z3H×OutD:=((r.1,()),some ⟨Ty.pair (Ty.slice (5:Nat) (Ty.int .u8)) (Ty.pair (Ty.int .i64) (Ty.int .u64)),[([],r.2)]⟩)
noncomputable def Zfo:Tup Z3H×OutD→Option ((Int×List Int)×Int×Int)
 |(a,some ⟨u,ys⟩)=>if h:u=Ty.pair (Ty.slice (5:Nat) (Ty.int .u8)) (Ty.pair (Ty.int .i64) (Ty.int .u64)) then (match castU h ys with
  |[([],y)]=>some (a.1,y)
  |_=>none) else none
 |_=>none
theorem Ztz: ∀b r,Zfo b=some r→Zlw r=b:=by
 rintro ⟨a,o⟩ r h
 cases o with
 |none=>cases h
 |some s=>
  obtain ⟨u,ys⟩:=s
  simp only[Zfo]at h
  split at h
  ·rename_i hu
   subst hu
   match ys,h with
   |[],h=>cases (show (none:Option _)=some r from h)
   |[([],y)],h=>injection (show some _=some r from h) with h;subst h;rfl
   |[(_::_,y)],h=>cases (show (none:Option _)=some r from h)
   |(h1,_)::_::_,h=>cases h1<;>cases (show (none:Option _)=some r from h)
  ·cases h
noncomputable def Z41:Nat→Int→Int→List Int→Int→List Int→Int→List Int→Int→Int→Int→Int→Int→Option (Int×Int×List Int×Int×List Int×Int×List Int×Int×Int×Int×Int)
 |0,_,_,_,_,_,_,_,_,_,_,_,_=>none
 |k+1,b1_1,b1_2,o2,b3_0,o4,b5_0,o6,v1,v6,v7,v8,v9=>
  if decide (v9<v1)=true then Option.bind (ZmD k v7 v9) fun z1=>Z41 k b1_1 b1_2 o2 b3_0 o4 b5_0 o6 v1 v6 v7 (wrap64 (v8+z1)) (wrap64 (v9+1)) else some (b1_1,b1_2,o2,b3_0,o4,b5_0,o6,v1,v6,v7,v8)
noncomputable def Zd9:Spec:=Spec.mk [.ro,O3,Oc,Oj,O1,Ok,O1] [(0,.at (.ptr 1 0)),(1,.at (.int .i64)),(4,.at (.ptr 3 0)),(5,.at (.ptr 5 0)),(6,.at (.int .i64)),(7,.at (.int .i64)),(8,.at (.int .i64)),(9,.at (.int .i64))]
noncomputable def Zu7:Spec:=Spec.mk [.ro,O3,Oc,Oj,O1,Ok,O1] [(0,.at (.ptr 1 0)),(1,.at (.int .i64)),(4,.at (.ptr 3 0)),(5,.at (.ptr 5 0)),(6,.at (.int .i64)),(7,.at (.int .i64)),(8,.at (.int .i64))]
noncomputable def Z3A:LoopDef (Tup Z3H×OutD):= .plain Zd9 Zu7 (Int×Int×List Int×Int×List Int×Int×List Int×Int×Int×Int×Int) (fun k x=>Z41 k x.1.2.1.2.1 x.1.2.1.2.2.1 x.1.2.2.1 x.1.2.2.2.1.1 x.1.2.2.2.2.1 x.1.2.2.2.2.2.1.1 x.1.2.2.2.2.2.2.1 x.2.2.1 x.2.2.2.2.2.1 x.2.2.2.2.2.2.1 x.2.2.2.2.2.2.2.1 x.2.2.2.2.2.2.2.2.1) (fun z=>(((),((),z.1,z.2.1,()),z.2.2.1,(z.2.2.2.1,(),()),z.2.2.2.2.1,(z.2.2.2.2.2.1,(),()),z.2.2.2.2.2.2.1,()),((),z.2.2.2.2.2.2.2.1,(),(),z.2.2.2.2.2.2.2.2.1,z.2.2.2.2.2.2.2.2.2.1,z.2.2.2.2.2.2.2.2.2.2,()))) (fun y=>(y.1.2.1.2.1,y.1.2.1.2.2.1,y.1.2.2.1,y.1.2.2.2.1.1,y.1.2.2.2.2.1,y.1.2.2.2.2.2.1.1,y.1.2.2.2.2.2.2.1,y.2.2.1,y.2.2.2.2.2.1,y.2.2.2.2.2.2.1,y.2.2.2.2.2.2.2.1)) (fun _=>rfl)
noncomputable def Z1r:Nat→Int→Int→List Int→Int→List Int→Int→List Int→Int→Int→Int→Option (Int×Int×List Int×Int×List Int×Int×List Int)
 |0,_,_,_,_,_,_,_,_,_,_=>none
 |k+1,b1_1,b1_2,o2,b3_0,o4,b5_0,o6,v1,v6,v7=>
  if IntKind.wrap IntKind.u64 v1<0 then none else if decide (v7<shlS (1:Int) (IntKind.wrap IntKind.u64 v1))=true then if decide (v6=8)=true then Option.bind (Z41 k b1_1 b1_2 o2 b3_0 o4 b5_0 o6 v1 v6 v7 (0:Int) (0:Int)) fun z2=>if List.length z2.2.2.2.2.2.2.1+List.length [Int.tmod (wrap64 (Int.tdiv z2.2.2.2.2.2.2.2.2.2.2 (2:Int))) (2:Int)]≤(140737488355328/8:Nat) then Z1r k z2.1 z2.2.1 z2.2.2.1 z2.2.2.2.1 z2.2.2.2.2.1 z2.2.2.2.2.2.1 (z2.2.2.2.2.2.2.1++[Int.tmod (wrap64 (Int.tdiv z2.2.2.2.2.2.2.2.2.2.2 (2:Int))) (2:Int)]) z2.2.2.2.2.2.2.2.1 z2.2.2.2.2.2.2.2.2.1 (wrap64 (z2.2.2.2.2.2.2.2.2.2.1+1)) else none else Option.bind (ZK k (o2,b1_1,b1_2) v6) fun z3=>if z3.1=true then if List.length o6+List.length [(1:Int)]≤(140737488355328/8:Nat) then Z1r k z3.2.1 z3.2.2 o2 b3_0 o4 b5_0 (o6++[(1:Int)]) v1 v6 (wrap64 (v7+1)) else none else if List.length o6+List.length [(0:Int)]≤(140737488355328/8:Nat) then Z1r k z3.2.1 z3.2.2 o2 b3_0 o4 b5_0 (o6++[(0:Int)]) v1 v6 (wrap64 (v7+1)) else none else some (b1_1,b1_2,o2,b3_0,o4,b5_0,o6)
noncomputable def Zd1:Spec:=Spec.mk [.ro,O3,Oc,Oj,O1,Ok,O1] [(0,.at (.ptr 1 0)),(1,.at (.int .i64)),(4,.at (.ptr 3 0)),(5,.at (.ptr 5 0)),(6,.at (.int .i64)),(7,.at (.int .i64))]
noncomputable def ZtX:Spec:=Spec.mk [.ro,O3,Oc,Oj,O1,Ok,O1] [(4,.at (.ptr 3 0)),(5,.at (.ptr 5 0))]
noncomputable def Z3C:LoopDef (Tup Z3H×OutD):= .plain Zd1 ZtX (Int×Int×List Int×Int×List Int×Int×List Int) (fun k x=>Z1r k x.1.2.1.2.1 x.1.2.1.2.2.1 x.1.2.2.1 x.1.2.2.2.1.1 x.1.2.2.2.2.1 x.1.2.2.2.2.2.1.1 x.1.2.2.2.2.2.2.1 x.2.2.1 x.2.2.2.2.2.1 x.2.2.2.2.2.2.1) (fun z=>(((),((),z.1,z.2.1,()),z.2.2.1,(z.2.2.2.1,(),()),z.2.2.2.2.1,(z.2.2.2.2.2.1,(),()),z.2.2.2.2.2.2,()),((),(),()))) (fun y=>(y.1.2.1.2.1,y.1.2.1.2.2.1,y.1.2.2.1,y.1.2.2.2.1.1,y.1.2.2.2.2.1,y.1.2.2.2.2.2.1.1,y.1.2.2.2.2.2.2.1)) (fun _=>rfl)
noncomputable def Z7u:Nat→List Int×Int×Int→Int→Option ((Int×List Int)×Int×Int)
 |0,_,_=>none
 |k+1,p0,p1=>
  Option.bind (Zb k (p0.1,p0.2.1,p0.2.2) [(2:Int),(2:Int),(4:Int),(8:Int)]) fun z0=>Option.bind (Z1r k z0.2.1 z0.2.2 p0.1 (0:Int) [] p1 [] p1 z0.1 (0:Int)) fun z4=>some ((z4.2.2.2.2.2.1,z4.2.2.2.2.2.2),z4.1,z4.2.1)
noncomputable def Z1N:FnDef:= .of ZmA Z3H ((Int×List Int)×Int×Int) (fun k x=>Z7u k x.1 x.2.1) Zlw Zfo Ztz
noncomputable def Z76:Code:=Tryz.f97.body.getD .skip
noncomputable def Z1o:Ctx (Tup Z3H×OutD):={T:=T,G:=[(98,Zp.E),(118,Z9V.E),(95,ZZ.E)],mvs:=[],no:=2,n:=49,res:=resOf T ZmA Z3H Tryz.f97.results.toList,loops:=[(3,Z3A.E),(0,Z3C.E)],regs:=[],conds:=[],cuts:=[]}
theorem Zgh(k:Nat):EnvOK Tryz.prog k Z1o.G:=(EnvOK.cons (Z1T k) (EnvOK.cons (ZRT k) (EnvOK.cons (Z6n k) (EnvOK.nil mixed))))
noncomputable def Z8c:Code:=(findLoop 3 Z76).getD .skip
theorem Zus(k:Nat)(x:Zd9.D):Z3A.lp (k+1) x=loopK Z1o Z3A 3 Z8c k x:=by kernel_rfl
theorem ZtN(k:Nat):LOK Tryz.prog Z1o k Z8c:=LOK.by [] (by kernel_rfl) AllOK.nil
theorem ZtL(x:Zd9.D):Z3A.lp 0 x=none:=by kernel_rfl
theorem Zto(k:Nat):EOK Tryz.prog Z1o k Z3A.E (.block 3 (.loop Z8c)):=Zd T_ok Zgh ZtL Zus ZtN k
noncomputable def Z87:Code:=(findLoop 0 Z76).getD .skip
theorem Zuu(k:Nat)(x:Zd1.D):Z3C.lp (k+1) x=loopK Z1o Z3C 0 Z87 k x:=by kernel_rfl
theorem Zuw(k:Nat):LOK Tryz.prog Z1o k Z87:=LOK.by [(Z3A.E,.block 3 (.loop Z8c))] (by kernel_rfl) (AllOK.cons (Zto k) AllOK.nil)
theorem Zue(x:Zd1.D):Z3C.lp 0 x=none:=by kernel_rfl
theorem Zth(k:Nat):EOK Tryz.prog Z1o k Z3C.E (.block 0 (.loop Z87)):=Zd T_ok Zgh Zue Zuu Zuw k
theorem ZzZ(k:Nat)(x:Tup Z1N.ps):Z1N.f (k+1) x=fnK Z1N Z1o Z76 k x:=by kernel_rfl
theorem ZzQ(x:Tup Z1N.ps):Z1N.f 0 x=none:=by kernel_rfl
theorem ZzH(k:Nat):LOK Tryz.prog Z1o k Z76:=LOK.by [(Z3C.E,.block 0 (.loop Z87))] (by kernel_rfl) (AllOK.cons (Zth k) AllOK.nil)
theorem Zm0(k:Nat):SoundAt Tryz.prog k 97 Z1N.E:= @Z5 Tryz.prog Z1N Z1o 97 Tryz.f97 Z76 (by kernel_rfl) (by kernel_rfl) (by kernel_rfl) Tryz.func97 (by kernel_rfl) (by kernel_rfl) (by kernel_rfl) T_ok Zgh ZzH ZzQ ZzZ k
noncomputable def Zc7:List PK:=[PK.mk T6 true none false none,PK.mk (.pair I6 (.pair I6 (.slice 76 P6))) true none false none]
noncomputable def ZET:List PK:=[PK.mk (.pair I6 (.pair I6 (.slice 76 P6))) true none false none,PK.mk I6 false none false none]
noncomputable def ZBh(r:(Int×Int×Int)×Int×Int×List (Int×Int)):Tup Zc7×OutD:=((r.1,r.2,()),none)
noncomputable def ZBZ:Tup Zc7×OutD→Option ((Int×Int×Int)×Int×Int×List (Int×Int))
 |(a,none)=>some (a.1,a.2.1)
 |_=>none
theorem ZKs: ∀b r,ZBZ b=some r→ZBh r=b:=by
 rintro ⟨a,_|_⟩ r h<;>cases h;rfl
noncomputable def ZaH:Nat→Int→Int→List (Int×Int)→Int→Int→Int→Int→Int→List (Int×Int)→Int→Option (Int×Int×Int×Int×Int×List (Int×Int)×Int×Int×Int×Int×Int×List (Int×Int)):=fun k b1_0 b1_1 b1_2 b2_0 b2_1 b2_2 b3_0 b3_1 o4 v1=>
  Option.bind (Z1C k (b1_0,b1_1,b1_2)) fun z0=>Option.bind (Z2I k (b1_0,b1_1,b1_2) z0 v1) fun z1=>some (b2_0,b2_1,b2_2,b3_0,b3_1,o4,z1.1.1,z1.1.2.1,z1.1.2.2,z1.2.1.1,z1.2.1.2.1,z1.2.1.2.2)
noncomputable def ZfG:Nat→Int→Int→List (Int×Int)→Int→Int→Int→Int→Int→List (Int×Int)→Int→Option (List (Int×Int×Int×Int×Int×List (Int×Int)×Int×Int×Int×Int×Int×List (Int×Int))):=fun k b1_0 b1_1 b1_2 b2_0 b2_1 b2_2 b3_0 b3_1 o4 v1=>
  joinL (Option.bind (Z1C k (b1_0,b1_1,b1_2)) fun z2=>joinL (Option.bind (Z2I k (b1_0,b1_1,b1_2) z2 v1) fun z3=>joinL (some [(b2_0,b2_1,b2_2,b3_0,b3_1,o4,z3.1.1,z3.1.2.1,z3.1.2.2,z3.2.1.1,z3.2.1.2.1,z3.2.1.2.2)]) (some [(b2_0,b2_1,b2_2,b3_0,b3_1,o4,z3.1.1,z3.1.2.1,z3.1.2.2,z3.2.1.1,z3.2.1.2.1,z3.2.1.2.2)])) (joinL (joinL (Option.bind (Z2I k (b1_0,b1_1,b1_2) z2 v1) fun z4=>some [(b2_0,b2_1,b2_2,b3_0,b3_1,o4,z4.1.1,z4.1.2.1,z4.1.2.2,z4.2.1.1,z4.2.1.2.1,z4.2.1.2.2)]) (Option.bind (Z2I k (b1_0,b1_1,b1_2) z2 v1) fun z5=>some [(b2_0,b2_1,b2_2,b3_0,b3_1,o4,z5.1.1,z5.1.2.1,z5.1.2.2,z5.2.1.1,z5.2.1.2.1,z5.2.1.2.2)])) (joinL (Option.bind (Z2I k (b1_0,b1_1,b1_2) z2 v1) fun z6=>some [(b2_0,b2_1,b2_2,b3_0,b3_1,o4,z6.1.1,z6.1.2.1,z6.1.2.2,z6.2.1.1,z6.2.1.2.1,z6.2.1.2.2)]) (Option.bind (Z2I k (b1_0,b1_1,b1_2) z2 v1) fun z7=>some [(b2_0,b2_1,b2_2,b3_0,b3_1,o4,z7.1.1,z7.1.2.1,z7.1.2.2,z7.2.1.1,z7.2.1.2.1,z7.2.1.2.2)])))) (joinL (joinL (Option.bind (Z1C k (b1_0,b1_1,b1_2)) fun z8=>joinL (Option.bind (Z2I k (b1_0,b1_1,b1_2) z8 v1) fun z9=>some [(b2_0,b2_1,b2_2,b3_0,b3_1,o4,z9.1.1,z9.1.2.1,z9.1.2.2,z9.2.1.1,z9.2.1.2.1,z9.2.1.2.2)]) (Option.bind (Z2I k (b1_0,b1_1,b1_2) z8 v1) fun z10=>some [(b2_0,b2_1,b2_2,b3_0,b3_1,o4,z10.1.1,z10.1.2.1,z10.1.2.2,z10.2.1.1,z10.2.1.2.1,z10.2.1.2.2)])) (Option.bind (Z1C k (b1_0,b1_1,b1_2)) fun z11=>Option.bind (Z2I k (b1_0,b1_1,b1_2) z11 v1) fun z12=>some [(b2_0,b2_1,b2_2,b3_0,b3_1,o4,z12.1.1,z12.1.2.1,z12.1.2.2,z12.2.1.1,z12.2.1.2.1,z12.2.1.2.2)])) (joinL (Option.bind (Z1C k (b1_0,b1_1,b1_2)) fun z13=>joinL (Option.bind (Z2I k (b1_0,b1_1,b1_2) z13 v1) fun z14=>some [(b2_0,b2_1,b2_2,b3_0,b3_1,o4,z14.1.1,z14.1.2.1,z14.1.2.2,z14.2.1.1,z14.2.1.2.1,z14.2.1.2.2)]) (Option.bind (Z2I k (b1_0,b1_1,b1_2) z13 v1) fun z15=>some [(b2_0,b2_1,b2_2,b3_0,b3_1,o4,z15.1.1,z15.1.2.1,z15.1.2.2,z15.2.1.1,z15.2.1.2.1,z15.2.1.2.2)])) (Option.bind (Z1C k (b1_0,b1_1,b1_2)) fun z16=>Option.bind (Z2I k (b1_0,b1_1,b1_2) z16 v1) fun z17=>some [(b2_0,b2_1,b2_2,b3_0,b3_1,o4,z17.1.1,z17.1.2.1,z17.1.2.2,z17.2.1.1,z17.2.1.2.1,z17.2.1.2.2)])))
noncomputable def Zt2:Spec:=Spec.mk [.ro,O2,O5,O6,O0] [(1,.at (.int .i64)),(2,.at (.ptr 1 0)),(4,.at (.ptr 2 0)),(5,.at (.ptr 3 0))]
noncomputable def ZLe:Spec:=Spec.mk [.ro,O5,Oa,O0,O5,O7,O0] [(4,.at (.ptr 1 0)),(5,.at (.ptr 2 0)),(6,.at (.ptr 4 0)),(7,.at (.ptr 5 0))]
noncomputable def Z8D:LoopDef (Tup Zc7×OutD):= .plain Zt2 ZLe (Int×Int×Int×Int×Int×List (Int×Int)×Int×Int×Int×Int×Int×List (Int×Int)) (fun k x=>ZaH k x.1.2.1.1 x.1.2.1.2.1 x.1.2.1.2.2.1 x.1.2.2.1.1 x.1.2.2.1.2.1 x.1.2.2.1.2.2.1 x.1.2.2.2.1.1 x.1.2.2.2.1.2.1 x.1.2.2.2.2.1 x.2.1) (fun z=>(((),(z.1,z.2.1,z.2.2.1,()),(z.2.2.2.1,z.2.2.2.2.1,(),()),z.2.2.2.2.2.1,(z.2.2.2.2.2.2.1,z.2.2.2.2.2.2.2.1,z.2.2.2.2.2.2.2.2.1,()),(z.2.2.2.2.2.2.2.2.2.1,z.2.2.2.2.2.2.2.2.2.2.1,(),()),z.2.2.2.2.2.2.2.2.2.2.2,()),((),(),(),(),()))) (fun y=>(y.1.2.1.1,y.1.2.1.2.1,y.1.2.1.2.2.1,y.1.2.2.1.1,y.1.2.2.1.2.1,y.1.2.2.2.1,y.1.2.2.2.2.1.1,y.1.2.2.2.2.1.2.1,y.1.2.2.2.2.1.2.2.1,y.1.2.2.2.2.2.1.1,y.1.2.2.2.2.2.1.2.1,y.1.2.2.2.2.2.2.1)) (fun _=>rfl)
theorem ZJT(k:Nat)(b1_0:Int)(b1_1:Int)(b1_2:List (Int×Int))(b2_0:Int)(b2_1:Int)(b2_2:Int)(b3_0:Int)(b3_1:Int)(o4:List (Int×Int))(v1:Int):ZfG k b1_0 b1_1 b1_2 b2_0 b2_1 b2_2 b3_0 b3_1 o4 v1=repl 12 (ZaH k b1_0 b1_1 b1_2 b2_0 b2_1 b2_2 b3_0 b3_1 o4 v1):=by
 first
 |(simp only[ZfG,ZaH,Z7,Zc,Z8,Z9,Z6,Z3,if_true];done)
 |(simp only[ZfG,ZaH,Z7,Zc,Z8,Z9,Z6,Z3,if_true];simp only[Z1g,Z1i,Z2p,Z3];simp only[Z3E];exact Z1H ⟨fun h=>by simp only[h,and_self],fun h=>by simp only[h,and_self]⟩)
noncomputable def Zal:Nat→Int→Int→Int→Int→Int→List (Int×Int)→Int→Int→Int→Int→Int→List (Int×Int)→Option (Int×Int×Int×Int×Int×List (Int×Int)):=fun k b1_0 b1_1 b1_2 b2_0 b2_1 o3 b4_0 b4_1 b4_2 b5_0 b5_1 o6=>
  some (b4_0,b4_1,b4_2,b5_0,b5_1,o6)
noncomputable def ZfC:Nat→Int→Int→Int→Int→Int→List (Int×Int)→Int→Int→Int→Int→Int→List (Int×Int)→Option (List (Int×Int×Int×Int×Int×List (Int×Int))):=fun k b1_0 b1_1 b1_2 b2_0 b2_1 o3 b4_0 b4_1 b4_2 b5_0 b5_1 o6=>
  joinL (some [(b4_0,b4_1,b4_2,b5_0,b5_1,o6)]) (some [(b4_0,b4_1,b4_2,b5_0,b5_1,o6)])
noncomputable def Ztw:Spec:=Spec.mk [.ro,O5,Oa,O0,O5,O7,O0] [(4,.at (.ptr 1 0)),(5,.at (.ptr 2 0)),(6,.at (.ptr 4 0)),(7,.at (.ptr 5 0))]
noncomputable def ZKt:Spec:=Spec.mk [.ro,O5,Oa,O0] [(4,.at (.ptr 1 0)),(5,.at (.ptr 2 0))]
noncomputable def Z9i:LoopDef (Tup Zc7×OutD):= .plain Ztw ZKt (Int×Int×Int×Int×Int×List (Int×Int)) (fun k x=>Zal k x.1.2.1.1 x.1.2.1.2.1 x.1.2.1.2.2.1 x.1.2.2.1.1 x.1.2.2.1.2.1 x.1.2.2.2.1 x.1.2.2.2.2.1.1 x.1.2.2.2.2.1.2.1 x.1.2.2.2.2.1.2.2.1 x.1.2.2.2.2.2.1.1 x.1.2.2.2.2.2.1.2.1 x.1.2.2.2.2.2.2.1) (fun z=>(((),(z.1,z.2.1,z.2.2.1,()),(z.2.2.2.1,z.2.2.2.2.1,(),()),z.2.2.2.2.2,()),((),(),()))) (fun y=>(y.1.2.1.1,y.1.2.1.2.1,y.1.2.1.2.2.1,y.1.2.2.1.1,y.1.2.2.1.2.1,y.1.2.2.2.1)) (fun _=>rfl)
theorem ZJs(k:Nat)(b1_0:Int)(b1_1:Int)(b1_2:Int)(b2_0:Int)(b2_1:Int)(o3:List (Int×Int))(b4_0:Int)(b4_1:Int)(b4_2:Int)(b5_0:Int)(b5_1:Int)(o6:List (Int×Int)):ZfC k b1_0 b1_1 b1_2 b2_0 b2_1 o3 b4_0 b4_1 b4_2 b5_0 b5_1 o6=repl 2 (Zal k b1_0 b1_1 b1_2 b2_0 b2_1 o3 b4_0 b4_1 b4_2 b5_0 b5_1 o6):=by
 first
 |(simp only[ZfC,Zal,Z7,Zc,Z8,Z9,Z6,Z3,if_true];done)
 |(simp only[ZfC,Zal,Z7,Zc,Z8,Z9,Z6,Z3,if_true];simp only[Z1g,Z1i,Z2p,Z3];simp only[Z3E];exact Z1H ⟨fun h=>by simp only[h,and_self],fun h=>by simp only[h,and_self]⟩)
noncomputable def Zim:Nat→Int×Int×List (Int×Int)→Int→Option ((Int×Int×Int)×Int×Int×List (Int×Int))
 |0,_,_=>none
 |k+1,p0,p1=>
  Option.bind (ZaH k p0.1 p0.2.1 p0.2.2 (0:Int) (0:Int) (0:Int) (0:Int) (0:Int) [] p1) fun z18=>Option.bind (Zal k z18.1 z18.2.1 z18.2.2.1 z18.2.2.2.1 z18.2.2.2.2.1 z18.2.2.2.2.2.1 z18.2.2.2.2.2.2.1 z18.2.2.2.2.2.2.2.1 z18.2.2.2.2.2.2.2.2.1 z18.2.2.2.2.2.2.2.2.2.1 z18.2.2.2.2.2.2.2.2.2.2.1 z18.2.2.2.2.2.2.2.2.2.2.2) fun z19=>some ((z19.1,z19.2.1,z19.2.2.1),z19.2.2.2.1,z19.2.2.2.2.1,z19.2.2.2.2.2)
noncomputable def Z7v:FnDef:= .of ZET Zc7 ((Int×Int×Int)×Int×Int×List (Int×Int)) (fun k x=>Zim k x.1 x.2.1) ZBh ZBZ ZKs
noncomputable def Zig:Code:=Tryz.f107.body.getD .skip
noncomputable def Z1J:Ctx (Tup Zc7×OutD):={T:=T,G:=[(125,Z4l.E),(124,ZbD.E)],mvs:=[],no:=0,n:=20,res:=resOf T ZET Zc7 Tryz.f107.results.toList,loops:=[],regs:=[(1,Z8D.E),(2,Z9i.E)],conds:=[],cuts:=[]}
theorem ZsX(k:Nat):EnvOK Tryz.prog k Z1J.G:=(EnvOK.cons (Zv3 k) (EnvOK.cons (ZTa k) (EnvOK.nil mixed)))
noncomputable def Zld:Array Oper:=(findReg 1 Zig).getD #[]
theorem ZJY(k:Nat)(x:Zt2.D):execD Z1J.T Z1J.G Z1J.mvs k Zld (Z8D.inp.st Z1J.n x) (outK Z1J Z8D)=ZfG k x.1.2.1.1 x.1.2.1.2.1 x.1.2.1.2.2.1 x.1.2.2.1.1 x.1.2.2.1.2.1 x.1.2.2.1.2.2.1 x.1.2.2.2.1.1 x.1.2.2.2.1.2.1 x.1.2.2.2.2.1 x.2.1:=by kernel_rfl
theorem ZI1(k:Nat):EOK Tryz.prog Z1J k Z8D.E (.region 1 Zld true):=Z4n (D:=Z8D) (m:=12) T_ok (ZsX k) (fun x=>(ZJY k x).trans (ZJT k x.1.2.1.1 x.1.2.1.2.1 x.1.2.1.2.2.1 x.1.2.2.1.1 x.1.2.2.1.2.1 x.1.2.2.1.2.2.1 x.1.2.2.2.1.1 x.1.2.2.2.1.2.1 x.1.2.2.2.2.1 x.2.1))
noncomputable def Zl9:Array Oper:=(findReg 2 Zig).getD #[]
theorem ZKj(k:Nat)(x:Ztw.D):execD Z1J.T Z1J.G Z1J.mvs k Zl9 (Z9i.inp.st Z1J.n x) (outK Z1J Z9i)=ZfC k x.1.2.1.1 x.1.2.1.2.1 x.1.2.1.2.2.1 x.1.2.2.1.1 x.1.2.2.1.2.1 x.1.2.2.2.1 x.1.2.2.2.2.1.1 x.1.2.2.2.2.1.2.1 x.1.2.2.2.2.1.2.2.1 x.1.2.2.2.2.2.1.1 x.1.2.2.2.2.2.1.2.1 x.1.2.2.2.2.2.2.1:=by kernel_rfl
theorem ZHY(k:Nat):EOK Tryz.prog Z1J k Z9i.E (.region 2 Zl9 true):=Z4n (D:=Z9i) (m:=2) T_ok (ZsX k) (fun x=>(ZKj k x).trans (ZJs k x.1.2.1.1 x.1.2.1.2.1 x.1.2.1.2.2.1 x.1.2.2.1.1 x.1.2.2.1.2.1 x.1.2.2.2.1 x.1.2.2.2.2.1.1 x.1.2.2.2.2.1.2.1 x.1.2.2.2.2.1.2.2.1 x.1.2.2.2.2.2.1.1 x.1.2.2.2.2.2.1.2.1 x.1.2.2.2.2.2.2.1))
theorem ZSa(k:Nat)(x:Tup Z7v.ps):Z7v.f (k+1) x=fnK Z7v Z1J Zig k x:=by kernel_rfl
theorem ZRs(x:Tup Z7v.ps):Z7v.f 0 x=none:=by kernel_rfl
theorem ZS3(k:Nat):LOK Tryz.prog Z1J k Zig:=LOK.by [(Z8D.E,.region 1 Zld true),(Z9i.E,.region 2 Zl9 true)] (by kernel_rfl) (AllOK.cons (ZI1 k) (AllOK.cons (ZHY k) AllOK.nil))
theorem ZGq(k:Nat):SoundAt Tryz.prog k 107 Z7v.E:= @Z5 Tryz.prog Z7v Z1J 107 Tryz.f107 Zig (by kernel_rfl) (by kernel_rfl) (by kernel_rfl) Tryz.func107 (by kernel_rfl) (by kernel_rfl) (by kernel_rfl) T_ok ZsX ZS3 ZRs ZSa k
noncomputable def Zcc:List PK:=[PK.mk (.slice 40 T6) false none false none,PK.mk (.pair I6 (.pair I6 (.slice 76 P6))) true none false none]
noncomputable def ZGm:List PK:=[PK.mk (.pair I6 (.pair I6 (.slice 76 P6))) true none false none,PK.mk (.slice 58 T6) false none false none,PK.mk (.slice 3 I6) false none false none]
noncomputable def ZB6(r:List (Int×Int×Int)×Int×Int×List (Int×Int)):Tup Zcc×OutD:=((r.1,r.2,()),none)
noncomputable def ZAZ:Tup Zcc×OutD→Option (List (Int×Int×Int)×Int×Int×List (Int×Int))
 |(a,none)=>some (a.1,a.2.1)
 |_=>none
theorem ZLi: ∀b r,ZAZ b=some r→ZB6 r=b:=by
 rintro ⟨a,_|_⟩ r h<;>cases h;rfl
noncomputable def Z74:Nat→Int→Int→List (Int×Int)→Int→Int→List (Int×Int)→List (Int×Int×Int)→List Int→Option (Int×Int×List (Int×Int)×Int×Int×List (Int×Int)×List Int×List (Int×Int×Int)×List Int):=fun k b1_0 b1_1 b1_2 b2_0 b2_1 o3 v1 v2=>
  Option.bind (Z9R k (b1_0,b1_1,b1_2)) fun z0=>Option.bind (Z1C k (b1_0,b1_1,b1_2)) fun z1=>some (b2_0,b2_1,o3,z0.1,z0.2.1,z0.2.2,z1,v1,v2)
noncomputable def ZfV:Nat→Int→Int→List (Int×Int)→Int→Int→List (Int×Int)→List (Int×Int×Int)→List Int→Option (List (Int×Int×List (Int×Int)×Int×Int×List (Int×Int)×List Int×List (Int×Int×Int)×List Int)):=fun k b1_0 b1_1 b1_2 b2_0 b2_1 o3 v1 v2=>
  joinL (Option.bind (Z9R k (b1_0,b1_1,b1_2)) fun z2=>joinL (Option.bind (Z1C k (b1_0,b1_1,b1_2)) fun z3=>some [(b2_0,b2_1,o3,z2.1,z2.2.1,z2.2.2,z3,v1,v2)]) (Option.bind (Z1C k (b1_0,b1_1,b1_2)) fun z4=>some [(b2_0,b2_1,o3,z2.1,z2.2.1,z2.2.2,z4,v1,v2)])) (Option.bind (Z9R k (b1_0,b1_1,b1_2)) fun z5=>Option.bind (Z1C k (b1_0,b1_1,b1_2)) fun z6=>some [(b2_0,b2_1,o3,z5.1,z5.2.1,z5.2.2,z6,v1,v2)])
noncomputable def ZsU:Spec:=Spec.mk [.ro,O2,Oa,O0] [(1,.at (.snap 0 T6)),(2,.at (.snap 0 I6)),(3,.at (.ptr 1 0)),(7,.at (.ptr 2 0))]
noncomputable def ZKS:Spec:=Spec.mk [.ro,Obq,O0,O6,O0,O1] [(1,.at (.snap 0 T6)),(2,.at (.snap 0 I6)),(7,.at (.ptr 1 0)),(8,.at (.ptr 3 0)),(9,.at (.sl 5))]
noncomputable def Z8U:LoopDef (Tup Zcc×OutD):= .plain ZsU ZKS (Int×Int×List (Int×Int)×Int×Int×List (Int×Int)×List Int×List (Int×Int×Int)×List Int) (fun k x=>Z74 k x.1.2.1.1 x.1.2.1.2.1 x.1.2.1.2.2.1 x.1.2.2.1.1 x.1.2.2.1.2.1 x.1.2.2.2.1 x.2.1 x.2.2.1) (fun z=>(((),(z.1,z.2.1,(),()),z.2.2.1,(z.2.2.2.1,z.2.2.2.2.1,(),()),z.2.2.2.2.2.1,z.2.2.2.2.2.2.1,()),(z.2.2.2.2.2.2.2.1,z.2.2.2.2.2.2.2.2,(),(),(),()))) (fun y=>(y.1.2.1.1,y.1.2.1.2.1,y.1.2.2.1,y.1.2.2.2.1.1,y.1.2.2.2.1.2.1,y.1.2.2.2.2.1,y.1.2.2.2.2.2.1,y.2.1,y.2.2.1)) (fun _=>rfl)
theorem ZL7(k:Nat)(b1_0:Int)(b1_1:Int)(b1_2:List (Int×Int))(b2_0:Int)(b2_1:Int)(o3:List (Int×Int))(v1:List (Int×Int×Int))(v2:List Int):ZfV k b1_0 b1_1 b1_2 b2_0 b2_1 o3 v1 v2=repl 3 (Z74 k b1_0 b1_1 b1_2 b2_0 b2_1 o3 v1 v2):=by
 first
 |(simp only[ZfV,Z74,Z7,Zc,Z8,Z9,Z6,Z3,if_true];done)
 |(simp only[ZfV,Z74,Z7,Zc,Z8,Z9,Z6,Z3,if_true];simp only[Z1g,Z1i,Z2p,Z3];simp only[Z3E];exact Z1H ⟨fun h=>by simp only[h,and_self],fun h=>by simp only[h,and_self]⟩)
noncomputable def ZbT:Nat→Int→Int→List (Int×Int)→Int→Int→List (Int×Int)→List Int→List (Int×Int×Int)→List (Int×Int×Int)→List Int→Int→Int→Option (Int×Int×List (Int×Int)×Int×Int×List (Int×Int)×List (Int×Int×Int))
 |0,_,_,_,_,_,_,_,_,_,_,_,_=>none
 |k+1,b1_0,b1_1,o2,b3_0,b3_1,o4,o5,o6,v1,v19,v20,v21=>
  if decide (v21<v20)=true then if (0:Int)≤v21 then if v21<(↑(List.length v19):Int) then Option.bind (ZoP k (b3_0,b3_1,o4) o5 v1 (List.getD v19 (Int.toNat v21) (0:Int))) fun z8=>if List.length o6+List.length [(z8.1.1,z8.1.2.1,z8.1.2.2)]≤(140737488355328/24:Nat) then ZbT k b1_0 b1_1 o2 z8.2.1 z8.2.2.1 z8.2.2.2 o5 (o6++[(z8.1.1,z8.1.2.1,z8.1.2.2)]) v1 v19 v20 (wrap64 (v21+1)) else none else none else none else some (b1_0,b1_1,o2,b3_0,b3_1,o4,o6)
noncomputable def ZlS:Spec:=Spec.mk [.ro,Obq,O0,O6,O0,O1,Om] [(1,.at (.snap 0 T6)),(7,.at (.ptr 1 0)),(8,.at (.ptr 3 0)),(9,.at (.sl 5)),(10,.at (.sl 6)),(19,.at (.snap 0 I6)),(20,.at (.int .i64)),(21,.at (.int .i64))]
noncomputable def ZMd:Spec:=Spec.mk [.ro,Obq,O0,O6,O0,Om] [(7,.at (.ptr 1 0)),(8,.at (.ptr 3 0)),(10,.at (.sl 5))]
noncomputable def Zas:LoopDef (Tup Zcc×OutD):= .plain ZlS ZMd (Int×Int×List (Int×Int)×Int×Int×List (Int×Int)×List (Int×Int×Int)) (fun k x=>ZbT k x.1.2.1.1 x.1.2.1.2.1 x.1.2.2.1 x.1.2.2.2.1.1 x.1.2.2.2.1.2.1 x.1.2.2.2.2.1 x.1.2.2.2.2.2.1 x.1.2.2.2.2.2.2.1 x.2.1 x.2.2.2.2.2.2.1 x.2.2.2.2.2.2.2.1 x.2.2.2.2.2.2.2.2.1) (fun z=>(((),(z.1,z.2.1,(),()),z.2.2.1,(z.2.2.2.1,z.2.2.2.2.1,(),()),z.2.2.2.2.2.1,z.2.2.2.2.2.2,()),((),(),(),()))) (fun y=>(y.1.2.1.1,y.1.2.1.2.1,y.1.2.2.1,y.1.2.2.2.1.1,y.1.2.2.2.1.2.1,y.1.2.2.2.2.1,y.1.2.2.2.2.2.1)) (fun _=>rfl)
noncomputable def Z9X:Nat→Int×Int×List (Int×Int)→List (Int×Int×Int)→List Int→Option (List (Int×Int×Int)×Int×Int×List (Int×Int))
 |0,_,_,_=>none
 |k+1,p0,p1,p2=>
  Option.bind (Z74 k p0.1 p0.2.1 p0.2.2 (0:Int) (0:Int) [] p1 p2) fun z7=>Option.bind (ZbT k z7.1 z7.2.1 z7.2.2.1 z7.2.2.2.1 z7.2.2.2.2.1 z7.2.2.2.2.2.1 z7.2.2.2.2.2.2.1 [] z7.2.2.2.2.2.2.2.1 z7.2.2.2.2.2.2.2.2 (↑(List.length z7.2.2.2.2.2.2.2.2):Int) (0:Int)) fun z9=>some (z9.2.2.2.2.2.2,z9.2.2.2.1,z9.2.2.2.2.1,z9.2.2.2.2.2.1)
noncomputable def Z79:FnDef:= .of ZGm Zcc (List (Int×Int×Int)×Int×Int×List (Int×Int)) (fun k x=>Z9X k x.1 x.2.1 x.2.2.1) ZB6 ZAZ ZLi
noncomputable def Zi1:Code:=Tryz.f112.body.getD .skip
noncomputable def Z3e:Ctx (Tup Zcc×OutD):={T:=T,G:=[(126,Z5Y.E),(125,Z4l.E),(127,ZbG.E)],mvs:=[],no:=0,n:=41,res:=resOf T ZGm Zcc Tryz.f112.results.toList,loops:=[(0,Zas.E)],regs:=[(1,Z8U.E)],conds:=[],cuts:=[]}
theorem Ztl(k:Nat):EnvOK Tryz.prog k Z3e.G:=(EnvOK.cons (ZsE k) (EnvOK.cons (Zv3 k) (EnvOK.cons (ZTm k) (EnvOK.nil mixed))))
noncomputable def Zlj:Array Oper:=(findReg 1 Zi1).getD #[]
theorem ZKE(k:Nat)(x:ZsU.D):execD Z3e.T Z3e.G Z3e.mvs k Zlj (Z8U.inp.st Z3e.n x) (outK Z3e Z8U)=ZfV k x.1.2.1.1 x.1.2.1.2.1 x.1.2.1.2.2.1 x.1.2.2.1.1 x.1.2.2.1.2.1 x.1.2.2.2.1 x.2.1 x.2.2.1:=by kernel_rfl
theorem ZIE(k:Nat):EOK Tryz.prog Z3e k Z8U.E (.region 1 Zlj true):=Z4n (D:=Z8U) (m:=3) T_ok (Ztl k) (fun x=>(ZKE k x).trans (ZL7 k x.1.2.1.1 x.1.2.1.2.1 x.1.2.1.2.2.1 x.1.2.2.1.1 x.1.2.2.1.2.1 x.1.2.2.2.1 x.2.1 x.2.2.1))
noncomputable def Zhl:Code:=(findLoop 0 Zi1).getD .skip
theorem ZN5(k:Nat)(x:ZlS.D):Zas.lp (k+1) x=loopK Z3e Zas 0 Zhl k x:=by kernel_rfl
theorem ZLX(k:Nat):LOK Tryz.prog Z3e k Zhl:=LOK.by [] (by kernel_rfl) AllOK.nil
theorem ZLV(x:ZlS.D):Zas.lp 0 x=none:=by kernel_rfl
theorem ZJw(k:Nat):EOK Tryz.prog Z3e k Zas.E (.block 0 (.loop Zhl)):=Zd T_ok Ztl ZLV ZN5 ZLX k
theorem ZRH(k:Nat)(x:Tup Z79.ps):Z79.f (k+1) x=fnK Z79 Z3e Zi1 k x:=by kernel_rfl
theorem ZSA(x:Tup Z79.ps):Z79.f 0 x=none:=by kernel_rfl
theorem ZSD(k:Nat):LOK Tryz.prog Z3e k Zi1:=LOK.by [(Z8U.E,.region 1 Zlj true),(Zas.E,.block 0 (.loop Zhl))] (by kernel_rfl) (AllOK.cons (ZIE k) (AllOK.cons (ZJw k) AllOK.nil))
theorem ZEb(k:Nat):SoundAt Tryz.prog k 112 Z79.E:= @Z5 Tryz.prog Z79 Z3e 112 Tryz.f112 Zi1 (by kernel_rfl) (by kernel_rfl) (by kernel_rfl) Tryz.func112 (by kernel_rfl) (by kernel_rfl) (by kernel_rfl) T_ok Ztl ZSD ZSA ZRH k
noncomputable def Z5o:List PK:=[PK.mk (.pair I6 (.pair I6 (.slice 76 P6))) true none false none]
noncomputable def Zme:List PK:=[PK.mk (.pair (.slice 5 (.int .u8)) (.pair I6 (.int .u64))) false none false (some 105),PK.mk I6 false none false none,PK.mk I6 false none false none]
noncomputable def ZlM(r:(Int×Int×List (Int×Int))×Int×Int):Tup Z5o×OutD:=((r.1,()),some ⟨Ty.pair (Ty.slice (5:Nat) (Ty.int .u8)) (Ty.pair (Ty.int .i64) (Ty.int .u64)),[([],r.2)]⟩)
noncomputable def ZeQ:Tup Z5o×OutD→Option ((Int×Int×List (Int×Int))×Int×Int)
 |(a,some ⟨u,ys⟩)=>if h:u=Ty.pair (Ty.slice (5:Nat) (Ty.int .u8)) (Ty.pair (Ty.int .i64) (Ty.int .u64)) then (match castU h ys with
  |[([],y)]=>some (a.1,y)
  |_=>none) else none
 |_=>none
theorem ZsH: ∀b r,ZeQ b=some r→ZlM r=b:=by
 rintro ⟨a,o⟩ r h
 cases o with
 |none=>cases h
 |some s=>
  obtain ⟨u,ys⟩:=s
  simp only[ZeQ]at h
  split at h
  ·rename_i hu
   subst hu
   match ys,h with
   |[],h=>cases (show (none:Option _)=some r from h)
   |[([],y)],h=>injection (show some _=some r from h) with h;subst h;rfl
   |[(_::_,y)],h=>cases (show (none:Option _)=some r from h)
   |(h1,_)::_::_,h=>cases h1<;>cases (show (none:Option _)=some r from h)
  ·cases h
noncomputable def Zj:Nat→Int→Int→List Int→Int→Int→List (Int×Int)→Int→Int→List (Int×Int)→Int→Int→Int→Option (Int×Int×List Int×Int×Int×List (Int×Int)×Int×Int×List (Int×Int))
 |0,_,_,_,_,_,_,_,_,_,_,_,_=>none
 |k+1,b1_1,b1_2,o2,b3_0,b3_1,o4,b5_0,b5_1,o6,v1,v2,v8=>
  if decide ((↑(List.length o6):Int)<wrap64 (v1*v2))=true then Option.bind (ZK k (o2,b1_1,b1_2) v8) fun z1=>if z1.1=true then Option.bind (Z5y k (o2,z1.2.1,z1.2.2)) fun z2=>if decide (z2.1.1=5)=true then Option.bind (ZK k (o2,z2.2.1,z2.2.2) (3:Int)) fun z3=>if (!z3.1)=true then Option.bind (Z1 k (o2,z3.2.1,z3.2.2) (2:Int)) fun z4=>if List.length o6+List.length [((3:Int),z4.1)]≤(140737488355328/16:Nat) then Zj k z4.2.1 z4.2.2 o2 b3_0 b3_1 o4 b5_0 b5_1 (o6++[((3:Int),z4.1)]) v1 v2 v8 else none else if List.length o6+List.length [(z2.1.1,z2.1.2)]≤(140737488355328/16:Nat) then Zj k z3.2.1 z3.2.2 o2 b3_0 b3_1 o4 b5_0 b5_1 (o6++[(z2.1.1,z2.1.2)]) v1 v2 v8 else none else if List.length o6+List.length [(z2.1.1,z2.1.2)]≤(140737488355328/16:Nat) then Zj k z2.2.1 z2.2.2 o2 b3_0 b3_1 o4 b5_0 b5_1 (o6++[(z2.1.1,z2.1.2)]) v1 v2 v8 else none else Option.bind (ZK k (o2,z1.2.1,z1.2.2) (3:Int)) fun z5=>if z5.1=true then Option.bind (Z5y k (o2,z5.2.1,z5.2.2)) fun z6=>if decide (z6.1.1=5)=true then Option.bind (ZK k (o2,z6.2.1,z6.2.2) (3:Int)) fun z7=>if (!z7.1)=true then Option.bind (Z1 k (o2,z7.2.1,z7.2.2) (2:Int)) fun z8=>if List.length o6+List.length [((3:Int),z8.1)]≤(140737488355328/16:Nat) then Zj k z8.2.1 z8.2.2 o2 b3_0 b3_1 o4 b5_0 b5_1 (o6++[((3:Int),z8.1)]) v1 v2 v8 else none else if List.length o6+List.length [(z6.1.1,z6.1.2)]≤(140737488355328/16:Nat) then Zj k z7.2.1 z7.2.2 o2 b3_0 b3_1 o4 b5_0 b5_1 (o6++[(z6.1.1,z6.1.2)]) v1 v2 v8 else none else if List.length o6+List.length [(z6.1.1,z6.1.2)]≤(140737488355328/16:Nat) then Zj k z6.2.1 z6.2.2 o2 b3_0 b3_1 o4 b5_0 b5_1 (o6++[(z6.1.1,z6.1.2)]) v1 v2 v8 else none else if List.length o6+List.length [((0:Int),(0:Int))]≤(140737488355328/16:Nat) then Zj k z5.2.1 z5.2.2 o2 b3_0 b3_1 o4 b5_0 b5_1 (o6++[((0:Int),(0:Int))]) v1 v2 v8 else none else some (b1_1,b1_2,o2,b3_0,b3_1,o4,b5_0,b5_1,o6)
noncomputable def ZcZ:Spec:=Spec.mk [.ro,O3,Oc,O6,O0,O7,O0] [(0,.at (.ptr 1 0)),(1,.at (.int .i64)),(2,.at (.int .i64)),(6,.at (.ptr 3 0)),(7,.at (.ptr 5 0)),(8,.at (.int .i64))]
noncomputable def Zul:Spec:=Spec.mk [.ro,O3,Oc,O6,O0,O7,O0] [(6,.at (.ptr 3 0)),(7,.at (.ptr 5 0))]
noncomputable def Z3D:LoopDef (Tup Z5o×OutD):= .plain ZcZ Zul (Int×Int×List Int×Int×Int×List (Int×Int)×Int×Int×List (Int×Int)) (fun k x=>Zj k x.1.2.1.2.1 x.1.2.1.2.2.1 x.1.2.2.1 x.1.2.2.2.1.1 x.1.2.2.2.1.2.1 x.1.2.2.2.2.1 x.1.2.2.2.2.2.1.1 x.1.2.2.2.2.2.1.2.1 x.1.2.2.2.2.2.2.1 x.2.2.1 x.2.2.2.1 x.2.2.2.2.2.2.1) (fun z=>(((),((),z.1,z.2.1,()),z.2.2.1,(z.2.2.2.1,z.2.2.2.2.1,(),()),z.2.2.2.2.2.1,(z.2.2.2.2.2.2.1,z.2.2.2.2.2.2.2.1,(),()),z.2.2.2.2.2.2.2.2,()),((),(),()))) (fun y=>(y.1.2.1.2.1,y.1.2.1.2.2.1,y.1.2.2.1,y.1.2.2.2.1.1,y.1.2.2.2.1.2.1,y.1.2.2.2.2.1,y.1.2.2.2.2.2.1.1,y.1.2.2.2.2.2.1.2.1,y.1.2.2.2.2.2.2.1)) (fun _=>rfl)
noncomputable def Z2B:Nat→List Int×Int×Int→Int→Int→Option ((Int×Int×List (Int×Int))×Int×Int)
 |0,_,_,_=>none
 |k+1,p0,p1,p2=>
  Option.bind (Zb k (p0.1,p0.2.1,p0.2.2) [(1:Int),(2:Int),(2:Int)]) fun z0=>Option.bind (Zj k z0.2.1 z0.2.2 p0.1 (0:Int) (0:Int) [] p1 p2 [] p1 p2 z0.1) fun z9=>some ((z9.2.2.2.2.2.2.1,z9.2.2.2.2.2.2.2.1,z9.2.2.2.2.2.2.2.2),z9.1,z9.2.1)
noncomputable def Z1P:FnDef:= .of Zme Z5o ((Int×Int×List (Int×Int))×Int×Int) (fun k x=>Z2B k x.1 x.2.1 x.2.2.1) ZlM ZeQ ZsH
noncomputable def Zbr:Code:=Tryz.f121.body.getD .skip
noncomputable def Z3K:Ctx (Tup Z5o×OutD):={T:=T,G:=[(98,Zp.E),(95,ZZ.E),(130,Z3b.E),(116,Zq.E)],mvs:=[],no:=2,n:=51,res:=resOf T Zme Z5o Tryz.f121.results.toList,loops:=[(0,Z3D.E)],regs:=[],conds:=[],cuts:=[]}
theorem Zm6(k:Nat):EnvOK Tryz.prog k Z3K.G:=(EnvOK.cons (Z1T k) (EnvOK.cons (Z6n k) (EnvOK.cons (ZqI k) (EnvOK.cons (Z1I k) (EnvOK.nil mixed)))))
noncomputable def Z8a:Code:=(findLoop 0 Zbr).getD .skip
theorem ZtI(k:Nat)(x:ZcZ.D):Z3D.lp (k+1) x=loopK Z3K Z3D 0 Z8a k x:=by kernel_rfl
theorem ZtT(k:Nat):LOK Tryz.prog Z3K k Z8a:=LOK.by [] (by kernel_rfl) AllOK.nil
theorem Zut(x:ZcZ.D):Z3D.lp 0 x=none:=by kernel_rfl
theorem Zsr(k:Nat):EOK Tryz.prog Z3K k Z3D.E (.block 0 (.loop Z8a)):=Zd T_ok Zm6 Zut ZtI ZtT k
theorem ZAl(k:Nat)(x:Tup Z1P.ps):Z1P.f (k+1) x=fnK Z1P Z3K Zbr k x:=by kernel_rfl
theorem ZAU(x:Tup Z1P.ps):Z1P.f 0 x=none:=by kernel_rfl
theorem ZzW(k:Nat):LOK Tryz.prog Z3K k Zbr:=LOK.by [(Z3D.E,.block 0 (.loop Z8a))] (by kernel_rfl) (AllOK.cons (Zsr k) AllOK.nil)
theorem ZmC(k:Nat):SoundAt Tryz.prog k 121 Z1P.E:= @Z5 Tryz.prog Z1P Z3K 121 Tryz.f121 Zbr (by kernel_rfl) (by kernel_rfl) (by kernel_rfl) Tryz.func121 (by kernel_rfl) (by kernel_rfl) (by kernel_rfl) T_ok Zm6 ZzW ZAU ZAl k
noncomputable def Z73:List PK:=[PK.mk P6 true none false none]
noncomputable def Zn5:List PK:=[PK.mk (.pair (.slice 5 (.int .u8)) (.pair I6 (.int .u64))) false none false (some 105)]
noncomputable def ZlC(r:(Int×Int)×Int×Int):Tup Z73×OutD:=((r.1,()),some ⟨Ty.pair (Ty.slice (5:Nat) (Ty.int .u8)) (Ty.pair (Ty.int .i64) (Ty.int .u64)),[([],r.2)]⟩)
noncomputable def Zf2:Tup Z73×OutD→Option ((Int×Int)×Int×Int)
 |(a,some ⟨u,ys⟩)=>if h:u=Ty.pair (Ty.slice (5:Nat) (Ty.int .u8)) (Ty.pair (Ty.int .i64) (Ty.int .u64)) then (match castU h ys with
  |[([],y)]=>some (a.1,y)
  |_=>none) else none
 |_=>none
theorem Zs8: ∀b r,Zf2 b=some r→ZlC r=b:=by
 rintro ⟨a,o⟩ r h
 cases o with
 |none=>cases h
 |some s=>
  obtain ⟨u,ys⟩:=s
  simp only[Zf2]at h
  split at h
  ·rename_i hu
   subst hu
   match ys,h with
   |[],h=>cases (show (none:Option _)=some r from h)
   |[([],y)],h=>injection (show some _=some r from h) with h;subst h;rfl
   |[(_::_,y)],h=>cases (show (none:Option _)=some r from h)
   |(h1,_)::_::_,h=>cases h1<;>cases (show (none:Option _)=some r from h)
  ·cases h
noncomputable def Z1M:Nat→List Int×Int×Int→Option ((Int×Int)×Int×Int)
 |0,_=>none
 |k+1,p0=>
  Option.bind (Z5y k (p0.1,p0.2.1,p0.2.2)) fun z0=>Option.bind (Z1 k (p0.1,z0.2.1,z0.2.2) (20:Int)) fun z1=>if decide (z1.1=0)=true then Option.bind (Zb k (p0.1,z1.2.1,z1.2.2) [(-1:Int),(8:Int)]) fun z2=>some ((z2.1,z0.1.2),z2.2.1,z2.2.2) else if decide (z1.1=1)=true then Option.bind (Zb k (p0.1,z1.2.1,z1.2.2) [(-1:Int),(1:Int),(2:Int)]) fun z3=>some ((z0.1.1,z3.1),z3.2.1,z3.2.2) else some ((z0.1.1,z0.1.2),z1.2.1,z1.2.2)
noncomputable def Z2x:FnDef:= .of Zn5 Z73 ((Int×Int)×Int×Int) (fun k x=>Z1M k x.1) ZlC Zf2 Zs8
noncomputable def ZfX:Code:=Tryz.f132.body.getD .skip
noncomputable def ZbB:Ctx (Tup Z73×OutD):={T:=T,G:=[(130,Z3b.E),(116,Zq.E),(98,Zp.E)],mvs:=[],no:=2,n:=21,res:=resOf T Zn5 Z73 Tryz.f132.results.toList,loops:=[],regs:=[],conds:=[],cuts:=[]}
theorem ZA8(k:Nat):EnvOK Tryz.prog k ZbB.G:=(EnvOK.cons (ZqI k) (EnvOK.cons (Z1I k) (EnvOK.cons (Z1T k) (EnvOK.nil mixed))))
theorem ZAR(k:Nat)(x:Tup Z2x.ps):Z2x.f (k+1) x=fnK Z2x ZbB ZfX k x:=by kernel_rfl
theorem ZA9(x:Tup Z2x.ps):Z2x.f 0 x=none:=by kernel_rfl
theorem ZA3(k:Nat):LOK Tryz.prog ZbB k ZfX:=LOK.by [] (by kernel_rfl) AllOK.nil
theorem ZAk(k:Nat):SoundAt Tryz.prog k 132 Z2x.E:= @Z5 Tryz.prog Z2x ZbB 132 Tryz.f132 ZfX (by kernel_rfl) (by kernel_rfl) (by kernel_rfl) Tryz.func132 (by kernel_rfl) (by kernel_rfl) (by kernel_rfl) T_ok ZA8 ZA3 ZA9 ZAR k
end
end Go.Proofs.YtmhfhiofcoggbaaGreat.Vs
