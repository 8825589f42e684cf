/- The proof, part 8. -/
import Derived.Test.YtmhfhiofcoggbaaGreatqT2m6
set_option maxRecDepth 100000
set_option maxHeartbeats 2000000
set_option linter.unusedVariables false
set_option linter.unusedSimpArgs false
namespace Go.Proofs.YtmhfhiofcoggbaaGreat.Vs
open Go.RowKit
noncomputable section
noncomputable def Zc8:List PK:=[PK.mk I6 false none false none,PK.mk .bool false none false none]
noncomputable def ZsO:List PK:=[PK.mk (.pair I6 (.pair I6 (.slice 76 P6))) true none false none]
noncomputable def ZqT(r:Int×Bool):Tup Zc8×OutD:=((r.1,r.2,()),none)
noncomputable def ZqB:Tup Zc8×OutD→Option (Int×Bool)
 |(a,none)=>some (a.1,a.2.1)
 |_=>none
theorem ZzQ: ∀b r,ZqB b=some r→ZqT r=b:=by
 rintro ⟨a,_|_⟩ r h<;>cases h;rfl
noncomputable def Zgi:Nat→Int×Int×List (Int×Int)→Option (Int×Bool)
 |0,_=>none
 |k+1,p0=>
  Option.bind (Z3U k (p0.1,p0.2.1,p0.2.2)) fun z0=>if (!z0)=true then some ((0:Int),false) else Option.bind (Z6G k (p0.1,p0.2.1,p0.2.2)) fun z1=>some (z1,true)
noncomputable def Z4O:FnDef:= .of ZsO Zc8 (Int×Bool) (fun k x=>Zgi k x.1) ZqT ZqB ZzQ
noncomputable def ZkK:Code:=Tryz.f17.body.getD .skip
noncomputable def Zg9:Ctx (Tup Zc8×OutD):={T:=T,G:=[(38,Z1A.E),(51,Z3d.E)],mvs:=[],no:=0,n:=9,res:=resOf T ZsO Zc8 Tryz.f17.results.toList,loops:=[],regs:=[],conds:=[],cuts:=[]}
theorem ZLp(k:Nat):EnvOK Tryz.prog k Zg9.G:=(EnvOK.cons (Z90 k) (EnvOK.cons (ZiP k) (EnvOK.nil mixed)))
theorem ZJU(k:Nat)(x:Tup Z4O.ps):Z4O.f (k+1) x=fnK Z4O Zg9 ZkK k x:=by kernel_rfl
theorem ZLh(x:Tup Z4O.ps):Z4O.f 0 x=none:=by kernel_rfl
theorem ZKJ(k:Nat):LOK Tryz.prog Zg9 k ZkK:=LOK.by [] (by kernel_rfl) AllOK.nil
theorem ZKn(k:Nat):SoundAt Tryz.prog k 17 Z4O.E:= @Z5 Tryz.prog Z4O Zg9 17 Tryz.f17 ZkK (by kernel_rfl) (by kernel_rfl) (by kernel_rfl) Tryz.func17 (by kernel_rfl) (by kernel_rfl) (by kernel_rfl) T_ok ZLp ZKJ ZLh ZJU k
noncomputable def Zfs:List PK:=[PK.mk .bool false none false none]
noncomputable def Zz3:List PK:=[PK.mk (.pair I6 (.slice 3 I6)) true none false none]
noncomputable def ZuV(r:Bool):Tup Zfs×OutD:=((r,()),none)
noncomputable def ZvI:Tup Zfs×OutD→Option (Bool)
 |(a,none)=>some (a.1)
 |_=>none
theorem ZEt: ∀b r,ZvI b=some r→ZuV r=b:=by
 rintro ⟨a,_|_⟩ r h<;>cases h;rfl
noncomputable def ZiB:Nat→Int×List Int→Option Bool
 |0,_=>none
 |k+1,p0=>
  Option.bind (Zkl k (p0.1,p0.2)) fun z0=>if z0=true then some (decide (p0.1≤(3:Int))) else some false
noncomputable def Z6O:FnDef:= .of Zz3 Zfs (Bool) (fun k x=>ZiB k x.1) ZuV ZvI ZEt
noncomputable def ZoF:Code:=Tryz.f32.body.getD .skip
noncomputable def ZiQ:Ctx (Tup Zfs×OutD):={T:=T,G:=[(65,Z7Y.E)],mvs:=[],no:=0,n:=10,res:=resOf T Zz3 Zfs Tryz.f32.results.toList,loops:=[],regs:=[],conds:=[],cuts:=[]}
theorem ZP8(k:Nat):EnvOK Tryz.prog k ZiQ.G:=(EnvOK.cons (ZPB k) (EnvOK.nil mixed))
theorem ZOn(k:Nat)(x:Tup Z6O.ps):Z6O.f (k+1) x=fnK Z6O ZiQ ZoF k x:=by kernel_rfl
theorem ZOc(x:Tup Z6O.ps):Z6O.f 0 x=none:=by kernel_rfl
theorem ZOz(k:Nat):LOK Tryz.prog ZiQ k ZoF:=LOK.by [] (by kernel_rfl) AllOK.nil
theorem ZNU(k:Nat):SoundAt Tryz.prog k 32 Z6O.E:= @Z5 Tryz.prog Z6O ZiQ 32 Tryz.f32 ZoF (by kernel_rfl) (by kernel_rfl) (by kernel_rfl) Tryz.func32 (by kernel_rfl) (by kernel_rfl) (by kernel_rfl) T_ok ZP8 ZOz ZOc ZOn k
noncomputable def Z7r:List PK:=[PK.mk .bool false none false none]
noncomputable def ZmP:List PK:=[PK.mk (.pair I6 (.pair I6 (.slice 76 P6))) true none false none,PK.mk I6 false none false none]
noncomputable def Zlx(r:Bool):Tup Z7r×OutD:=((r,()),none)
noncomputable def ZlK:Tup Z7r×OutD→Option (Bool)
 |(a,none)=>some (a.1)
 |_=>none
theorem Zte: ∀b r,ZlK b=some r→Zlx r=b:=by
 rintro ⟨a,_|_⟩ r h<;>cases h;rfl
noncomputable def Zbj:Nat→Int×Int×List (Int×Int)→Int→Option Bool
 |0,_,_=>none
 |k+1,p0,p1=>
  Option.bind (Z3U k (p0.1,p0.2.1,p0.2.2)) fun z0=>if (!z0)=true then some false else if decide (p1<0)=true then some false else if decide (p1>p0.2.1)=true then some false else if decide (p0.2.1=1)=true then some true else if decide (p0.2.1=2)=true then some true else if decide (p0.2.1=4)=true then some true else some (decide (p0.2.1=8))
noncomputable def Z2x:FnDef:= .of ZmP Z7r (Bool) (fun k x=>Zbj k x.1 x.2.1) Zlx ZlK Zte
noncomputable def Zgo:Code:=Tryz.f35.body.getD .skip
noncomputable def Zbm:Ctx (Tup Z7r×OutD):={T:=T,G:=[(38,Z1A.E)],mvs:=[],no:=0,n:=36,res:=resOf T ZmP Z7r Tryz.f35.results.toList,loops:=[],regs:=[],conds:=[],cuts:=[]}
theorem ZAi(k:Nat):EnvOK Tryz.prog k Zbm.G:=(EnvOK.cons (Z90 k) (EnvOK.nil mixed))
theorem ZAI(k:Nat)(x:Tup Z2x.ps):Z2x.f (k+1) x=fnK Z2x Zbm Zgo k x:=by kernel_rfl
theorem ZA8(x:Tup Z2x.ps):Z2x.f 0 x=none:=by kernel_rfl
theorem ZAL(k:Nat):LOK Tryz.prog Zbm k Zgo:=LOK.by [] (by kernel_rfl) AllOK.nil
theorem ZzV(k:Nat):SoundAt Tryz.prog k 35 Z2x.E:= @Z5 Tryz.prog Z2x Zbm 35 Tryz.f35 Zgo (by kernel_rfl) (by kernel_rfl) (by kernel_rfl) Tryz.func35 (by kernel_rfl) (by kernel_rfl) (by kernel_rfl) T_ok ZAi ZAL ZA8 ZAI k
noncomputable def Zbh:List PK:=[PK.mk .bool false none false none]
noncomputable def Zqr:List PK:=[PK.mk (.pair I6 (.pair I6 (.slice 76 P6))) true none false none,PK.mk I6 false none false none]
noncomputable def Zpb(r:Bool):Tup Zbh×OutD:=((r,()),none)
noncomputable def Zpg:Tup Zbh×OutD→Option (Bool)
 |(a,none)=>some (a.1)
 |_=>none
theorem ZxR: ∀b r,Zpg b=some r→Zpb r=b:=by
 rintro ⟨a,_|_⟩ r h<;>cases h;rfl
noncomputable def Zes:Nat→Int×Int×List (Int×Int)→Int→Option Bool
 |0,_,_=>none
 |k+1,p0,p1=>
  Option.bind (Z3U k (p0.1,p0.2.1,p0.2.2)) fun z0=>if z0=true then if decide (p1≥0)=true then some (decide (p1<p0.2.1)) else some false else some false
noncomputable def Z4a:FnDef:= .of Zqr Zbh (Bool) (fun k x=>Zes k x.1 x.2.1) Zpb Zpg ZxR
noncomputable def ZjE:Code:=Tryz.f39.body.getD .skip
noncomputable def ZeL:Ctx (Tup Zbh×OutD):={T:=T,G:=[(38,Z1A.E)],mvs:=[],no:=0,n:=17,res:=resOf T Zqr Zbh Tryz.f39.results.toList,loops:=[],regs:=[],conds:=[],cuts:=[]}
theorem ZIB(k:Nat):EnvOK Tryz.prog k ZeL.G:=(EnvOK.cons (Z90 k) (EnvOK.nil mixed))
theorem ZH1(k:Nat)(x:Tup Z4a.ps):Z4a.f (k+1) x=fnK Z4a ZeL ZjE k x:=by kernel_rfl
theorem ZHd(x:Tup Z4a.ps):Z4a.f 0 x=none:=by kernel_rfl
theorem ZHQ(k:Nat):LOK Tryz.prog ZeL k ZjE:=LOK.by [] (by kernel_rfl) AllOK.nil
theorem ZHk(k:Nat):SoundAt Tryz.prog k 39 Z4a.E:= @Z5 Tryz.prog Z4a ZeL 39 Tryz.f39 ZjE (by kernel_rfl) (by kernel_rfl) (by kernel_rfl) Tryz.func39 (by kernel_rfl) (by kernel_rfl) (by kernel_rfl) T_ok ZIB ZHQ ZHd ZH1 k
noncomputable def ZbQ:List PK:=[PK.mk .bool false none false none]
noncomputable def ZyM:List PK:=[PK.mk (.pair I6 (.pair I6 (.pair (.slice 76 P6) (.pair (.slice 3 I6) (.slice 3 I6))))) true none false none,PK.mk (.pair I6 (.pair I6 (.slice 76 P6))) true none false none]
noncomputable def ZmU(r:Bool):Tup ZbQ×OutD:=((r,()),none)
noncomputable def ZmL:Tup ZbQ×OutD→Option (Bool)
 |(a,none)=>some (a.1)
 |_=>none
theorem ZpC: ∀b r,ZmL b=some r→ZmU r=b:=by
 rintro ⟨a,_|_⟩ r h<;>cases h;rfl
noncomputable def Z8z:Nat→Int→Int→List (Int×Int)→List Int→List Int→Int→Int→List (Int×Int)→Int→Int→List (Int×Int)→List Int→List Int→Int→Int→Option (LR Unit Bool)
 |0,_,_,_,_,_,_,_,_,_,_,_,_,_,_,_=>none
 |k+1,b1_0,b1_1,b1_2,b1_3,b1_4,b2_0,b2_1,b2_2,b3_0,b3_1,o4,o5,v16,v17,v18=>
  if decide (v18<v17)=true then if (0:Int)≤v18 then if v18<(↑(List.length v16):Int) then Option.bind (Z9Q k (b3_0,b3_1,o4) o5 (List.getD v16 (Int.toNat v18) (0:Int))) fun z2=>if (0:Int)≤v18 then if v18<(↑(List.length b1_4):Int) then Option.bind (ZfM k (b2_0,b2_1,b2_2) (z2.1.1,z2.1.2.1,z2.1.2.2)) fun z3=>if decide (z3≠List.getD b1_4 (Int.toNat v18) (0:Int))=true then some (LR.ret false) else Z8z k b1_0 b1_1 b1_2 b1_3 b1_4 b2_0 b2_1 b2_2 b3_0 b3_1 z2.2.2 o5 v16 v17 (wrap64 (v18+1)) else none else none else none else none else some (LR.go ())
noncomputable def ZjK:Spec:=Spec.mk [.ro,O4,O2,O6,O0,O1] [(2,.at (.ptr 1 0)),(3,.at (.ptr 2 0)),(5,.at (.ptr 3 0)),(6,.at (.sl 5)),(16,.at (.snap 0 I6)),(17,.at (.int .i64)),(18,.at (.int .i64))]
noncomputable def ZI6:Spec:=Spec.mk [.ro] []
noncomputable def Z7H:LoopDef (Tup ZbQ×OutD):= .rets ZjK ZI6 (Unit) (Bool) (fun k x=>Z8z k x.1.2.1.1 x.1.2.1.2.1 x.1.2.1.2.2.1 x.1.2.1.2.2.2.1 x.1.2.1.2.2.2.2.1 x.1.2.2.1.1 x.1.2.2.1.2.1 x.1.2.2.1.2.2.1 x.1.2.2.2.1.1 x.1.2.2.2.1.2.1 x.1.2.2.2.2.1 x.1.2.2.2.2.2.1 x.2.2.2.2.2.1 x.2.2.2.2.2.2.1 x.2.2.2.2.2.2.2.1) (fun z=>(((),()),(()))) (fun y=>()) (fun _=>rfl) ZmU ZmL ZpC
noncomputable def Zf6:Nat→Int×Int×List (Int×Int)×List Int×List Int→Int×Int×List (Int×Int)→Option Bool
 |0,_,_=>none
 |k+1,p0,p1=>
  Option.bind (Z4P k (p1.1,p1.2.1,p1.2.2)) fun z0=>Option.bind (Z24 k (p1.1,p1.2.1,p1.2.2)) fun z1=>Option.bind (Z8z k p0.1 p0.2.1 p0.2.2.1 p0.2.2.2.1 p0.2.2.2.2 p1.1 p1.2.1 p1.2.2 z0.1 z0.2.1 z0.2.2 z1 p0.2.2.2.1 (↑(List.length p0.2.2.2.1):Int) (0:Int)) fun z4=>LR.on z4 (fun y4=>some true) fun r4=>some r4
noncomputable def Z55:FnDef:= .of ZyM ZbQ (Bool) (fun k x=>Zf6 k x.1 x.2.1) ZmU ZmL ZpC
noncomputable def Zj1:Code:=Tryz.f49.body.getD .skip
noncomputable def Z9k:Ctx (Tup ZbQ×OutD):={T:=T,G:=[(41,Z2H.E),(42,Z1D.E),(40,Z9v.E),(82,Z4M.E)],mvs:=[],no:=0,n:=40,res:=resOf T ZyM ZbQ Tryz.f49.results.toList,loops:=[(0,Z7H.E)],regs:=[],conds:=[],cuts:=[]}
theorem ZyO(k:Nat):EnvOK Tryz.prog k Z9k.G:=(EnvOK.cons (Zl6 k) (EnvOK.cons (ZgW k) (EnvOK.cons (ZJh k) (EnvOK.cons (ZJZ k) (EnvOK.nil mixed)))))
noncomputable def ZeE:Code:=(findLoop 0 Zj1).getD .skip
theorem ZGU(k:Nat)(x:ZjK.D):Z7H.lp (k+1) x=loopK Z9k Z7H 0 ZeE k x:=by kernel_rfl
theorem ZIh(k:Nat):LOK Tryz.prog Z9k k ZeE:=LOK.by [] (by kernel_rfl) AllOK.nil
theorem ZIl(x:ZjK.D):Z7H.lp 0 x=none:=by kernel_rfl
theorem ZEu(k:Nat):EOK Tryz.prog Z9k k Z7H.E (.block 0 (.loop ZeE)):=Zd T_ok ZyO ZIl ZGU ZIh k
theorem ZOE(k:Nat)(x:Tup Z55.ps):Z55.f (k+1) x=fnK Z55 Z9k Zj1 k x:=by kernel_rfl
theorem ZOj(x:Tup Z55.ps):Z55.f 0 x=none:=by kernel_rfl
theorem ZOT(k:Nat):LOK Tryz.prog Z9k k Zj1:=LOK.by [(Z7H.E,.block 0 (.loop ZeE))] (by kernel_rfl) (AllOK.cons (ZEu k) AllOK.nil)
theorem Zxr(k:Nat):SoundAt Tryz.prog k 49 Z55.E:= @Z5 Tryz.prog Z55 Z9k 49 Tryz.f49 Zj1 (by kernel_rfl) (by kernel_rfl) (by kernel_rfl) Tryz.func49 (by kernel_rfl) (by kernel_rfl) (by kernel_rfl) T_ok ZyO ZOT ZOj ZOE k
noncomputable def Z5Q:List PK:=[PK.mk .bool false none false none]
noncomputable def Znp:List PK:=[PK.mk (.pair I6 (.pair I6 (.slice 76 P6))) true none false none,PK.mk (.slice 3 I6) false none false none]
noncomputable def ZfG(r:Bool):Tup Z5Q×OutD:=((r,()),none)
noncomputable def ZfC:Tup Z5Q×OutD→Option (Bool)
 |(a,none)=>some (a.1)
 |_=>none
theorem Zj7: ∀b r,ZfC b=some r→ZfG r=b:=by
 rintro ⟨a,_|_⟩ r h<;>cases h;rfl
noncomputable def Z4J:Nat→Int→Int→List (Int×Int)→List Int→Int→Int→Option (LR Unit Bool)
 |0,_,_,_,_,_,_=>none
 |k+1,b1_0,b1_1,b1_2,v15,v16,v17=>
  if decide (v17<v16)=true then if (0:Int)≤v17 then if v17<(↑(List.length v15):Int) then if decide (List.getD v15 (Int.toNat v17) (0:Int)<0)=true then some (LR.ret false) else if decide (List.getD v15 (Int.toNat v17) (0:Int)≥b1_1)=true then some (LR.ret false) else Z4J k b1_0 b1_1 b1_2 v15 v16 (wrap64 (v17+1)) else none else none else some (LR.go ())
noncomputable def ZdY:Spec:=Spec.mk [.ro,O2] [(2,.at (.ptr 1 0)),(15,.at (.snap 0 I6)),(16,.at (.int .i64)),(17,.at (.int .i64))]
noncomputable def Zw0:Spec:=Spec.mk [.ro] []
noncomputable def Z40:LoopDef (Tup Z5Q×OutD):= .rets ZdY Zw0 (Unit) (Bool) (fun k x=>Z4J k x.1.2.1.1 x.1.2.1.2.1 x.1.2.1.2.2.1 x.2.2.1 x.2.2.2.1 x.2.2.2.2.1) (fun z=>(((),()),(()))) (fun y=>()) (fun _=>rfl) ZfG ZfC Zj7
noncomputable def Z8w:Nat→Int×Int×List (Int×Int)→List Int→Option Bool
 |0,_,_=>none
 |k+1,p0,p1=>
  Option.bind (Z3U k (p0.1,p0.2.1,p0.2.2)) fun z0=>if (!z0)=true then some false else if decide ((↑(List.length p1):Int)>60)=true then some false else Option.bind (Z4J k p0.1 p0.2.1 p0.2.2 p1 (↑(List.length p1):Int) (0:Int)) fun z1=>LR.on z1 (fun y1=>some true) fun r1=>some r1
noncomputable def Z25:FnDef:= .of Znp Z5Q (Bool) (fun k x=>Z8w k x.1 x.2.1) ZfG ZfC Zj7
noncomputable def ZcH:Code:=Tryz.f58.body.getD .skip
noncomputable def Z4g:Ctx (Tup Z5Q×OutD):={T:=T,G:=[(38,Z1A.E)],mvs:=[],no:=0,n:=30,res:=resOf T Znp Z5Q Tryz.f58.results.toList,loops:=[(0,Z40.E)],regs:=[],conds:=[],cuts:=[]}
theorem Znm(k:Nat):EnvOK Tryz.prog k Z4g.G:=(EnvOK.cons (Z90 k) (EnvOK.nil mixed))
noncomputable def Z9M:Code:=(findLoop 0 ZcH).getD .skip
theorem Zxn(k:Nat)(x:ZdY.D):Z40.lp (k+1) x=loopK Z4g Z40 0 Z9M k x:=by kernel_rfl
theorem Zwo(k:Nat):LOK Tryz.prog Z4g k Z9M:=LOK.by [] (by kernel_rfl) AllOK.nil
theorem ZwN(x:ZdY.D):Z40.lp 0 x=none:=by kernel_rfl
theorem ZtY(k:Nat):EOK Tryz.prog Z4g k Z40.E (.block 0 (.loop Z9M)):=Zd T_ok Znm ZwN Zxn Zwo k
theorem ZDV(k:Nat)(x:Tup Z25.ps):Z25.f (k+1) x=fnK Z25 Z4g ZcH k x:=by kernel_rfl
theorem ZCE(x:Tup Z25.ps):Z25.f 0 x=none:=by kernel_rfl
theorem ZCR(k:Nat):LOK Tryz.prog Z4g k ZcH:=LOK.by [(Z40.E,.block 0 (.loop Z9M))] (by kernel_rfl) (AllOK.cons (ZtY k) AllOK.nil)
theorem ZnC(k:Nat):SoundAt Tryz.prog k 58 Z25.E:= @Z5 Tryz.prog Z25 Z4g 58 Tryz.f58 ZcH (by kernel_rfl) (by kernel_rfl) (by kernel_rfl) Tryz.func58 (by kernel_rfl) (by kernel_rfl) (by kernel_rfl) T_ok Znm ZCR ZCE ZDV k
noncomputable def Z6B:List PK:=[PK.mk (.slice 40 T6) false none false none,PK.mk (.pair I6 (.pair I6 (.slice 76 P6))) true none false none]
noncomputable def ZpL:List PK:=[PK.mk (.pair I6 (.pair I6 (.slice 76 P6))) true none false none,PK.mk (.slice 58 T6) false none false none,PK.mk (.slice 3 I6) false none false none]
noncomputable def Znj(r:List (Int×Int×Int)×Int×Int×List (Int×Int)):Tup Z6B×OutD:=((r.1,r.2,()),none)
noncomputable def Znu:Tup Z6B×OutD→Option (List (Int×Int×Int)×Int×Int×List (Int×Int))
 |(a,none)=>some (a.1,a.2.1)
 |_=>none
theorem Zxb: ∀b r,Znu b=some r→Znj r=b:=by
 rintro ⟨a,_|_⟩ r h<;>cases h;rfl
noncomputable def Z5i:Nat→Int→Int→List (Int×Int)→Int→Int→List (Int×Int)→List Int→List Int→List (Int×Int×Int)→List Int→Int→Int→Option (Int×Int×List (Int×Int)×Int×Int×List (Int×Int)×List (Int×Int×Int))
 |0,_,_,_,_,_,_,_,_,_,_,_,_=>none
 |k+1,b1_0,b1_1,o2,b3_0,b3_1,o4,o5,o6,o7,v22,v23,v24=>
  if decide (v24<v23)=true then if (0:Int)≤v24 then if v24<(↑(List.length v22):Int) then Option.bind (ZeF k (b3_0,b3_1,o4) o5 o6 (List.getD v22 (Int.toNat v24) (0:Int))) fun z3=>if List.length o7+List.length [(z3.1.1,z3.1.2.1,z3.1.2.2)]≤(140737488355328/24:Nat) then Z5i k b1_0 b1_1 o2 b3_0 b3_1 z3.2 o5 o6 (o7++[(z3.1.1,z3.1.2.1,z3.1.2.2)]) v22 v23 (wrap64 (v24+1)) else none else none else none else some (b1_0,b1_1,o2,b3_0,b3_1,o4,o7)
noncomputable def Zfm:Spec:=Spec.mk [.ro,Obq,O0,O6,O0,O1,O1,Om] [(7,.at (.ptr 1 0)),(8,.at (.ptr 3 0)),(9,.at (.sl 5)),(10,.at (.sl 6)),(11,.at (.sl 7)),(22,.at (.snap 0 I6)),(23,.at (.int .i64)),(24,.at (.int .i64))]
noncomputable def Zyw:Spec:=Spec.mk [.ro,Obq,O0,O6,O0,Om] [(7,.at (.ptr 1 0)),(8,.at (.ptr 3 0)),(11,.at (.sl 5))]
noncomputable def Z4H:LoopDef (Tup Z6B×OutD):= .plain Zfm Zyw (Int×Int×List (Int×Int)×Int×Int×List (Int×Int)×List (Int×Int×Int)) (fun k x=>Z5i k x.1.2.1.1 x.1.2.1.2.1 x.1.2.2.1 x.1.2.2.2.1.1 x.1.2.2.2.1.2.1 x.1.2.2.2.2.1 x.1.2.2.2.2.2.1 x.1.2.2.2.2.2.2.1 x.1.2.2.2.2.2.2.2.1 x.2.2.2.2.2.2.1 x.2.2.2.2.2.2.2.1 x.2.2.2.2.2.2.2.2.1) (fun z=>(((),(z.1,z.2.1,(),()),z.2.2.1,(z.2.2.2.1,z.2.2.2.2.1,(),()),z.2.2.2.2.2.1,z.2.2.2.2.2.2,()),((),(),(),()))) (fun y=>(y.1.2.1.1,y.1.2.1.2.1,y.1.2.2.1,y.1.2.2.2.1.1,y.1.2.2.2.1.2.1,y.1.2.2.2.2.1,y.1.2.2.2.2.2.1)) (fun _=>rfl)
noncomputable def Z9V:Nat→Int×Int×List (Int×Int)→List (Int×Int×Int)→List Int→Option (List (Int×Int×Int)×Int×Int×List (Int×Int))
 |0,_,_,_=>none
 |k+1,p0,p1,p2=>
  Option.bind (Z4P k (p0.1,p0.2.1,p0.2.2)) fun z0=>Option.bind (Z24 k (p0.1,p0.2.1,p0.2.2)) fun z1=>Option.bind (ZcC k (p0.1,p0.2.1,p0.2.2) p1) fun z2=>Option.bind (Z5i k (0:Int) (0:Int) [] z0.1 z0.2.1 z0.2.2 z1 z2 [] p2 (↑(List.length p2):Int) (0:Int)) fun z4=>some (z4.2.2.2.2.2.2,z4.2.2.2.1,z4.2.2.2.2.1,z4.2.2.2.2.2.1)
noncomputable def Z2B:FnDef:= .of ZpL Z6B (List (Int×Int×Int)×Int×Int×List (Int×Int)) (fun k x=>Z9V k x.1 x.2.1 x.2.2.1) Znj Znu Zxb
noncomputable def ZdI:Code:=Tryz.f59.body.getD .skip
noncomputable def Z4T:Ctx (Tup Z6B×OutD):={T:=T,G:=[(41,Z2H.E),(42,Z1D.E),(93,Z2U.E),(94,Z47.E)],mvs:=[],no:=0,n:=39,res:=resOf T ZpL Z6B Tryz.f59.results.toList,loops:=[(0,Z4H.E)],regs:=[],conds:=[],cuts:=[]}
theorem Zpz(k:Nat):EnvOK Tryz.prog k Z4T.G:=(EnvOK.cons (Zl6 k) (EnvOK.cons (ZgW k) (EnvOK.cons (ZDu k) (EnvOK.cons (ZHI k) (EnvOK.nil mixed)))))
noncomputable def Zad:Code:=(findLoop 0 ZdI).getD .skip
theorem Zye(k:Nat)(x:Zfm.D):Z4H.lp (k+1) x=loopK Z4T Z4H 0 Zad k x:=by kernel_rfl
theorem ZxX(k:Nat):LOK Tryz.prog Z4T k Zad:=LOK.by [] (by kernel_rfl) AllOK.nil
theorem Zxs(x:Zfm.D):Z4H.lp 0 x=none:=by kernel_rfl
theorem ZwH(k:Nat):EOK Tryz.prog Z4T k Z4H.E (.block 0 (.loop Zad)):=Zd T_ok Zpz Zxs Zye ZxX k
theorem ZEp(k:Nat)(x:Tup Z2B.ps):Z2B.f (k+1) x=fnK Z2B Z4T ZdI k x:=by kernel_rfl
theorem ZFx(x:Tup Z2B.ps):Z2B.f 0 x=none:=by kernel_rfl
theorem ZFZ(k:Nat):LOK Tryz.prog Z4T k ZdI:=LOK.by [(Z4H.E,.block 0 (.loop Zad))] (by kernel_rfl) (AllOK.cons (ZwH k) AllOK.nil)
theorem Zp8(k:Nat):SoundAt Tryz.prog k 59 Z2B.E:= @Z5 Tryz.prog Z2B Z4T 59 Tryz.f59 ZdI (by kernel_rfl) (by kernel_rfl) (by kernel_rfl) Tryz.func59 (by kernel_rfl) (by kernel_rfl) (by kernel_rfl) T_ok Zpz ZFZ ZFx ZEp k
noncomputable def Z3o:List PK:=[PK.mk (.slice 58 T6) false none false none]
noncomputable def Zly:List PK:=[PK.mk (.pair I6 (.pair I6 (.slice 76 P6))) true none false none]
noncomputable def Zk6(r:List (Int×Int×Int)):Tup Z3o×OutD:=((r,()),none)
noncomputable def Zk4:Tup Z3o×OutD→Option (List (Int×Int×Int))
 |(a,none)=>some (a.1)
 |_=>none
theorem Zr4: ∀b r,Zk4 b=some r→Zk6 r=b:=by
 rintro ⟨a,_|_⟩ r h<;>cases h;rfl
noncomputable def Z1h:Nat→Int→Int→List (Int×Int)→List (Int×Int×Int)→Int→Int→Int→Int→List (Int×Int)→Int→Int→Option (Int×Int×List (Int×Int)×List (Int×Int×Int)×List (Int×Int)×Int×Int)
 |0,_,_,_,_,_,_,_,_,_,_,_=>none
 |k+1,b1_0,b1_1,b1_2,o2,b3_0,b3_1,v4,v6,v9,v10,v11=>
  if decide (v6≤3)=true then Option.bind (ZeY k (b3_0,b3_1) v6) fun z0=>if z0=true then if b1_1=0 then none else if b1_1=0 then none else if List.length o2+List.length [(v6,wrap64 (Int.tdiv v4 b1_1),Int.tmod v4 b1_1)]≤(140737488355328/24:Nat) then Z1h k b1_0 b1_1 b1_2 (o2++[(v6,wrap64 (Int.tdiv v4 b1_1),Int.tmod v4 b1_1)]) b3_0 b3_1 v4 (wrap64 (v6+1)) v9 v10 v11 else none else Z1h k b1_0 b1_1 b1_2 o2 b3_0 b3_1 v4 (wrap64 (v6+1)) v9 v10 v11 else some (b1_0,b1_1,b1_2,o2,v9,v10,v11)
noncomputable def Zcb:Spec:=Spec.mk [.ro,O2,Og,Ol] [(1,.at (.ptr 1 0)),(3,.at (.sl 2)),(4,.at (.int .i64)),(5,.at (.ptr 3 0)),(6,.at (.int .i64)),(9,.at (.snap 0 P6)),(10,.at (.int .i64)),(11,.at (.int .i64))]
noncomputable def Zso:Spec:=Spec.mk [.ro,O2,Og] [(1,.at (.ptr 1 0)),(3,.at (.sl 2)),(9,.at (.snap 0 P6)),(10,.at (.int .i64)),(11,.at (.int .i64))]
noncomputable def Z3e:LoopDef (Tup Z3o×OutD):= .plain Zcb Zso (Int×Int×List (Int×Int)×List (Int×Int×Int)×List (Int×Int)×Int×Int) (fun k x=>Z1h k x.1.2.1.1 x.1.2.1.2.1 x.1.2.1.2.2.1 x.1.2.2.1 x.1.2.2.2.1.1 x.1.2.2.2.1.2.1 x.2.2.2.1 x.2.2.2.2.2.1 x.2.2.2.2.2.2.1 x.2.2.2.2.2.2.2.1 x.2.2.2.2.2.2.2.2.1) (fun z=>(((),(z.1,z.2.1,z.2.2.1,()),z.2.2.2.1,()),((),(),z.2.2.2.2.1,z.2.2.2.2.2.1,z.2.2.2.2.2.2,()))) (fun y=>(y.1.2.1.1,y.1.2.1.2.1,y.1.2.1.2.2.1,y.1.2.2.1,y.2.2.2.1,y.2.2.2.2.1,y.2.2.2.2.2.1)) (fun _=>rfl)
noncomputable def Z2n:Nat→Int→Int→List (Int×Int)→List (Int×Int×Int)→List (Int×Int)→Int→Int→Option (List (Int×Int×Int))
 |0,_,_,_,_,_,_,_=>none
 |k+1,b1_0,b1_1,b1_2,o2,v9,v10,v11=>
  if decide (v11<v10)=true then if (0:Int)≤v11 then if v11<(↑(List.length v9):Int) then Option.bind (Z1h k b1_0 b1_1 b1_2 o2 (Prod.fst (List.getD v9 (Int.toNat v11) ((0:Int),(0:Int)))) (Prod.snd (List.getD v9 (Int.toNat v11) ((0:Int),(0:Int)))) v11 (1:Int) v9 v10 v11) fun z1=>Z2n k z1.1 z1.2.1 z1.2.2.1 z1.2.2.2.1 z1.2.2.2.2.1 z1.2.2.2.2.2.1 (wrap64 (z1.2.2.2.2.2.2+1)) else none else none else some o2
noncomputable def Zcp:Spec:=Spec.mk [.ro,O2,Og] [(1,.at (.ptr 1 0)),(3,.at (.sl 2)),(9,.at (.snap 0 P6)),(10,.at (.int .i64)),(11,.at (.int .i64))]
noncomputable def Zs0:Spec:=Spec.mk [.ro,Og] [(3,.at (.sl 1))]
noncomputable def Z3r:LoopDef (Tup Z3o×OutD):= .plain Zcp Zs0 (List (Int×Int×Int)) (fun k x=>Z2n k x.1.2.1.1 x.1.2.1.2.1 x.1.2.1.2.2.1 x.1.2.2.1 x.2.2.2.1 x.2.2.2.2.1 x.2.2.2.2.2.1) (fun z=>(((),z,()),((),()))) (fun y=>(y.1.2.1)) (fun _=>rfl)
noncomputable def Zaj:Nat→Int×Int×List (Int×Int)→Option (List (Int×Int×Int))
 |0,_=>none
 |k+1,p0=>
  Option.bind (Z2n k p0.1 p0.2.1 p0.2.2 [] p0.2.2 (↑(List.length p0.2.2):Int) (0:Int)) fun z2=>some z2
noncomputable def Z2d:FnDef:= .of Zly Z3o (List (Int×Int×Int)) (fun k x=>Zaj k x.1) Zk6 Zk4 Zr4
noncomputable def Z6D:Code:=Tryz.f86.body.getD .skip
noncomputable def Z1d:Ctx (Tup Z3o×OutD):={T:=T,G:=[(91,Z58.E)],mvs:=[],no:=0,n:=38,res:=resOf T Zly Z3o Tryz.f86.results.toList,loops:=[(2,Z3e.E),(0,Z3r.E)],regs:=[],conds:=[],cuts:=[]}
theorem Zfd(k:Nat):EnvOK Tryz.prog k Z1d.G:=(EnvOK.cons (ZyR k) (EnvOK.nil mixed))
noncomputable def Z74:Code:=(findLoop 2 Z6D).getD .skip
theorem ZsW(k:Nat)(x:Zcb.D):Z3e.lp (k+1) x=loopK Z1d Z3e 2 Z74 k x:=by kernel_rfl
theorem Zt8(k:Nat):LOK Tryz.prog Z1d k Z74:=LOK.by [] (by kernel_rfl) AllOK.nil
theorem Ztj(x:Zcb.D):Z3e.lp 0 x=none:=by kernel_rfl
theorem Zru(k:Nat):EOK Tryz.prog Z1d k Z3e.E (.block 2 (.loop Z74)):=Zd T_ok Zfd Ztj ZsW Zt8 k
noncomputable def Z6Z:Code:=(findLoop 0 Z6D).getD .skip
theorem Zsk(k:Nat)(x:Zcp.D):Z3r.lp (k+1) x=loopK Z1d Z3r 0 Z6Z k x:=by kernel_rfl
theorem ZsN(k:Nat):LOK Tryz.prog Z1d k Z6Z:=LOK.by [(Z3e.E,.block 2 (.loop Z74))] (by kernel_rfl) (AllOK.cons (Zru k) AllOK.nil)
theorem ZsA(x:Zcp.D):Z3r.lp 0 x=none:=by kernel_rfl
theorem Zrg(k:Nat):EOK Tryz.prog Z1d k Z3r.E (.block 0 (.loop Z6Z)):=Zd T_ok Zfd ZsA Zsk ZsN k
theorem Zyz(k:Nat)(x:Tup Z2d.ps):Z2d.f (k+1) x=fnK Z2d Z1d Z6D k x:=by kernel_rfl
theorem Zzw(x:Tup Z2d.ps):Z2d.f 0 x=none:=by kernel_rfl
theorem Zz9(k:Nat):LOK Tryz.prog Z1d k Z6D:=LOK.by [(Z3r.E,.block 0 (.loop Z6Z))] (by kernel_rfl) (AllOK.cons (Zrg k) AllOK.nil)
theorem Zzo(k:Nat):SoundAt Tryz.prog k 86 Z2d.E:= @Z5 Tryz.prog Z2d Z1d 86 Tryz.f86 Z6D (by kernel_rfl) (by kernel_rfl) (by kernel_rfl) Tryz.func86 (by kernel_rfl) (by kernel_rfl) (by kernel_rfl) T_ok Zfd Zz9 Zzw Zyz k
noncomputable def Zf5:List PK:=[PK.mk .bool false none false none]
noncomputable def ZyJ:List PK:=[PK.mk (.pair I6 (.pair I6 (.slice 76 P6))) true none false none]
noncomputable def Zvv(r:Bool):Tup Zf5×OutD:=((r,()),none)
noncomputable def Zv0:Tup Zf5×OutD→Option (Bool)
 |(a,none)=>some (a.1)
 |_=>none
theorem ZFP: ∀b r,Zv0 b=some r→Zvv r=b:=by
 rintro ⟨a,_|_⟩ r h<;>cases h;rfl
noncomputable def ZiM:Nat→Int×Int×List (Int×Int)→Option Bool
 |0,_=>none
 |k+1,p0=>
  Option.bind (Zgs k (p0.1,p0.2.1,p0.2.2)) fun z0=>if z0=true then some (decide ((↑(List.length p0.2.2):Int)≤24)) else some false
noncomputable def Z6s:FnDef:= .of ZyJ Zf5 (Bool) (fun k x=>ZiM k x.1) Zvv Zv0 ZFP
noncomputable def Zo3:Code:=Tryz.f87.body.getD .skip
noncomputable def Zix:Ctx (Tup Zf5×OutD):={T:=T,G:=[(110,Z6c.E)],mvs:=[],no:=0,n:=11,res:=resOf T ZyJ Zf5 Tryz.f87.results.toList,loops:=[],regs:=[],conds:=[],cuts:=[]}
theorem ZNC(k:Nat):EnvOK Tryz.prog k Zix.G:=(EnvOK.cons (ZCg k) (EnvOK.nil mixed))
theorem ZOS(k:Nat)(x:Tup Z6s.ps):Z6s.f (k+1) x=fnK Z6s Zix Zo3 k x:=by kernel_rfl
theorem ZNY(x:Tup Z6s.ps):Z6s.f 0 x=none:=by kernel_rfl
theorem ZNr(k:Nat):LOK Tryz.prog Zix k Zo3:=LOK.by [] (by kernel_rfl) AllOK.nil
theorem ZNs(k:Nat):SoundAt Tryz.prog k 87 Z6s.E:= @Z5 Tryz.prog Z6s Zix 87 Tryz.f87 Zo3 (by kernel_rfl) (by kernel_rfl) (by kernel_rfl) Tryz.func87 (by kernel_rfl) (by kernel_rfl) (by kernel_rfl) T_ok ZNC ZNr ZNY ZOS k
noncomputable def Zfr:List PK:=[PK.mk .bool false none false none]
noncomputable def Zzd:List PK:=[PK.mk (.pair I6 (.pair I6 (.slice 76 P6))) true none false none,PK.mk I6 false none false none,PK.mk I6 false none false none]
noncomputable def Zv4(r:Bool):Tup Zfr×OutD:=((r,()),none)
noncomputable def ZuA:Tup Zfr×OutD→Option (Bool)
 |(a,none)=>some (a.1)
 |_=>none
theorem ZEW: ∀b r,ZuA b=some r→Zv4 r=b:=by
 rintro ⟨a,_|_⟩ r h<;>cases h;rfl
noncomputable def ZiL:Nat→Int×Int×List (Int×Int)→Int→Int→Option Bool
 |0,_,_,_=>none
 |k+1,p0,p1,p2=>
  Option.bind (Z3U k (p0.1,p0.2.1,p0.2.2)) fun z0=>if z0=true then if decide (p1≥0)=true then if decide (p1<p0.1)=true then if decide (p2≥0)=true then some (decide (p2<p0.2.1)) else some false else some false else some false else some false
noncomputable def Z6P:FnDef:= .of Zzd Zfr (Bool) (fun k x=>ZiL k x.1 x.2.1 x.2.2.1) Zv4 ZuA ZEW
noncomputable def ZoM:Code:=Tryz.f90.body.getD .skip
noncomputable def Zj0:Ctx (Tup Zfr×OutD):={T:=T,G:=[(38,Z1A.E)],mvs:=[],no:=0,n:=29,res:=resOf T Zzd Zfr Tryz.f90.results.toList,loops:=[],regs:=[],conds:=[],cuts:=[]}
theorem ZNq(k:Nat):EnvOK Tryz.prog k Zj0.G:=(EnvOK.cons (Z90 k) (EnvOK.nil mixed))
theorem ZNV(k:Nat)(x:Tup Z6P.ps):Z6P.f (k+1) x=fnK Z6P Zj0 ZoM k x:=by kernel_rfl
theorem ZNc(x:Tup Z6P.ps):Z6P.f 0 x=none:=by kernel_rfl
theorem ZNk(k:Nat):LOK Tryz.prog Zj0 k ZoM:=LOK.by [] (by kernel_rfl) AllOK.nil
theorem ZNX(k:Nat):SoundAt Tryz.prog k 90 Z6P.E:= @Z5 Tryz.prog Z6P Zj0 90 Tryz.f90 ZoM (by kernel_rfl) (by kernel_rfl) (by kernel_rfl) Tryz.func90 (by kernel_rfl) (by kernel_rfl) (by kernel_rfl) T_ok ZNq ZNk ZNc ZNV k
noncomputable def Z3J:List PK:=[PK.mk (.pair I6 (.slice 3 I6)) true none false none]
noncomputable def Zna:List PK:=[PK.mk (.pair (.slice 5 (.int .u8)) (.pair I6 (.int .u64))) false none false (some 105),PK.mk I6 false none false none]
noncomputable def ZlF(r:(Int×List Int)×Int×Int):Tup Z3J×OutD:=((r.1,()),some ⟨Ty.pair (Ty.slice (5:Nat) (Ty.int .u8)) (Ty.pair (Ty.int .i64) (Ty.int .u64)),[([],r.2)]⟩)
noncomputable def Zfl:Tup Z3J×OutD→Option ((Int×List Int)×Int×Int)
 |(a,some ⟨u,ys⟩)=>if h:u=Ty.pair (Ty.slice (5:Nat) (Ty.int .u8)) (Ty.pair (Ty.int .i64) (Ty.int .u64)) then (match castU h ys with
  |[([],y)]=>some (a.1,y)
  |_=>none) else none
 |_=>none
theorem ZsQ: ∀b r,Zfl b=some r→ZlF r=b:=by
 rintro ⟨a,o⟩ r h
 cases o with
 |none=>cases h
 |some s=>
  obtain ⟨u,ys⟩:=s
  simp only[Zfl]at h
  split at h
  ·rename_i hu
   subst hu
   match ys,h with
   |[],h=>cases (show (none:Option _)=some r from h)
   |[([],y)],h=>injection (show some _=some r from h) with h;subst h;rfl
   |[(_::_,y)],h=>cases (show (none:Option _)=some r from h)
   |(h1,_)::_::_,h=>cases h1<;>cases (show (none:Option _)=some r from h)
  ·cases h
noncomputable def Z3X:Nat→Int→Int→List Int→Int→List Int→Int→List Int→Int→Int→Int→Int→Int→Option (Int×Int×List Int×Int×List Int×Int×List Int×Int×Int×Int×Int)
 |0,_,_,_,_,_,_,_,_,_,_,_,_=>none
 |k+1,b1_1,b1_2,o2,b3_0,o4,b5_0,o6,v1,v6,v7,v8,v9=>
  if decide (v9<v1)=true then Option.bind (Zmw k v7 v9) fun z1=>Z3X k b1_1 b1_2 o2 b3_0 o4 b5_0 o6 v1 v6 v7 (wrap64 (v8+z1)) (wrap64 (v9+1)) else some (b1_1,b1_2,o2,b3_0,o4,b5_0,o6,v1,v6,v7,v8)
noncomputable def Zd0:Spec:=Spec.mk [.ro,O3,Oc,Oj,O1,Ok,O1] [(0,.at (.ptr 1 0)),(1,.at (.int .i64)),(4,.at (.ptr 3 0)),(5,.at (.ptr 5 0)),(6,.at (.int .i64)),(7,.at (.int .i64)),(8,.at (.int .i64)),(9,.at (.int .i64))]
noncomputable def ZtP:Spec:=Spec.mk [.ro,O3,Oc,Oj,O1,Ok,O1] [(0,.at (.ptr 1 0)),(1,.at (.int .i64)),(4,.at (.ptr 3 0)),(5,.at (.ptr 5 0)),(6,.at (.int .i64)),(7,.at (.int .i64)),(8,.at (.int .i64))]
noncomputable def Z3B:LoopDef (Tup Z3J×OutD):= .plain Zd0 ZtP (Int×Int×List Int×Int×List Int×Int×List Int×Int×Int×Int×Int) (fun k x=>Z3X k x.1.2.1.2.1 x.1.2.1.2.2.1 x.1.2.2.1 x.1.2.2.2.1.1 x.1.2.2.2.2.1 x.1.2.2.2.2.2.1.1 x.1.2.2.2.2.2.2.1 x.2.2.1 x.2.2.2.2.2.1 x.2.2.2.2.2.2.1 x.2.2.2.2.2.2.2.1 x.2.2.2.2.2.2.2.2.1) (fun z=>(((),((),z.1,z.2.1,()),z.2.2.1,(z.2.2.2.1,(),()),z.2.2.2.2.1,(z.2.2.2.2.2.1,(),()),z.2.2.2.2.2.2.1,()),((),z.2.2.2.2.2.2.2.1,(),(),z.2.2.2.2.2.2.2.2.1,z.2.2.2.2.2.2.2.2.2.1,z.2.2.2.2.2.2.2.2.2.2,()))) (fun y=>(y.1.2.1.2.1,y.1.2.1.2.2.1,y.1.2.2.1,y.1.2.2.2.1.1,y.1.2.2.2.2.1,y.1.2.2.2.2.2.1.1,y.1.2.2.2.2.2.2.1,y.2.2.1,y.2.2.2.2.2.1,y.2.2.2.2.2.2.1,y.2.2.2.2.2.2.2.1)) (fun _=>rfl)
noncomputable def Z1p:Nat→Int→Int→List Int→Int→List Int→Int→List Int→Int→Int→Int→Option (Int×Int×List Int×Int×List Int×Int×List Int)
 |0,_,_,_,_,_,_,_,_,_,_=>none
 |k+1,b1_1,b1_2,o2,b3_0,o4,b5_0,o6,v1,v6,v7=>
  if IntKind.wrap IntKind.u64 v1<0 then none else if decide (v7<shlS (1:Int) (IntKind.wrap IntKind.u64 v1))=true then if decide (v6=8)=true then Option.bind (Z3X k b1_1 b1_2 o2 b3_0 o4 b5_0 o6 v1 v6 v7 (0:Int) (0:Int)) fun z2=>if List.length z2.2.2.2.2.2.2.1+List.length [Int.tmod (wrap64 (Int.tdiv z2.2.2.2.2.2.2.2.2.2.2 (2:Int))) (2:Int)]≤(140737488355328/8:Nat) then Z1p k z2.1 z2.2.1 z2.2.2.1 z2.2.2.2.1 z2.2.2.2.2.1 z2.2.2.2.2.2.1 (z2.2.2.2.2.2.2.1++[Int.tmod (wrap64 (Int.tdiv z2.2.2.2.2.2.2.2.2.2.2 (2:Int))) (2:Int)]) z2.2.2.2.2.2.2.2.1 z2.2.2.2.2.2.2.2.2.1 (wrap64 (z2.2.2.2.2.2.2.2.2.2.1+1)) else none else Option.bind (ZK k (o2,b1_1,b1_2) v6) fun z3=>if z3.1=true then if List.length o6+List.length [(1:Int)]≤(140737488355328/8:Nat) then Z1p k z3.2.1 z3.2.2 o2 b3_0 o4 b5_0 (o6++[(1:Int)]) v1 v6 (wrap64 (v7+1)) else none else if List.length o6+List.length [(0:Int)]≤(140737488355328/8:Nat) then Z1p k z3.2.1 z3.2.2 o2 b3_0 o4 b5_0 (o6++[(0:Int)]) v1 v6 (wrap64 (v7+1)) else none else some (b1_1,b1_2,o2,b3_0,o4,b5_0,o6)
noncomputable def Zd1:Spec:=Spec.mk [.ro,O3,Oc,Oj,O1,Ok,O1] [(0,.at (.ptr 1 0)),(1,.at (.int .i64)),(4,.at (.ptr 3 0)),(5,.at (.ptr 5 0)),(6,.at (.int .i64)),(7,.at (.int .i64))]
noncomputable def ZtT:Spec:=Spec.mk [.ro,O3,Oc,Oj,O1,Ok,O1] [(4,.at (.ptr 3 0)),(5,.at (.ptr 5 0))]
noncomputable def Z3D:LoopDef (Tup Z3J×OutD):= .plain Zd1 ZtT (Int×Int×List Int×Int×List Int×Int×List Int) (fun k x=>Z1p k x.1.2.1.2.1 x.1.2.1.2.2.1 x.1.2.2.1 x.1.2.2.2.1.1 x.1.2.2.2.2.1 x.1.2.2.2.2.2.1.1 x.1.2.2.2.2.2.2.1 x.2.2.1 x.2.2.2.2.2.1 x.2.2.2.2.2.2.1) (fun z=>(((),((),z.1,z.2.1,()),z.2.2.1,(z.2.2.2.1,(),()),z.2.2.2.2.1,(z.2.2.2.2.2.1,(),()),z.2.2.2.2.2.2,()),((),(),()))) (fun y=>(y.1.2.1.2.1,y.1.2.1.2.2.1,y.1.2.2.1,y.1.2.2.2.1.1,y.1.2.2.2.2.1,y.1.2.2.2.2.2.1.1,y.1.2.2.2.2.2.2.1)) (fun _=>rfl)
noncomputable def Z70:Nat→List Int×Int×Int→Int→Option ((Int×List Int)×Int×Int)
 |0,_,_=>none
 |k+1,p0,p1=>
  Option.bind (Zb k (p0.1,p0.2.1,p0.2.2) [(2:Int),(2:Int),(4:Int),(8:Int)]) fun z0=>Option.bind (Z1p k z0.2.1 z0.2.2 p0.1 (0:Int) [] p1 [] p1 z0.1 (0:Int)) fun z4=>some ((z4.2.2.2.2.2.1,z4.2.2.2.2.2.2),z4.1,z4.2.1)
noncomputable def Z1N:FnDef:= .of Zna Z3J ((Int×List Int)×Int×Int) (fun k x=>Z70 k x.1 x.2.1) ZlF Zfl ZsQ
noncomputable def Z78:Code:=Tryz.f97.body.getD .skip
noncomputable def Z1q:Ctx (Tup Z3J×OutD):={T:=T,G:=[(98,Zp.E),(118,Za6.E),(95,ZU.E)],mvs:=[],no:=2,n:=49,res:=resOf T Zna Z3J Tryz.f97.results.toList,loops:=[(3,Z3B.E),(0,Z3D.E)],regs:=[],conds:=[],cuts:=[]}
theorem ZfP(k:Nat):EnvOK Tryz.prog k Z1q.G:=(EnvOK.cons (Z1S k) (EnvOK.cons (ZRJ k) (EnvOK.cons (Z6l k) (EnvOK.nil mixed))))
noncomputable def Z88:Code:=(findLoop 3 Z78).getD .skip
theorem Zul(k:Nat)(x:Zd0.D):Z3B.lp (k+1) x=loopK Z1q Z3B 3 Z88 k x:=by kernel_rfl
theorem ZtU(k:Nat):LOK Tryz.prog Z1q k Z88:=LOK.by [] (by kernel_rfl) AllOK.nil
theorem ZtE(x:Zd0.D):Z3B.lp 0 x=none:=by kernel_rfl
theorem Zty(k:Nat):EOK Tryz.prog Z1q k Z3B.E (.block 3 (.loop Z88)):=Zd T_ok ZfP ZtE Zul ZtU k
noncomputable def Z8e:Code:=(findLoop 0 Z78).getD .skip
theorem ZtM(k:Nat)(x:Zd1.D):Z3D.lp (k+1) x=loopK Z1q Z3D 0 Z8e k x:=by kernel_rfl
theorem Zun(k:Nat):LOK Tryz.prog Z1q k Z8e:=LOK.by [(Z3B.E,.block 3 (.loop Z88))] (by kernel_rfl) (AllOK.cons (Zty k) AllOK.nil)
theorem ZtV(x:Zd1.D):Z3D.lp 0 x=none:=by kernel_rfl
theorem Zt9(k:Nat):EOK Tryz.prog Z1q k Z3D.E (.block 0 (.loop Z8e)):=Zd T_ok ZfP ZtV ZtM Zun k
theorem ZzL(k:Nat)(x:Tup Z1N.ps):Z1N.f (k+1) x=fnK Z1N Z1q Z78 k x:=by kernel_rfl
theorem ZA5(x:Tup Z1N.ps):Z1N.f 0 x=none:=by kernel_rfl
theorem ZAs(k:Nat):LOK Tryz.prog Z1q k Z78:=LOK.by [(Z3D.E,.block 0 (.loop Z8e))] (by kernel_rfl) (AllOK.cons (Zt9 k) AllOK.nil)
theorem Zmn(k:Nat):SoundAt Tryz.prog k 97 Z1N.E:= @Z5 Tryz.prog Z1N Z1q 97 Tryz.f97 Z78 (by kernel_rfl) (by kernel_rfl) (by kernel_rfl) Tryz.func97 (by kernel_rfl) (by kernel_rfl) (by kernel_rfl) T_ok ZfP ZAs ZA5 ZzL k
noncomputable def Zcv:List PK:=[PK.mk T6 true none false none,PK.mk (.pair I6 (.pair I6 (.slice 76 P6))) true none false none]
noncomputable def ZGn:List PK:=[PK.mk (.pair I6 (.pair I6 (.slice 76 P6))) true none false none,PK.mk I6 false none false none]
noncomputable def ZBq(r:(Int×Int×Int)×Int×Int×List (Int×Int)):Tup Zcv×OutD:=((r.1,r.2,()),none)
noncomputable def ZCb:Tup Zcv×OutD→Option ((Int×Int×Int)×Int×Int×List (Int×Int))
 |(a,none)=>some (a.1,a.2.1)
 |_=>none
theorem ZKN: ∀b r,ZCb b=some r→ZBq r=b:=by
 rintro ⟨a,_|_⟩ r h<;>cases h;rfl
noncomputable def Zay:Nat→Int→Int→List (Int×Int)→Int→Int→Int→Int→Int→List (Int×Int)→Int→Option (Int×Int×Int×Int×Int×List (Int×Int)×Int×Int×Int×Int×Int×List (Int×Int)):=fun k b1_0 b1_1 b1_2 b2_0 b2_1 b2_2 b3_0 b3_1 o4 v1=>
  Option.bind (Z1w k (b1_0,b1_1,b1_2)) fun z0=>Option.bind (Z2F k (b1_0,b1_1,b1_2) z0 v1) fun z1=>some (b2_0,b2_1,b2_2,b3_0,b3_1,o4,z1.1.1,z1.1.2.1,z1.1.2.2,z1.2.1.1,z1.2.1.2.1,z1.2.1.2.2)
noncomputable def ZfR:Nat→Int→Int→List (Int×Int)→Int→Int→Int→Int→Int→List (Int×Int)→Int→Option (List (Int×Int×Int×Int×Int×List (Int×Int)×Int×Int×Int×Int×Int×List (Int×Int))):=fun k b1_0 b1_1 b1_2 b2_0 b2_1 b2_2 b3_0 b3_1 o4 v1=>
  joinL (Option.bind (Z1w k (b1_0,b1_1,b1_2)) fun z2=>joinL (Option.bind (Z2F k (b1_0,b1_1,b1_2) z2 v1) fun z3=>joinL (some [(b2_0,b2_1,b2_2,b3_0,b3_1,o4,z3.1.1,z3.1.2.1,z3.1.2.2,z3.2.1.1,z3.2.1.2.1,z3.2.1.2.2)]) (some [(b2_0,b2_1,b2_2,b3_0,b3_1,o4,z3.1.1,z3.1.2.1,z3.1.2.2,z3.2.1.1,z3.2.1.2.1,z3.2.1.2.2)])) (joinL (joinL (Option.bind (Z2F k (b1_0,b1_1,b1_2) z2 v1) fun z4=>some [(b2_0,b2_1,b2_2,b3_0,b3_1,o4,z4.1.1,z4.1.2.1,z4.1.2.2,z4.2.1.1,z4.2.1.2.1,z4.2.1.2.2)]) (Option.bind (Z2F k (b1_0,b1_1,b1_2) z2 v1) fun z5=>some [(b2_0,b2_1,b2_2,b3_0,b3_1,o4,z5.1.1,z5.1.2.1,z5.1.2.2,z5.2.1.1,z5.2.1.2.1,z5.2.1.2.2)])) (joinL (Option.bind (Z2F k (b1_0,b1_1,b1_2) z2 v1) fun z6=>some [(b2_0,b2_1,b2_2,b3_0,b3_1,o4,z6.1.1,z6.1.2.1,z6.1.2.2,z6.2.1.1,z6.2.1.2.1,z6.2.1.2.2)]) (Option.bind (Z2F k (b1_0,b1_1,b1_2) z2 v1) fun z7=>some [(b2_0,b2_1,b2_2,b3_0,b3_1,o4,z7.1.1,z7.1.2.1,z7.1.2.2,z7.2.1.1,z7.2.1.2.1,z7.2.1.2.2)])))) (joinL (joinL (Option.bind (Z1w k (b1_0,b1_1,b1_2)) fun z8=>joinL (Option.bind (Z2F k (b1_0,b1_1,b1_2) z8 v1) fun z9=>some [(b2_0,b2_1,b2_2,b3_0,b3_1,o4,z9.1.1,z9.1.2.1,z9.1.2.2,z9.2.1.1,z9.2.1.2.1,z9.2.1.2.2)]) (Option.bind (Z2F k (b1_0,b1_1,b1_2) z8 v1) fun z10=>some [(b2_0,b2_1,b2_2,b3_0,b3_1,o4,z10.1.1,z10.1.2.1,z10.1.2.2,z10.2.1.1,z10.2.1.2.1,z10.2.1.2.2)])) (Option.bind (Z1w k (b1_0,b1_1,b1_2)) fun z11=>Option.bind (Z2F k (b1_0,b1_1,b1_2) z11 v1) fun z12=>some [(b2_0,b2_1,b2_2,b3_0,b3_1,o4,z12.1.1,z12.1.2.1,z12.1.2.2,z12.2.1.1,z12.2.1.2.1,z12.2.1.2.2)])) (joinL (Option.bind (Z1w k (b1_0,b1_1,b1_2)) fun z13=>joinL (Option.bind (Z2F k (b1_0,b1_1,b1_2) z13 v1) fun z14=>some [(b2_0,b2_1,b2_2,b3_0,b3_1,o4,z14.1.1,z14.1.2.1,z14.1.2.2,z14.2.1.1,z14.2.1.2.1,z14.2.1.2.2)]) (Option.bind (Z2F k (b1_0,b1_1,b1_2) z13 v1) fun z15=>some [(b2_0,b2_1,b2_2,b3_0,b3_1,o4,z15.1.1,z15.1.2.1,z15.1.2.2,z15.2.1.1,z15.2.1.2.1,z15.2.1.2.2)])) (Option.bind (Z1w k (b1_0,b1_1,b1_2)) fun z16=>Option.bind (Z2F k (b1_0,b1_1,b1_2) z16 v1) fun z17=>some [(b2_0,b2_1,b2_2,b3_0,b3_1,o4,z17.1.1,z17.1.2.1,z17.1.2.2,z17.2.1.1,z17.2.1.2.1,z17.2.1.2.2)])))
noncomputable def ZrS:Spec:=Spec.mk [.ro,O2,O5,O6,O0] [(1,.at (.int .i64)),(2,.at (.ptr 1 0)),(4,.at (.ptr 2 0)),(5,.at (.ptr 3 0))]
noncomputable def ZK0:Spec:=Spec.mk [.ro,O5,Oa,O0,O5,O7,O0] [(4,.at (.ptr 1 0)),(5,.at (.ptr 2 0)),(6,.at (.ptr 4 0)),(7,.at (.ptr 5 0))]
noncomputable def Z91:LoopDef (Tup Zcv×OutD):= .plain ZrS ZK0 (Int×Int×Int×Int×Int×List (Int×Int)×Int×Int×Int×Int×Int×List (Int×Int)) (fun k x=>Zay k x.1.2.1.1 x.1.2.1.2.1 x.1.2.1.2.2.1 x.1.2.2.1.1 x.1.2.2.1.2.1 x.1.2.2.1.2.2.1 x.1.2.2.2.1.1 x.1.2.2.2.1.2.1 x.1.2.2.2.2.1 x.2.1) (fun z=>(((),(z.1,z.2.1,z.2.2.1,()),(z.2.2.2.1,z.2.2.2.2.1,(),()),z.2.2.2.2.2.1,(z.2.2.2.2.2.2.1,z.2.2.2.2.2.2.2.1,z.2.2.2.2.2.2.2.2.1,()),(z.2.2.2.2.2.2.2.2.2.1,z.2.2.2.2.2.2.2.2.2.2.1,(),()),z.2.2.2.2.2.2.2.2.2.2.2,()),((),(),(),(),()))) (fun y=>(y.1.2.1.1,y.1.2.1.2.1,y.1.2.1.2.2.1,y.1.2.2.1.1,y.1.2.2.1.2.1,y.1.2.2.2.1,y.1.2.2.2.2.1.1,y.1.2.2.2.2.1.2.1,y.1.2.2.2.2.1.2.2.1,y.1.2.2.2.2.2.1.1,y.1.2.2.2.2.2.1.2.1,y.1.2.2.2.2.2.2.1)) (fun _=>rfl)
theorem ZKI(k:Nat)(b1_0:Int)(b1_1:Int)(b1_2:List (Int×Int))(b2_0:Int)(b2_1:Int)(b2_2:Int)(b3_0:Int)(b3_1:Int)(o4:List (Int×Int))(v1:Int):ZfR k b1_0 b1_1 b1_2 b2_0 b2_1 b2_2 b3_0 b3_1 o4 v1=repl 12 (Zay k b1_0 b1_1 b1_2 b2_0 b2_1 b2_2 b3_0 b3_1 o4 v1):=by
 first
 |(simp only[ZfR,Zay,Z9,Zc,Z6,Z8,Z7,Z3,if_true];done)
 |(simp only[ZfR,Zay,Z9,Zc,Z6,Z8,Z7,Z3,if_true];simp only[Z1g,Z1i,Z2p,Z3];simp only[Z3E];exact Z1F ⟨fun h=>by simp only[h,and_self],fun h=>by simp only[h,and_self]⟩)
noncomputable def Zaz:Nat→Int→Int→Int→Int→Int→List (Int×Int)→Int→Int→Int→Int→Int→List (Int×Int)→Option (Int×Int×Int×Int×Int×List (Int×Int)):=fun k b1_0 b1_1 b1_2 b2_0 b2_1 o3 b4_0 b4_1 b4_2 b5_0 b5_1 o6=>
  some (b4_0,b4_1,b4_2,b5_0,b5_1,o6)
noncomputable def ZfF:Nat→Int→Int→Int→Int→Int→List (Int×Int)→Int→Int→Int→Int→Int→List (Int×Int)→Option (List (Int×Int×Int×Int×Int×List (Int×Int))):=fun k b1_0 b1_1 b1_2 b2_0 b2_1 o3 b4_0 b4_1 b4_2 b5_0 b5_1 o6=>
  joinL (some [(b4_0,b4_1,b4_2,b5_0,b5_1,o6)]) (some [(b4_0,b4_1,b4_2,b5_0,b5_1,o6)])
noncomputable def Ztu:Spec:=Spec.mk [.ro,O5,Oa,O0,O5,O7,O0] [(4,.at (.ptr 1 0)),(5,.at (.ptr 2 0)),(6,.at (.ptr 4 0)),(7,.at (.ptr 5 0))]
noncomputable def ZJx:Spec:=Spec.mk [.ro,O5,Oa,O0] [(4,.at (.ptr 1 0)),(5,.at (.ptr 2 0))]
noncomputable def Z9l:LoopDef (Tup Zcv×OutD):= .plain Ztu ZJx (Int×Int×Int×Int×Int×List (Int×Int)) (fun k x=>Zaz k x.1.2.1.1 x.1.2.1.2.1 x.1.2.1.2.2.1 x.1.2.2.1.1 x.1.2.2.1.2.1 x.1.2.2.2.1 x.1.2.2.2.2.1.1 x.1.2.2.2.2.1.2.1 x.1.2.2.2.2.1.2.2.1 x.1.2.2.2.2.2.1.1 x.1.2.2.2.2.2.1.2.1 x.1.2.2.2.2.2.2.1) (fun z=>(((),(z.1,z.2.1,z.2.2.1,()),(z.2.2.2.1,z.2.2.2.2.1,(),()),z.2.2.2.2.2,()),((),(),()))) (fun y=>(y.1.2.1.1,y.1.2.1.2.1,y.1.2.1.2.2.1,y.1.2.2.1.1,y.1.2.2.1.2.1,y.1.2.2.2.1)) (fun _=>rfl)
theorem ZLs(k:Nat)(b1_0:Int)(b1_1:Int)(b1_2:Int)(b2_0:Int)(b2_1:Int)(o3:List (Int×Int))(b4_0:Int)(b4_1:Int)(b4_2:Int)(b5_0:Int)(b5_1:Int)(o6:List (Int×Int)):ZfF k b1_0 b1_1 b1_2 b2_0 b2_1 o3 b4_0 b4_1 b4_2 b5_0 b5_1 o6=repl 2 (Zaz k b1_0 b1_1 b1_2 b2_0 b2_1 o3 b4_0 b4_1 b4_2 b5_0 b5_1 o6):=by
 first
 |(simp only[ZfF,Zaz,Z9,Zc,Z6,Z8,Z7,Z3,if_true];done)
 |(simp only[ZfF,Zaz,Z9,Zc,Z6,Z8,Z7,Z3,if_true];simp only[Z1g,Z1i,Z2p,Z3];simp only[Z3E];exact Z1F ⟨fun h=>by simp only[h,and_self],fun h=>by simp only[h,and_self]⟩)
noncomputable def Zie:Nat→Int×Int×List (Int×Int)→Int→Option ((Int×Int×Int)×Int×Int×List (Int×Int))
 |0,_,_=>none
 |k+1,p0,p1=>
  Option.bind (Zay k p0.1 p0.2.1 p0.2.2 (0:Int) (0:Int) (0:Int) (0:Int) (0:Int) [] p1) fun z18=>Option.bind (Zaz k z18.1 z18.2.1 z18.2.2.1 z18.2.2.2.1 z18.2.2.2.2.1 z18.2.2.2.2.2.1 z18.2.2.2.2.2.2.1 z18.2.2.2.2.2.2.2.1 z18.2.2.2.2.2.2.2.2.1 z18.2.2.2.2.2.2.2.2.2.1 z18.2.2.2.2.2.2.2.2.2.2.1 z18.2.2.2.2.2.2.2.2.2.2.2) fun z19=>some ((z19.1,z19.2.1,z19.2.2.1),z19.2.2.2.1,z19.2.2.2.2.1,z19.2.2.2.2.2)
noncomputable def Z7v:FnDef:= .of ZGn Zcv ((Int×Int×Int)×Int×Int×List (Int×Int)) (fun k x=>Zie k x.1 x.2.1) ZBq ZCb ZKN
noncomputable def Zit:Code:=Tryz.f107.body.getD .skip
noncomputable def Z1J:Ctx (Tup Zcv×OutD):={T:=T,G:=[(125,Z4q.E),(124,ZbH.E)],mvs:=[],no:=0,n:=20,res:=resOf T ZGn Zcv Tryz.f107.results.toList,loops:=[],regs:=[(1,Z91.E),(2,Z9l.E)],conds:=[],cuts:=[]}
theorem ZsG(k:Nat):EnvOK Tryz.prog k Z1J.G:=(EnvOK.cons (ZuN k) (EnvOK.cons (ZTy k) (EnvOK.nil mixed)))
noncomputable def Zle:Array Oper:=(findReg 1 Zit).getD #[]
theorem ZL2(k:Nat)(x:ZrS.D):execD Z1J.T Z1J.G Z1J.mvs k Zle (Z91.inp.st Z1J.n x) (outK Z1J Z91)=ZfR k x.1.2.1.1 x.1.2.1.2.1 x.1.2.1.2.2.1 x.1.2.2.1.1 x.1.2.2.1.2.1 x.1.2.2.1.2.2.1 x.1.2.2.2.1.1 x.1.2.2.2.1.2.1 x.1.2.2.2.2.1 x.2.1:=by kernel_rfl
theorem ZHH(k:Nat):EOK Tryz.prog Z1J k Z91.E (.region 1 Zle true):=Z4m (D:=Z91) (m:=12) T_ok (ZsG k) (fun x=>(ZL2 k x).trans (ZKI k x.1.2.1.1 x.1.2.1.2.1 x.1.2.1.2.2.1 x.1.2.2.1.1 x.1.2.2.1.2.1 x.1.2.2.1.2.2.1 x.1.2.2.2.1.1 x.1.2.2.2.1.2.1 x.1.2.2.2.2.1 x.2.1))
noncomputable def ZkJ:Array Oper:=(findReg 2 Zit).getD #[]
theorem ZKF(k:Nat)(x:Ztu.D):execD Z1J.T Z1J.G Z1J.mvs k ZkJ (Z9l.inp.st Z1J.n x) (outK Z1J Z9l)=ZfF k x.1.2.1.1 x.1.2.1.2.1 x.1.2.1.2.2.1 x.1.2.2.1.1 x.1.2.2.1.2.1 x.1.2.2.2.1 x.1.2.2.2.2.1.1 x.1.2.2.2.2.1.2.1 x.1.2.2.2.2.1.2.2.1 x.1.2.2.2.2.2.1.1 x.1.2.2.2.2.2.1.2.1 x.1.2.2.2.2.2.2.1:=by kernel_rfl
theorem ZIj(k:Nat):EOK Tryz.prog Z1J k Z9l.E (.region 2 ZkJ true):=Z4m (D:=Z9l) (m:=2) T_ok (ZsG k) (fun x=>(ZKF k x).trans (ZLs k x.1.2.1.1 x.1.2.1.2.1 x.1.2.1.2.2.1 x.1.2.2.1.1 x.1.2.2.1.2.1 x.1.2.2.2.1 x.1.2.2.2.2.1.1 x.1.2.2.2.2.1.2.1 x.1.2.2.2.2.1.2.2.1 x.1.2.2.2.2.2.1.1 x.1.2.2.2.2.2.1.2.1 x.1.2.2.2.2.2.2.1))
theorem ZSA(k:Nat)(x:Tup Z7v.ps):Z7v.f (k+1) x=fnK Z7v Z1J Zit k x:=by kernel_rfl
theorem ZRS(x:Tup Z7v.ps):Z7v.f 0 x=none:=by kernel_rfl
theorem ZSh(k:Nat):LOK Tryz.prog Z1J k Zit:=LOK.by [(Z91.E,.region 1 Zle true),(Z9l.E,.region 2 ZkJ true)] (by kernel_rfl) (AllOK.cons (ZHH k) (AllOK.cons (ZIj k) AllOK.nil))
theorem ZE1(k:Nat):SoundAt Tryz.prog k 107 Z7v.E:= @Z5 Tryz.prog Z7v Z1J 107 Tryz.f107 Zit (by kernel_rfl) (by kernel_rfl) (by kernel_rfl) Tryz.func107 (by kernel_rfl) (by kernel_rfl) (by kernel_rfl) T_ok ZsG ZSh ZRS ZSA k
noncomputable def Zch:List PK:=[PK.mk (.slice 40 T6) false none false none,PK.mk (.pair I6 (.pair I6 (.slice 76 P6))) true none false none]
noncomputable def ZFt:List PK:=[PK.mk (.pair I6 (.pair I6 (.slice 76 P6))) true none false none,PK.mk (.slice 58 T6) false none false none,PK.mk (.slice 3 I6) false none false none]
noncomputable def ZBR(r:List (Int×Int×Int)×Int×Int×List (Int×Int)):Tup Zch×OutD:=((r.1,r.2,()),none)
noncomputable def ZBQ:Tup Zch×OutD→Option (List (Int×Int×Int)×Int×Int×List (Int×Int))
 |(a,none)=>some (a.1,a.2.1)
 |_=>none
theorem ZJq: ∀b r,ZBQ b=some r→ZBR r=b:=by
 rintro ⟨a,_|_⟩ r h<;>cases h;rfl
noncomputable def Z7b:Nat→Int→Int→List (Int×Int)→Int→Int→List (Int×Int)→List (Int×Int×Int)→List Int→Option (Int×Int×List (Int×Int)×Int×Int×List (Int×Int)×List Int×List (Int×Int×Int)×List Int):=fun k b1_0 b1_1 b1_2 b2_0 b2_1 o3 v1 v2=>
  Option.bind (Z9R k (b1_0,b1_1,b1_2)) fun z0=>Option.bind (Z1w k (b1_0,b1_1,b1_2)) fun z1=>some (b2_0,b2_1,o3,z0.1,z0.2.1,z0.2.2,z1,v1,v2)
noncomputable def Zg1:Nat→Int→Int→List (Int×Int)→Int→Int→List (Int×Int)→List (Int×Int×Int)→List Int→Option (List (Int×Int×List (Int×Int)×Int×Int×List (Int×Int)×List Int×List (Int×Int×Int)×List Int)):=fun k b1_0 b1_1 b1_2 b2_0 b2_1 o3 v1 v2=>
  joinL (Option.bind (Z9R k (b1_0,b1_1,b1_2)) fun z2=>joinL (Option.bind (Z1w k (b1_0,b1_1,b1_2)) fun z3=>some [(b2_0,b2_1,o3,z2.1,z2.2.1,z2.2.2,z3,v1,v2)]) (Option.bind (Z1w k (b1_0,b1_1,b1_2)) fun z4=>some [(b2_0,b2_1,o3,z2.1,z2.2.1,z2.2.2,z4,v1,v2)])) (Option.bind (Z9R k (b1_0,b1_1,b1_2)) fun z5=>Option.bind (Z1w k (b1_0,b1_1,b1_2)) fun z6=>some [(b2_0,b2_1,o3,z5.1,z5.2.1,z5.2.2,z6,v1,v2)])
noncomputable def Zs9:Spec:=Spec.mk [.ro,O2,Oa,O0] [(1,.at (.snap 0 T6)),(2,.at (.snap 0 I6)),(3,.at (.ptr 1 0)),(7,.at (.ptr 2 0))]
noncomputable def ZJT:Spec:=Spec.mk [.ro,Obq,O0,O6,O0,O1] [(1,.at (.snap 0 T6)),(2,.at (.snap 0 I6)),(7,.at (.ptr 1 0)),(8,.at (.ptr 3 0)),(9,.at (.sl 5))]
noncomputable def Z8W:LoopDef (Tup Zch×OutD):= .plain Zs9 ZJT (Int×Int×List (Int×Int)×Int×Int×List (Int×Int)×List Int×List (Int×Int×Int)×List Int) (fun k x=>Z7b k x.1.2.1.1 x.1.2.1.2.1 x.1.2.1.2.2.1 x.1.2.2.1.1 x.1.2.2.1.2.1 x.1.2.2.2.1 x.2.1 x.2.2.1) (fun z=>(((),(z.1,z.2.1,(),()),z.2.2.1,(z.2.2.2.1,z.2.2.2.2.1,(),()),z.2.2.2.2.2.1,z.2.2.2.2.2.2.1,()),(z.2.2.2.2.2.2.2.1,z.2.2.2.2.2.2.2.2,(),(),(),()))) (fun y=>(y.1.2.1.1,y.1.2.1.2.1,y.1.2.2.1,y.1.2.2.2.1.1,y.1.2.2.2.1.2.1,y.1.2.2.2.2.1,y.1.2.2.2.2.2.1,y.2.1,y.2.2.1)) (fun _=>rfl)
theorem ZKR(k:Nat)(b1_0:Int)(b1_1:Int)(b1_2:List (Int×Int))(b2_0:Int)(b2_1:Int)(o3:List (Int×Int))(v1:List (Int×Int×Int))(v2:List Int):Zg1 k b1_0 b1_1 b1_2 b2_0 b2_1 o3 v1 v2=repl 3 (Z7b k b1_0 b1_1 b1_2 b2_0 b2_1 o3 v1 v2):=by
 first
 |(simp only[Zg1,Z7b,Z9,Zc,Z6,Z8,Z7,Z3,if_true];done)
 |(simp only[Zg1,Z7b,Z9,Zc,Z6,Z8,Z7,Z3,if_true];simp only[Z1g,Z1i,Z2p,Z3];simp only[Z3E];exact Z1F ⟨fun h=>by simp only[h,and_self],fun h=>by simp only[h,and_self]⟩)
noncomputable def ZbU:Nat→Int→Int→List (Int×Int)→Int→Int→List (Int×Int)→List Int→List (Int×Int×Int)→List (Int×Int×Int)→List Int→Int→Int→Option (Int×Int×List (Int×Int)×Int×Int×List (Int×Int)×List (Int×Int×Int))
 |0,_,_,_,_,_,_,_,_,_,_,_,_=>none
 |k+1,b1_0,b1_1,o2,b3_0,b3_1,o4,o5,o6,v1,v19,v20,v21=>
  if decide (v21<v20)=true then if (0:Int)≤v21 then if v21<(↑(List.length v19):Int) then Option.bind (ZoS k (b3_0,b3_1,o4) o5 v1 (List.getD v19 (Int.toNat v21) (0:Int))) fun z8=>if List.length o6+List.length [(z8.1.1,z8.1.2.1,z8.1.2.2)]≤(140737488355328/24:Nat) then ZbU k b1_0 b1_1 o2 z8.2.1 z8.2.2.1 z8.2.2.2 o5 (o6++[(z8.1.1,z8.1.2.1,z8.1.2.2)]) v1 v19 v20 (wrap64 (v21+1)) else none else none else none else some (b1_0,b1_1,o2,b3_0,b3_1,o4,o6)
noncomputable def Zmm:Spec:=Spec.mk [.ro,Obq,O0,O6,O0,O1,Om] [(1,.at (.snap 0 T6)),(7,.at (.ptr 1 0)),(8,.at (.ptr 3 0)),(9,.at (.sl 5)),(10,.at (.sl 6)),(19,.at (.snap 0 I6)),(20,.at (.int .i64)),(21,.at (.int .i64))]
noncomputable def ZMT:Spec:=Spec.mk [.ro,Obq,O0,O6,O0,Om] [(7,.at (.ptr 1 0)),(8,.at (.ptr 3 0)),(10,.at (.sl 5))]
noncomputable def Zas:LoopDef (Tup Zch×OutD):= .plain Zmm ZMT (Int×Int×List (Int×Int)×Int×Int×List (Int×Int)×List (Int×Int×Int)) (fun k x=>ZbU k x.1.2.1.1 x.1.2.1.2.1 x.1.2.2.1 x.1.2.2.2.1.1 x.1.2.2.2.1.2.1 x.1.2.2.2.2.1 x.1.2.2.2.2.2.1 x.1.2.2.2.2.2.2.1 x.2.1 x.2.2.2.2.2.2.1 x.2.2.2.2.2.2.2.1 x.2.2.2.2.2.2.2.2.1) (fun z=>(((),(z.1,z.2.1,(),()),z.2.2.1,(z.2.2.2.1,z.2.2.2.2.1,(),()),z.2.2.2.2.2.1,z.2.2.2.2.2.2,()),((),(),(),()))) (fun y=>(y.1.2.1.1,y.1.2.1.2.1,y.1.2.2.1,y.1.2.2.2.1.1,y.1.2.2.2.1.2.1,y.1.2.2.2.2.1,y.1.2.2.2.2.2.1)) (fun _=>rfl)
noncomputable def Za7:Nat→Int×Int×List (Int×Int)→List (Int×Int×Int)→List Int→Option (List (Int×Int×Int)×Int×Int×List (Int×Int))
 |0,_,_,_=>none
 |k+1,p0,p1,p2=>
  Option.bind (Z7b k p0.1 p0.2.1 p0.2.2 (0:Int) (0:Int) [] p1 p2) fun z7=>Option.bind (ZbU k z7.1 z7.2.1 z7.2.2.1 z7.2.2.2.1 z7.2.2.2.2.1 z7.2.2.2.2.2.1 z7.2.2.2.2.2.2.1 [] z7.2.2.2.2.2.2.2.1 z7.2.2.2.2.2.2.2.2 (↑(List.length z7.2.2.2.2.2.2.2.2):Int) (0:Int)) fun z9=>some (z9.2.2.2.2.2.2,z9.2.2.2.1,z9.2.2.2.2.1,z9.2.2.2.2.2.1)
noncomputable def Z7f:FnDef:= .of ZFt Zch (List (Int×Int×Int)×Int×Int×List (Int×Int)) (fun k x=>Za7 k x.1 x.2.1 x.2.2.1) ZBR ZBQ ZJq
noncomputable def Zic:Code:=Tryz.f112.body.getD .skip
noncomputable def Z3i:Ctx (Tup Zch×OutD):={T:=T,G:=[(126,Z5W.E),(125,Z4q.E),(127,ZbD.E)],mvs:=[],no:=0,n:=41,res:=resOf T ZFt Zch Tryz.f112.results.toList,loops:=[(0,Zas.E)],regs:=[(1,Z8W.E)],conds:=[],cuts:=[]}
theorem Ztn(k:Nat):EnvOK Tryz.prog k Z3i.G:=(EnvOK.cons (Zsf k) (EnvOK.cons (ZuN k) (EnvOK.cons (ZSS k) (EnvOK.nil mixed))))
noncomputable def Zl0:Array Oper:=(findReg 1 Zic).getD #[]
theorem ZJy(k:Nat)(x:Zs9.D):execD Z3i.T Z3i.G Z3i.mvs k Zl0 (Z8W.inp.st Z3i.n x) (outK Z3i Z8W)=Zg1 k x.1.2.1.1 x.1.2.1.2.1 x.1.2.1.2.2.1 x.1.2.2.1.1 x.1.2.2.1.2.1 x.1.2.2.2.1 x.2.1 x.2.2.1:=by kernel_rfl
theorem ZH5(k:Nat):EOK Tryz.prog Z3i k Z8W.E (.region 1 Zl0 true):=Z4m (D:=Z8W) (m:=3) T_ok (Ztn k) (fun x=>(ZJy k x).trans (ZKR k x.1.2.1.1 x.1.2.1.2.1 x.1.2.1.2.2.1 x.1.2.2.1.1 x.1.2.2.1.2.1 x.1.2.2.2.1 x.2.1 x.2.2.1))
noncomputable def Zhs:Code:=(findLoop 0 Zic).getD .skip
theorem ZMq(k:Nat)(x:Zmm.D):Zas.lp (k+1) x=loopK Z3i Zas 0 Zhs k x:=by kernel_rfl
theorem ZMK(k:Nat):LOK Tryz.prog Z3i k Zhs:=LOK.by [] (by kernel_rfl) AllOK.nil
theorem ZMA(x:Zmm.D):Zas.lp 0 x=none:=by kernel_rfl
theorem ZKj(k:Nat):EOK Tryz.prog Z3i k Zas.E (.block 0 (.loop Zhs)):=Zd T_ok Ztn ZMA ZMq ZMK k
theorem ZSu(k:Nat)(x:Tup Z7f.ps):Z7f.f (k+1) x=fnK Z7f Z3i Zic k x:=by kernel_rfl
theorem ZRH(x:Tup Z7f.ps):Z7f.f 0 x=none:=by kernel_rfl
theorem ZSF(k:Nat):LOK Tryz.prog Z3i k Zic:=LOK.by [(Z8W.E,.region 1 Zl0 true),(Zas.E,.block 0 (.loop Zhs))] (by kernel_rfl) (AllOK.cons (ZH5 k) (AllOK.cons (ZKj k) AllOK.nil))
theorem ZFh(k:Nat):SoundAt Tryz.prog k 112 Z7f.E:= @Z5 Tryz.prog Z7f Z3i 112 Tryz.f112 Zic (by kernel_rfl) (by kernel_rfl) (by kernel_rfl) Tryz.func112 (by kernel_rfl) (by kernel_rfl) (by kernel_rfl) T_ok Ztn ZSF ZRH ZSu k
noncomputable def Z51:List PK:=[PK.mk (.pair I6 (.pair I6 (.slice 76 P6))) true none false none]
noncomputable def ZmO:List PK:=[PK.mk (.pair (.slice 5 (.int .u8)) (.pair I6 (.int .u64))) false none false (some 105),PK.mk I6 false none false none,PK.mk I6 false none false none]
noncomputable def Zlm(r:(Int×Int×List (Int×Int))×Int×Int):Tup Z51×OutD:=((r.1,()),some ⟨Ty.pair (Ty.slice (5:Nat) (Ty.int .u8)) (Ty.pair (Ty.int .i64) (Ty.int .u64)),[([],r.2)]⟩)
noncomputable def Zfp:Tup Z51×OutD→Option ((Int×Int×List (Int×Int))×Int×Int)
 |(a,some ⟨u,ys⟩)=>if h:u=Ty.pair (Ty.slice (5:Nat) (Ty.int .u8)) (Ty.pair (Ty.int .i64) (Ty.int .u64)) then (match castU h ys with
  |[([],y)]=>some (a.1,y)
  |_=>none) else none
 |_=>none
theorem Zsx: ∀b r,Zfp b=some r→Zlm r=b:=by
 rintro ⟨a,o⟩ r h
 cases o with
 |none=>cases h
 |some s=>
  obtain ⟨u,ys⟩:=s
  simp only[Zfp]at h
  split at h
  ·rename_i hu
   subst hu
   match ys,h with
   |[],h=>cases (show (none:Option _)=some r from h)
   |[([],y)],h=>injection (show some _=some r from h) with h;subst h;rfl
   |[(_::_,y)],h=>cases (show (none:Option _)=some r from h)
   |(h1,_)::_::_,h=>cases h1<;>cases (show (none:Option _)=some r from h)
  ·cases h
noncomputable def Zj:Nat→Int→Int→List Int→Int→Int→List (Int×Int)→Int→Int→List (Int×Int)→Int→Int→Int→Option (Int×Int×List Int×Int×Int×List (Int×Int)×Int×Int×List (Int×Int))
 |0,_,_,_,_,_,_,_,_,_,_,_,_=>none
 |k+1,b1_1,b1_2,o2,b3_0,b3_1,o4,b5_0,b5_1,o6,v1,v2,v8=>
  if decide ((↑(List.length o6):Int)<wrap64 (v1*v2))=true then Option.bind (ZK k (o2,b1_1,b1_2) v8) fun z1=>if z1.1=true then Option.bind (Z5v k (o2,z1.2.1,z1.2.2)) fun z2=>if decide (z2.1.1=5)=true then Option.bind (ZK k (o2,z2.2.1,z2.2.2) (3:Int)) fun z3=>if (!z3.1)=true then Option.bind (Z1 k (o2,z3.2.1,z3.2.2) (2:Int)) fun z4=>if List.length o6+List.length [((3:Int),z4.1)]≤(140737488355328/16:Nat) then Zj k z4.2.1 z4.2.2 o2 b3_0 b3_1 o4 b5_0 b5_1 (o6++[((3:Int),z4.1)]) v1 v2 v8 else none else if List.length o6+List.length [(z2.1.1,z2.1.2)]≤(140737488355328/16:Nat) then Zj k z3.2.1 z3.2.2 o2 b3_0 b3_1 o4 b5_0 b5_1 (o6++[(z2.1.1,z2.1.2)]) v1 v2 v8 else none else if List.length o6+List.length [(z2.1.1,z2.1.2)]≤(140737488355328/16:Nat) then Zj k z2.2.1 z2.2.2 o2 b3_0 b3_1 o4 b5_0 b5_1 (o6++[(z2.1.1,z2.1.2)]) v1 v2 v8 else none else Option.bind (ZK k (o2,z1.2.1,z1.2.2) (3:Int)) fun z5=>if z5.1=true then Option.bind (Z5v k (o2,z5.2.1,z5.2.2)) fun z6=>if decide (z6.1.1=5)=true then Option.bind (ZK k (o2,z6.2.1,z6.2.2) (3:Int)) fun z7=>if (!z7.1)=true then Option.bind (Z1 k (o2,z7.2.1,z7.2.2) (2:Int)) fun z8=>if List.length o6+List.length [((3:Int),z8.1)]≤(140737488355328/16:Nat) then Zj k z8.2.1 z8.2.2 o2 b3_0 b3_1 o4 b5_0 b5_1 (o6++[((3:Int),z8.1)]) v1 v2 v8 else none else if List.length o6+List.length [(z6.1.1,z6.1.2)]≤(140737488355328/16:Nat) then Zj k z7.2.1 z7.2.2 o2 b3_0 b3_1 o4 b5_0 b5_1 (o6++[(z6.1.1,z6.1.2)]) v1 v2 v8 else none else if List.length o6+List.length [(z6.1.1,z6.1.2)]≤(140737488355328/16:Nat) then Zj k z6.2.1 z6.2.2 o2 b3_0 b3_1 o4 b5_0 b5_1 (o6++[(z6.1.1,z6.1.2)]) v1 v2 v8 else none else if List.length o6+List.length [((0:Int),(0:Int))]≤(140737488355328/16:Nat) then Zj k z5.2.1 z5.2.2 o2 b3_0 b3_1 o4 b5_0 b5_1 (o6++[((0:Int),(0:Int))]) v1 v2 v8 else none else some (b1_1,b1_2,o2,b3_0,b3_1,o4,b5_0,b5_1,o6)
noncomputable def Zd8:Spec:=Spec.mk [.ro,O3,Oc,O6,O0,O7,O0] [(0,.at (.ptr 1 0)),(1,.at (.int .i64)),(2,.at (.int .i64)),(6,.at (.ptr 3 0)),(7,.at (.ptr 5 0)),(8,.at (.int .i64))]
noncomputable def ZtJ:Spec:=Spec.mk [.ro,O3,Oc,O6,O0,O7,O0] [(6,.at (.ptr 3 0)),(7,.at (.ptr 5 0))]
noncomputable def Z3A:LoopDef (Tup Z51×OutD):= .plain Zd8 ZtJ (Int×Int×List Int×Int×Int×List (Int×Int)×Int×Int×List (Int×Int)) (fun k x=>Zj k x.1.2.1.2.1 x.1.2.1.2.2.1 x.1.2.2.1 x.1.2.2.2.1.1 x.1.2.2.2.1.2.1 x.1.2.2.2.2.1 x.1.2.2.2.2.2.1.1 x.1.2.2.2.2.2.1.2.1 x.1.2.2.2.2.2.2.1 x.2.2.1 x.2.2.2.1 x.2.2.2.2.2.2.1) (fun z=>(((),((),z.1,z.2.1,()),z.2.2.1,(z.2.2.2.1,z.2.2.2.2.1,(),()),z.2.2.2.2.2.1,(z.2.2.2.2.2.2.1,z.2.2.2.2.2.2.2.1,(),()),z.2.2.2.2.2.2.2.2,()),((),(),()))) (fun y=>(y.1.2.1.2.1,y.1.2.1.2.2.1,y.1.2.2.1,y.1.2.2.2.1.1,y.1.2.2.2.1.2.1,y.1.2.2.2.2.1,y.1.2.2.2.2.2.1.1,y.1.2.2.2.2.2.1.2.1,y.1.2.2.2.2.2.2.1)) (fun _=>rfl)
noncomputable def Z2A:Nat→List Int×Int×Int→Int→Int→Option ((Int×Int×List (Int×Int))×Int×Int)
 |0,_,_,_=>none
 |k+1,p0,p1,p2=>
  Option.bind (Zb k (p0.1,p0.2.1,p0.2.2) [(1:Int),(2:Int),(2:Int)]) fun z0=>Option.bind (Zj k z0.2.1 z0.2.2 p0.1 (0:Int) (0:Int) [] p1 p2 [] p1 p2 z0.1) fun z9=>some ((z9.2.2.2.2.2.2.1,z9.2.2.2.2.2.2.2.1,z9.2.2.2.2.2.2.2.2),z9.1,z9.2.1)
noncomputable def Z1P:FnDef:= .of ZmO Z51 ((Int×Int×List (Int×Int))×Int×Int) (fun k x=>Z2A k x.1 x.2.1 x.2.2.1) Zlm Zfp Zsx
noncomputable def Zbl:Code:=Tryz.f121.body.getD .skip
noncomputable def Z3G:Ctx (Tup Z51×OutD):={T:=T,G:=[(98,Zp.E),(95,ZU.E),(130,Z35.E),(116,Zq.E)],mvs:=[],no:=2,n:=51,res:=resOf T ZmO Z51 Tryz.f121.results.toList,loops:=[(0,Z3A.E)],regs:=[],conds:=[],cuts:=[]}
theorem Zml(k:Nat):EnvOK Tryz.prog k Z3G.G:=(EnvOK.cons (Z1S k) (EnvOK.cons (Z6l k) (EnvOK.cons (Zqu k) (EnvOK.cons (Z1I k) (EnvOK.nil mixed)))))
noncomputable def Z89:Code:=(findLoop 0 Zbl).getD .skip
theorem Zuk(k:Nat)(x:Zd8.D):Z3A.lp (k+1) x=loopK Z3G Z3A 0 Z89 k x:=by kernel_rfl
theorem Zuq(k:Nat):LOK Tryz.prog Z3G k Z89:=LOK.by [] (by kernel_rfl) AllOK.nil
theorem ZtS(x:Zd8.D):Z3A.lp 0 x=none:=by kernel_rfl
theorem Zsh(k:Nat):EOK Tryz.prog Z3G k Z3A.E (.block 0 (.loop Z89)):=Zd T_ok Zml ZtS Zuk Zuq k
theorem ZAR(k:Nat)(x:Tup Z1P.ps):Z1P.f (k+1) x=fnK Z1P Z3G Zbl k x:=by kernel_rfl
theorem ZAb(x:Tup Z1P.ps):Z1P.f 0 x=none:=by kernel_rfl
theorem ZAH(k:Nat):LOK Tryz.prog Z3G k Zbl:=LOK.by [(Z3A.E,.block 0 (.loop Z89))] (by kernel_rfl) (AllOK.cons (Zsh k) AllOK.nil)
theorem Zm2(k:Nat):SoundAt Tryz.prog k 121 Z1P.E:= @Z5 Tryz.prog Z1P Z3G 121 Tryz.f121 Zbl (by kernel_rfl) (by kernel_rfl) (by kernel_rfl) Tryz.func121 (by kernel_rfl) (by kernel_rfl) (by kernel_rfl) T_ok Zml ZAH ZAb ZAR k
noncomputable def Z7g:List PK:=[PK.mk P6 true none false none]
noncomputable def ZlS:List PK:=[PK.mk (.pair (.slice 5 (.int .u8)) (.pair I6 (.int .u64))) false none false (some 105)]
noncomputable def Zlp(r:(Int×Int)×Int×Int):Tup Z7g×OutD:=((r.1,()),some ⟨Ty.pair (Ty.slice (5:Nat) (Ty.int .u8)) (Ty.pair (Ty.int .i64) (Ty.int .u64)),[([],r.2)]⟩)
noncomputable def Zf3:Tup Z7g×OutD→Option ((Int×Int)×Int×Int)
 |(a,some ⟨u,ys⟩)=>if h:u=Ty.pair (Ty.slice (5:Nat) (Ty.int .u8)) (Ty.pair (Ty.int .i64) (Ty.int .u64)) then (match castU h ys with
  |[([],y)]=>some (a.1,y)
  |_=>none) else none
 |_=>none
theorem Zsw: ∀b r,Zf3 b=some r→Zlp r=b:=by
 rintro ⟨a,o⟩ r h
 cases o with
 |none=>cases h
 |some s=>
  obtain ⟨u,ys⟩:=s
  simp only[Zf3]at h
  split at h
  ·rename_i hu
   subst hu
   match ys,h with
   |[],h=>cases (show (none:Option _)=some r from h)
   |[([],y)],h=>injection (show some _=some r from h) with h;subst h;rfl
   |[(_::_,y)],h=>cases (show (none:Option _)=some r from h)
   |(h1,_)::_::_,h=>cases h1<;>cases (show (none:Option _)=some r from h)
  ·cases h
noncomputable def Z1O:Nat→List Int×Int×Int→Option ((Int×Int)×Int×Int)
 |0,_=>none
 |k+1,p0=>
  Option.bind (Z5v k (p0.1,p0.2.1,p0.2.2)) fun z0=>Option.bind (Z1 k (p0.1,z0.2.1,z0.2.2) (20:Int)) fun z1=>if decide (z1.1=0)=true then Option.bind (Zb k (p0.1,z1.2.1,z1.2.2) [(-1:Int),(8:Int)]) fun z2=>some ((z2.1,z0.1.2),z2.2.1,z2.2.2) else if decide (z1.1=1)=true then Option.bind (Zb k (p0.1,z1.2.1,z1.2.2) [(-1:Int),(1:Int),(2:Int)]) fun z3=>some ((z0.1.1,z3.1),z3.2.1,z3.2.2) else some ((z0.1.1,z0.1.2),z1.2.1,z1.2.2)
noncomputable def Z2C:FnDef:= .of ZlS Z7g ((Int×Int)×Int×Int) (fun k x=>Z1O k x.1) Zlp Zf3 Zsw
noncomputable def Zgm:Code:=Tryz.f132.body.getD .skip
noncomputable def Zbr:Ctx (Tup Z7g×OutD):={T:=T,G:=[(130,Z35.E),(116,Zq.E),(98,Zp.E)],mvs:=[],no:=2,n:=21,res:=resOf T ZlS Z7g Tryz.f132.results.toList,loops:=[],regs:=[],conds:=[],cuts:=[]}
theorem ZAP(k:Nat):EnvOK Tryz.prog k Zbr.G:=(EnvOK.cons (Zqu k) (EnvOK.cons (Z1I k) (EnvOK.cons (Z1S k) (EnvOK.nil mixed))))
theorem ZAt(k:Nat)(x:Tup Z2C.ps):Z2C.f (k+1) x=fnK Z2C Zbr Zgm k x:=by kernel_rfl
theorem ZA6(x:Tup Z2C.ps):Z2C.f 0 x=none:=by kernel_rfl
theorem ZAe(k:Nat):LOK Tryz.prog Zbr k Zgm:=LOK.by [] (by kernel_rfl) AllOK.nil
theorem ZAT(k:Nat):SoundAt Tryz.prog k 132 Z2C.E:= @Z5 Tryz.prog Z2C Zbr 132 Tryz.f132 Zgm (by kernel_rfl) (by kernel_rfl) (by kernel_rfl) Tryz.func132 (by kernel_rfl) (by kernel_rfl) (by kernel_rfl) T_ok ZAP ZAe ZA6 ZAt k
end
end Go.Proofs.YtmhfhiofcoggbaaGreat.Vs
