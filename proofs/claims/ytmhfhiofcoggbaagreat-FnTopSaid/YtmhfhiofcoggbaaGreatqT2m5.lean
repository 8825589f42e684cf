/- The proof, part 6. -/
import Derived.Test.YtmhfhiofcoggbaaGreatqT2m4
set_option maxRecDepth 100000
set_option maxHeartbeats 2000000
set_option linter.unusedVariables false
set_option linter.unusedSimpArgs false
namespace Go.Proofs.YtmhfhiofcoggbaaGreat.Vs
open Go.RowKit
noncomputable section
noncomputable def ZgC:List PK:=[PK.mk .bool false none false none]
noncomputable def ZB0:List PK:=[PK.mk (.pair I6 (.slice 3 I6)) true none false none,PK.mk (.pair I6 (.slice 3 I6)) true none false none]
noncomputable def ZyN(r:Bool):Tup ZgC×OutD:=((r,()),none)
noncomputable def Zz5:Tup ZgC×OutD→Option (Bool)
 |(a,none)=>some (a.1)
 |_=>none
theorem ZHC: ∀b r,Zz5 b=some r→ZyN r=b:=by
 rintro ⟨a,_|_⟩ r h<;>cases h;rfl
noncomputable def Zkk:Nat→Int×List Int→Int×List Int→Option Bool
 |0,_,_=>none
 |k+1,p0,p1=>
  if decide (p0.1=p1.1)=true then Option.bind (ZhV k p0.2 p1.2) fun z0=>some z0 else some false
noncomputable def Z7W:FnDef:= .of ZB0 ZgC (Bool) (fun k x=>Zkk k x.1 x.2.1) ZyN Zz5 ZHC
noncomputable def ZpR:Code:=Tryz.f10.body.getD .skip
noncomputable def Zkv:Ctx (Tup ZgC×OutD):={T:=T,G:=[(19,Z7e.E)],mvs:=[],no:=0,n:=17,res:=resOf T ZB0 ZgC Tryz.f10.results.toList,loops:=[],regs:=[],conds:=[],cuts:=[]}
theorem ZPH(k:Nat):EnvOK Tryz.prog k Zkv.G:=(EnvOK.cons (ZGs k) (EnvOK.nil mixed))
theorem ZQC(k:Nat)(x:Tup Z7W.ps):Z7W.f (k+1) x=fnK Z7W Zkv ZpR k x:=by kernel_rfl
theorem ZQ8(x:Tup Z7W.ps):Z7W.f 0 x=none:=by kernel_rfl
theorem ZR6(k:Nat):LOK Tryz.prog Zkv k ZpR:=LOK.by [] (by kernel_rfl) AllOK.nil
theorem ZR3(k:Nat):SoundAt Tryz.prog k 10 Z7W.E:= @Z5 Tryz.prog Z7W Zkv 10 Tryz.f10 ZpR (by kernel_rfl) (by kernel_rfl) (by kernel_rfl) Tryz.func10 (by kernel_rfl) (by kernel_rfl) (by kernel_rfl) T_ok ZPH ZR6 ZQ8 ZQC k
noncomputable def Zf9:List PK:=[PK.mk .bool false none false none]
noncomputable def ZyS:List PK:=[PK.mk (.pair I6 (.slice 3 I6)) true none false none]
noncomputable def ZuO(r:Bool):Tup Zf9×OutD:=((r,()),none)
noncomputable def Zvu:Tup Zf9×OutD→Option (Bool)
 |(a,none)=>some (a.1)
 |_=>none
theorem ZEA: ∀b r,Zvu b=some r→ZuO r=b:=by
 rintro ⟨a,_|_⟩ r h<;>cases h;rfl
noncomputable def Zf1:Nat→Int×List Int→Option Bool
 |0,_=>none
 |k+1,p0=>
  if decide (p0.1≥0)=true then if decide (p0.1≤4)=true then if p0.1<0 then none else if decide ((↑(List.length p0.2):Int)=shlS (1:Int) p0.1)=true then Option.bind (ZiH k p0.2) fun z0=>some z0 else some false else some false else some false
noncomputable def Z5a:FnDef:= .of ZyS Zf9 (Bool) (fun k x=>Zf1 k x.1) ZuO Zvu ZEA
noncomputable def Zox:Code:=Tryz.f30.body.getD .skip
noncomputable def Zj3:Ctx (Tup Zf9×OutD):={T:=T,G:=[(63,Z6J.E)],mvs:=[],no:=0,n:=25,res:=resOf T ZyS Zf9 Tryz.f30.results.toList,loops:=[],regs:=[],conds:=[],cuts:=[]}
theorem ZNO(k:Nat):EnvOK Tryz.prog k Zj3.G:=(EnvOK.cons (ZOq k) (EnvOK.nil mixed))
theorem ZON(k:Nat)(x:Tup Z5a.ps):Z5a.f (k+1) x=fnK Z5a Zj3 Zox k x:=by kernel_rfl
theorem ZOh(x:Tup Z5a.ps):Z5a.f 0 x=none:=by kernel_rfl
theorem ZO3(k:Nat):LOK Tryz.prog Zj3 k Zox:=LOK.by [] (by kernel_rfl) AllOK.nil
theorem Zy5(k:Nat):SoundAt Tryz.prog k 30 Z5a.E:= @Z5 Tryz.prog Z5a Zj3 30 Tryz.f30 Zox (by kernel_rfl) (by kernel_rfl) (by kernel_rfl) Tryz.func30 (by kernel_rfl) (by kernel_rfl) (by kernel_rfl) T_ok ZNO ZO3 ZOh ZON k
noncomputable def Z2P:List PK:=[PK.mk (.pair I6 (.pair I6 (.slice 76 P6))) true none false none,PK.mk I6 false none false none,PK.mk (.slice 3 I6) false none false none]
noncomputable def ZnF:List PK:=[PK.mk (.pair I6 (.slice 3 I6)) true none false none]
noncomputable def Zm0(r:(Int×Int×List (Int×Int))×Int×List Int):Tup Z2P×OutD:=((r.1,r.2.1,r.2.2,()),none)
noncomputable def Zm3:Tup Z2P×OutD→Option ((Int×Int×List (Int×Int))×Int×List Int)
 |(a,none)=>some (a.1,a.2.1,a.2.2.1)
 |_=>none
theorem Zui: ∀b r,Zm3 b=some r→Zm0 r=b:=by
 rintro ⟨a,_|_⟩ r h<;>cases h;rfl
noncomputable def Zff:Nat→Int→Int→List (Int×Int)→List Int→List Int→Int→Int→Int→Option (Int×Int×List (Int×Int)×List Int×List Int×Int)
 |0,_,_,_,_,_,_,_,_=>none
 |k+1,b1_0,b1_1,o2,o3,o4,v7,v20,v21=>
  if decide (v21<v20)=true then if (0:Int)≤v21 then if v21<(↑(List.length o3):Int) then if List.length o4+List.length [v21]≤(140737488355328/8:Nat) then Zff k b1_0 b1_1 o2 o3 (o4++[v21]) (wrap64 (v7+wrap64 ((1:Int)-List.getD o3 (Int.toNat v21) (0:Int)))) v20 (wrap64 (v21+1)) else none else none else none else some (b1_0,b1_1,o2,o3,o4,v7)
noncomputable def Zef:Spec:=Spec.mk [.ro,Obq,O0,O1,O1] [(2,.at (.ptr 1 0)),(5,.at (.sl 3)),(6,.at (.sl 4)),(7,.at (.int .i64)),(19,.at (.sl 3)),(20,.at (.int .i64)),(21,.at (.int .i64))]
noncomputable def Zwh:Spec:=Spec.mk [.ro,Obq,O0,O1,O1] [(2,.at (.ptr 1 0)),(5,.at (.sl 3)),(6,.at (.sl 4)),(7,.at (.int .i64))]
noncomputable def Z3Z:LoopDef (Tup Z2P×OutD):= .plain Zef Zwh (Int×Int×List (Int×Int)×List Int×List Int×Int) (fun k x=>Zff k x.1.2.1.1 x.1.2.1.2.1 x.1.2.2.1 x.1.2.2.2.1 x.1.2.2.2.2.1 x.2.2.2.2.1 x.2.2.2.2.2.2.1 x.2.2.2.2.2.2.2.1) (fun z=>(((),(z.1,z.2.1,(),()),z.2.2.1,z.2.2.2.1,z.2.2.2.2.1,()),((),(),(),z.2.2.2.2.2,()))) (fun y=>(y.1.2.1.1,y.1.2.1.2.1,y.1.2.2.1,y.1.2.2.2.1,y.1.2.2.2.2.1,y.2.2.2.2.1)) (fun _=>rfl)
noncomputable def Z4w:Nat→Int→Int→List (Int×Int)→List Int→List Int→Int→Int→List (Int×Int)→List (Int×Int)→Int→Int→Int→Option (Int×Int×List (Int×Int)×List Int×List Int×Int×Int×List (Int×Int)×List (Int×Int)×Int×Int)
 |0,_,_,_,_,_,_,_,_,_,_,_,_=>none
 |k+1,b1_0,b1_1,o2,o3,o4,b5_0,b5_1,o6,o7,v7,v11,v13=>
  if decide (wrap64 (v13+1)<(↑(List.length o3):Int))=true then if (0:Int)≤v13 then if v13<(↑(List.length o3):Int) then if decide (List.getD o3 (Int.toNat v13) (0:Int)=1)=true then if (0:Int)≤wrap64 (v13+1) then if wrap64 (v13+1)<(↑(List.length o3):Int) then if decide (List.getD o3 (Int.toNat (wrap64 (v13+1))) (0:Int)=0)=true then if (0:Int)≤v13 then if v13<(↑(List.length o7):Int) then if (0:Int)≤wrap64 (v13+1) then if wrap64 (v13+1)<(↑(List.length (List.set o7 (Int.toNat v13) ((2:Int),(0:Int)))):Int) then if (0:Int)≤v13 then if v13<(↑(List.length o3):Int) then if (0:Int)≤wrap64 (v13+1) then if wrap64 (v13+1)<(↑(List.length (List.set o3 (Int.toNat v13) (0:Int))):Int) then if (0:Int)≤wrap64 (v13+1) then if wrap64 (v13+1)<(↑(List.length o4):Int) then if (0:Int)≤v13 then if v13<(↑(List.length o4):Int) then if (0:Int)≤v13 then if v13<(↑(List.length o4):Int) then if (0:Int)≤wrap64 (v13+1) then if wrap64 (v13+1)<(↑(List.length (List.set o4 (Int.toNat v13) (List.getD o4 (Int.toNat (wrap64 (v13+1))) (0:Int)))):Int) then Z4w k b1_0 b1_1 o2 (List.set (List.set o3 (Int.toNat v13) (0:Int)) (Int.toNat (wrap64 (v13+1))) (1:Int)) (List.set (List.set o4 (Int.toNat v13) (List.getD o4 (Int.toNat (wrap64 (v13+1))) (0:Int))) (Int.toNat (wrap64 (v13+1))) (List.getD o4 (Int.toNat v13) (0:Int))) b5_0 b5_1 o6 (List.set (List.set o7 (Int.toNat v13) ((2:Int),(0:Int))) (Int.toNat (wrap64 (v13+1))) ((1:Int),(0:Int))) v7 v11 (wrap64 (v13+2)) else none else none else none else none else none else none else none else none else none else none else none else none else none else none else none else none else Z4w k b1_0 b1_1 o2 o3 o4 b5_0 b5_1 o6 o7 v7 v11 (wrap64 (v13+2)) else none else none else Z4w k b1_0 b1_1 o2 o3 o4 b5_0 b5_1 o6 o7 v7 v11 (wrap64 (v13+2)) else none else none else some (b1_0,b1_1,o2,o3,o4,b5_0,b5_1,o6,o7,v7,v11)
noncomputable def Ze9:Spec:=Spec.mk [.ro,Obq,O0,O1,O1,O7,O0,O0] [(2,.at (.ptr 1 0)),(5,.at (.sl 3)),(6,.at (.sl 4)),(7,.at (.int .i64)),(10,.at (.ptr 5 0)),(11,.at (.int .i64)),(12,.at (.sl 7)),(13,.at (.int .i64))]
noncomputable def Zwp:Spec:=Spec.mk [.ro,Obq,O0,O1,O1,O7,O0,O0] [(2,.at (.ptr 1 0)),(5,.at (.sl 3)),(6,.at (.sl 4)),(7,.at (.int .i64)),(10,.at (.ptr 5 0)),(11,.at (.int .i64)),(12,.at (.sl 7))]
noncomputable def Z3S:LoopDef (Tup Z2P×OutD):= .plain Ze9 Zwp (Int×Int×List (Int×Int)×List Int×List Int×Int×Int×List (Int×Int)×List (Int×Int)×Int×Int) (fun k x=>Z4w k x.1.2.1.1 x.1.2.1.2.1 x.1.2.2.1 x.1.2.2.2.1 x.1.2.2.2.2.1 x.1.2.2.2.2.2.1.1 x.1.2.2.2.2.2.1.2.1 x.1.2.2.2.2.2.2.1 x.1.2.2.2.2.2.2.2.1 x.2.2.2.2.1 x.2.2.2.2.2.2.1 x.2.2.2.2.2.2.2.2.1) (fun z=>(((),(z.1,z.2.1,(),()),z.2.2.1,z.2.2.2.1,z.2.2.2.2.1,(z.2.2.2.2.2.1,z.2.2.2.2.2.2.1,(),()),z.2.2.2.2.2.2.2.1,z.2.2.2.2.2.2.2.2.1,()),((),(),(),z.2.2.2.2.2.2.2.2.2.1,(),z.2.2.2.2.2.2.2.2.2.2,(),()))) (fun y=>(y.1.2.1.1,y.1.2.1.2.1,y.1.2.2.1,y.1.2.2.2.1,y.1.2.2.2.2.1,y.1.2.2.2.2.2.1.1,y.1.2.2.2.2.2.1.2.1,y.1.2.2.2.2.2.2.1,y.1.2.2.2.2.2.2.2.1,y.2.2.2.2.1,y.2.2.2.2.2.2.1)) (fun _=>rfl)
noncomputable def Za9:Nat→Int→Int→List (Int×Int)→List Int→List Int→Int→Int→List (Int×Int)→Int→Int→Option (Int×Int×List (Int×Int)×List Int×Int×Int×List (Int×Int)×Int)
 |0,_,_,_,_,_,_,_,_,_,_=>none
 |k+1,b1_0,b1_1,o2,o3,o4,b5_0,b5_1,o6,v7,v11=>
  if decide (v11=0)=true then if Int.toNat (↑(List.length o3):Int)*(16:Nat)≤(281474976710656:Nat) then Option.bind (Z4w k b1_0 b1_1 o2 o3 o4 b5_0 b5_1 o6 (List.replicate (Int.toNat (↑(List.length o3):Int)) ((0:Int),(0:Int))) v7 v11 (Int.tmod v11 (2:Int))) fun z1=>if List.length z1.2.2.2.2.2.2.2.1+List.length z1.2.2.2.2.2.2.2.2.1≤(140737488355328/16:Nat) then Za9 k z1.1 z1.2.1 z1.2.2.1 z1.2.2.2.1 z1.2.2.2.2.1 (wrap64 (z1.2.2.2.2.2.1+1)) z1.2.2.2.2.2.2.1 (z1.2.2.2.2.2.2.2.1++z1.2.2.2.2.2.2.2.2.1) z1.2.2.2.2.2.2.2.2.2.1 (wrap64 (z1.2.2.2.2.2.2.2.2.2.2+1)) else none else none else Option.bind (Zva k o3) fun z2=>if (!z2)=true then if Int.toNat (↑(List.length o3):Int)*(16:Nat)≤(281474976710656:Nat) then Option.bind (Z4w k b1_0 b1_1 o2 o3 o4 b5_0 b5_1 o6 (List.replicate (Int.toNat (↑(List.length o3):Int)) ((0:Int),(0:Int))) v7 v11 (Int.tmod v11 (2:Int))) fun z3=>if List.length z3.2.2.2.2.2.2.2.1+List.length z3.2.2.2.2.2.2.2.2.1≤(140737488355328/16:Nat) then Za9 k z3.1 z3.2.1 z3.2.2.1 z3.2.2.2.1 z3.2.2.2.2.1 (wrap64 (z3.2.2.2.2.2.1+1)) z3.2.2.2.2.2.2.1 (z3.2.2.2.2.2.2.2.1++z3.2.2.2.2.2.2.2.2.1) z3.2.2.2.2.2.2.2.2.2.1 (wrap64 (z3.2.2.2.2.2.2.2.2.2.2+1)) else none else none else some (b1_0,b1_1,o2,o4,b5_0,b5_1,o6,v7)
noncomputable def Ze5:Spec:=Spec.mk [.ro,Obq,O0,O1,O1,O7,O0] [(2,.at (.ptr 1 0)),(5,.at (.sl 3)),(6,.at (.sl 4)),(7,.at (.int .i64)),(10,.at (.ptr 5 0)),(11,.at (.int .i64))]
noncomputable def Zxe:Spec:=Spec.mk [.ro,Obq,O0,O1,Od,O0] [(2,.at (.ptr 1 0)),(6,.at (.sl 3)),(7,.at (.int .i64)),(10,.at (.ptr 4 0))]
noncomputable def Z3T:LoopDef (Tup Z2P×OutD):= .plain Ze5 Zxe (Int×Int×List (Int×Int)×List Int×Int×Int×List (Int×Int)×Int) (fun k x=>Za9 k x.1.2.1.1 x.1.2.1.2.1 x.1.2.2.1 x.1.2.2.2.1 x.1.2.2.2.2.1 x.1.2.2.2.2.2.1.1 x.1.2.2.2.2.2.1.2.1 x.1.2.2.2.2.2.2.1 x.2.2.2.2.1 x.2.2.2.2.2.2.1) (fun z=>(((),(z.1,z.2.1,(),()),z.2.2.1,z.2.2.2.1,(z.2.2.2.2.1,z.2.2.2.2.2.1,(),()),z.2.2.2.2.2.2.1,()),((),(),z.2.2.2.2.2.2.2,(),()))) (fun y=>(y.1.2.1.1,y.1.2.1.2.1,y.1.2.2.1,y.1.2.2.2.1,y.1.2.2.2.2.1.1,y.1.2.2.2.2.1.2.1,y.1.2.2.2.2.2.1,y.2.2.2.1)) (fun _=>rfl)
noncomputable def Z5R:Nat→Int×List Int→Option ((Int×Int×List (Int×Int))×Int×List Int)
 |0,_=>none
 |k+1,p0=>
  if (0:Nat)+List.length p0.2≤(140737488355328/8:Nat) then Option.bind (Zff k (0:Int) (0:Int) [] p0.2 [] (0:Int) (↑(List.length p0.2):Int) (0:Int)) fun z0=>Option.bind (Za9 k z0.1 z0.2.1 z0.2.2.1 z0.2.2.2.1 z0.2.2.2.2.1 (0:Int) (↑(List.length z0.2.2.2.1):Int) [] z0.2.2.2.2.2 (0:Int)) fun z4=>some ((z4.2.2.2.2.1,z4.2.2.2.2.2.1,z4.2.2.2.2.2.2.1),z4.2.2.2.2.2.2.2,z4.2.2.2.1) else none
noncomputable def Z2X:FnDef:= .of ZnF Z2P ((Int×Int×List (Int×Int))×Int×List Int) (fun k x=>Z5R k x.1) Zm0 Zm3 Zui
noncomputable def Z5V:Code:=Tryz.f31.body.getD .skip
noncomputable def ZG:Ctx (Tup Z2P×OutD):={T:=T,G:=[(64,Z5D.E)],mvs:=[],no:=0,n:=116,res:=resOf T ZnF Z2P Tryz.f31.results.toList,loops:=[(0,Z3Z.E),(4,Z3S.E),(2,Z3T.E)],regs:=[],conds:=[],cuts:=[]}
theorem Zcz(k:Nat):EnvOK Tryz.prog k ZG.G:=(EnvOK.cons (ZMg k) (EnvOK.nil mixed))
noncomputable def Z9E:Code:=(findLoop 0 Z5V).getD .skip
theorem Zwq(k:Nat)(x:Zef.D):Z3Z.lp (k+1) x=loopK ZG Z3Z 0 Z9E k x:=by kernel_rfl
theorem ZwV(k:Nat):LOK Tryz.prog ZG k Z9E:=LOK.by [] (by kernel_rfl) AllOK.nil
theorem Zxa(x:Zef.D):Z3Z.lp 0 x=none:=by kernel_rfl
theorem ZtD(k:Nat):EOK Tryz.prog ZG k Z3Z.E (.block 0 (.loop Z9E)):=Zd T_ok Zcz Zxa Zwq ZwV k
noncomputable def Z9D:Code:=(findLoop 4 Z5V).getD .skip
theorem ZvY(k:Nat)(x:Ze9.D):Z3S.lp (k+1) x=loopK ZG Z3S 4 Z9D k x:=by kernel_rfl
theorem Zx1(k:Nat):LOK Tryz.prog ZG k Z9D:=LOK.by [] (by kernel_rfl) AllOK.nil
theorem Zxg(x:Ze9.D):Z3S.lp 0 x=none:=by kernel_rfl
theorem ZtI(k:Nat):EOK Tryz.prog ZG k Z3S.E (.block 4 (.loop Z9D)):=Zd T_ok Zcz Zxg ZvY Zx1 k
noncomputable def Z9P:Code:=(findLoop 2 Z5V).getD .skip
theorem Zwb(k:Nat)(x:Ze5.D):Z3T.lp (k+1) x=loopK ZG Z3T 2 Z9P k x:=by kernel_rfl
theorem Zwd(k:Nat):LOK Tryz.prog ZG k Z9P:=LOK.by [(Z3S.E,.block 4 (.loop Z9D))] (by kernel_rfl) (AllOK.cons (ZtI k) AllOK.nil)
theorem ZwC(x:Ze5.D):Z3T.lp 0 x=none:=by kernel_rfl
theorem Zue(k:Nat):EOK Tryz.prog ZG k Z3T.E (.block 2 (.loop Z9P)):=Zd T_ok Zcz ZwC Zwb Zwd k
theorem ZCW(k:Nat)(x:Tup Z2X.ps):Z2X.f (k+1) x=fnK Z2X ZG Z5V k x:=by kernel_rfl
theorem ZDc(x:Tup Z2X.ps):Z2X.f 0 x=none:=by kernel_rfl
theorem ZDU(k:Nat):LOK Tryz.prog ZG k Z5V:=LOK.by [(Z3Z.E,.block 0 (.loop Z9E)),(Z3T.E,.block 2 (.loop Z9P))] (by kernel_rfl) (AllOK.cons (ZtD k) (AllOK.cons (Zue k) AllOK.nil))
theorem ZDk(k:Nat):SoundAt Tryz.prog k 31 Z2X.E:= @Z5 Tryz.prog Z2X ZG 31 Tryz.f31 Z5V (by kernel_rfl) (by kernel_rfl) (by kernel_rfl) Tryz.func31 (by kernel_rfl) (by kernel_rfl) (by kernel_rfl) T_ok Zcz ZDU ZDc ZCW k
noncomputable def ZeW:List PK:=[PK.mk I6 false none false none]
noncomputable def ZxM:List PK:=[PK.mk (.pair I6 (.slice 3 I6)) true none false none]
noncomputable def ZuF(r:Int):Tup ZeW×OutD:=((r,()),none)
noncomputable def ZvJ:Tup ZeW×OutD→Option (Int)
 |(a,none)=>some (a.1)
 |_=>none
theorem ZFy: ∀b r,ZvJ b=some r→ZuF r=b:=by
 rintro ⟨a,_|_⟩ r h<;>cases h;rfl
noncomputable def ZeV:Nat→Int×List Int→Option Int
 |0,_=>none
 |k+1,p0=>
  Option.bind (ZB1 k (p0.1,p0.2)) fun z0=>some (wrap64 ((↑(List.length p0.2):Int)-(↑(List.length z0):Int)))
noncomputable def Z6I:FnDef:= .of ZxM ZeW (Int) (fun k x=>ZeV k x.1) ZuF ZvJ ZFy
noncomputable def ZoB:Code:=Tryz.f34.body.getD .skip
noncomputable def ZiK:Ctx (Tup ZeW×OutD):={T:=T,G:=[(67,Z84.E)],mvs:=[],no:=0,n:=10,res:=resOf T ZxM ZeW Tryz.f34.results.toList,loops:=[],regs:=[],conds:=[],cuts:=[]}
theorem ZNz(k:Nat):EnvOK Tryz.prog k ZiK.G:=(EnvOK.cons (ZQS k) (EnvOK.nil mixed))
theorem ZOA(k:Nat)(x:Tup Z6I.ps):Z6I.f (k+1) x=fnK Z6I ZiK ZoB k x:=by kernel_rfl
theorem ZNn(x:Tup Z6I.ps):Z6I.f 0 x=none:=by kernel_rfl
theorem ZNu(k:Nat):LOK Tryz.prog ZiK k ZoB:=LOK.by [] (by kernel_rfl) AllOK.nil
theorem ZOP(k:Nat):SoundAt Tryz.prog k 34 Z6I.E:= @Z5 Tryz.prog Z6I ZiK 34 Tryz.f34 ZoB (by kernel_rfl) (by kernel_rfl) (by kernel_rfl) Tryz.func34 (by kernel_rfl) (by kernel_rfl) (by kernel_rfl) T_ok ZNz ZNu ZNn ZOA k
noncomputable def Z23:List PK:=[PK.mk (.slice 3 I6) false none false none]
noncomputable def Znk:List PK:=[PK.mk (.pair I6 (.pair I6 (.slice 76 P6))) true none false none]
noncomputable def Zm1(r:List Int):Tup Z23×OutD:=((r,()),none)
noncomputable def ZmG:Tup Z23×OutD→Option (List Int)
 |(a,none)=>some (a.1)
 |_=>none
theorem ZtN: ∀b r,ZmG b=some r→Zm1 r=b:=by
 rintro ⟨a,_|_⟩ r h<;>cases h;rfl
noncomputable def Z4y:Nat→Int→Int→List (Int×Int)→List Int→Int→Int→Option (Int×Int×List (Int×Int)×List Int)
 |0,_,_,_,_,_,_=>none
 |k+1,b1_0,b1_1,b1_2,o2,v17,v18=>
  if decide (v18<v17)=true then if (0:Int)≤v18 then if v18<(↑(List.length o2):Int) then Z4y k b1_0 b1_1 b1_2 (List.set o2 (Int.toNat v18) (-1:Int)) v17 (wrap64 (v18+1)) else none else none else some (b1_0,b1_1,b1_2,o2)
noncomputable def Zem:Spec:=Spec.mk [.ro,O2,O1] [(1,.at (.ptr 1 0)),(3,.at (.sl 2)),(17,.at (.int .i64)),(18,.at (.int .i64))]
noncomputable def ZvW:Spec:=Spec.mk [.ro,O2,O1] [(1,.at (.ptr 1 0)),(3,.at (.sl 2))]
noncomputable def Z42:LoopDef (Tup Z23×OutD):= .plain Zem ZvW (Int×Int×List (Int×Int)×List Int) (fun k x=>Z4y k x.1.2.1.1 x.1.2.1.2.1 x.1.2.1.2.2.1 x.1.2.2.1 x.2.2.2.1 x.2.2.2.2.1) (fun z=>(((),(z.1,z.2.1,z.2.2.1,()),z.2.2.2,()),((),(),()))) (fun y=>(y.1.2.1.1,y.1.2.1.2.1,y.1.2.1.2.2.1,y.1.2.2.1)) (fun _=>rfl)
noncomputable def Z2e:Nat→Int→Int→List (Int×Int)→List Int→List Int→List Int→Int→List (Int×Int)→Int→Int→Int→Int→Option (Int×Int×List (Int×Int)×List Int×List Int×Int×List (Int×Int)×Int×Int)
 |0,_,_,_,_,_,_,_,_,_,_,_,_=>none
 |k+1,b1_0,b1_1,b1_2,o2,o3,o4,v5,v26,v27,v28,v60,v61=>
  if decide (v61<v60)=true then if (0:Int)≤v61 then if v61<(↑(List.length o4):Int) then if (0:Int)≤List.getD o4 (Int.toNat v61) (0:Int) then if List.getD o4 (Int.toNat v61) (0:Int)<(↑(List.length b1_2):Int) then Option.bind (Zdq k (Prod.fst (List.getD b1_2 (Int.toNat (List.getD o4 (Int.toNat v61) (0:Int))) ((0:Int),(0:Int))),Prod.snd (List.getD b1_2 (Int.toNat (List.getD o4 (Int.toNat v61) (0:Int))) ((0:Int),(0:Int))))) fun z3=>if z3=true then if (0:Int)≤List.getD o4 (Int.toNat v61) (0:Int) then if List.getD o4 (Int.toNat v61) (0:Int)<(↑(List.length o2):Int) then if decide (List.getD o2 (Int.toNat (List.getD o4 (Int.toNat v61) (0:Int))) (0:Int)<0)=true then if (0:Int)≤List.getD o4 (Int.toNat v61) (0:Int) then if List.getD o4 (Int.toNat v61) (0:Int)<(↑(List.length o2):Int) then if List.length o3+List.length [List.getD o4 (Int.toNat v61) (0:Int)]≤(140737488355328/8:Nat) then Z2e k b1_0 b1_1 b1_2 (List.set o2 (Int.toNat (List.getD o4 (Int.toNat v61) (0:Int))) v5) (o3++[List.getD o4 (Int.toNat v61) (0:Int)]) o4 v5 v26 v27 v28 v60 (wrap64 (v61+1)) else none else none else none else Z2e k b1_0 b1_1 b1_2 o2 o3 o4 v5 v26 v27 v28 v60 (wrap64 (v61+1)) else none else none else Z2e k b1_0 b1_1 b1_2 o2 o3 o4 v5 v26 v27 v28 v60 (wrap64 (v61+1)) else none else none else none else none else some (b1_0,b1_1,b1_2,o2,o3,v5,v26,v27,v28)
noncomputable def Ze0:Spec:=Spec.mk [.ro,O2,O1,O1,O1] [(1,.at (.ptr 1 0)),(3,.at (.sl 2)),(5,.at (.int .i64)),(8,.at (.sl 3)),(26,.at (.snap 0 P6)),(27,.at (.int .i64)),(28,.at (.int .i64)),(59,.at (.sl 4)),(60,.at (.int .i64)),(61,.at (.int .i64))]
noncomputable def ZwB:Spec:=Spec.mk [.ro,O2,O1,O1] [(1,.at (.ptr 1 0)),(3,.at (.sl 2)),(5,.at (.int .i64)),(8,.at (.sl 3)),(26,.at (.snap 0 P6)),(27,.at (.int .i64)),(28,.at (.int .i64))]
noncomputable def Z41:LoopDef (Tup Z23×OutD):= .plain Ze0 ZwB (Int×Int×List (Int×Int)×List Int×List Int×Int×List (Int×Int)×Int×Int) (fun k x=>Z2e k x.1.2.1.1 x.1.2.1.2.1 x.1.2.1.2.2.1 x.1.2.2.1 x.1.2.2.2.1 x.1.2.2.2.2.1 x.2.2.2.1 x.2.2.2.2.2.1 x.2.2.2.2.2.2.1 x.2.2.2.2.2.2.2.1 x.2.2.2.2.2.2.2.2.2.1 x.2.2.2.2.2.2.2.2.2.2.1) (fun z=>(((),(z.1,z.2.1,z.2.2.1,()),z.2.2.2.1,z.2.2.2.2.1,()),((),(),z.2.2.2.2.2.1,(),z.2.2.2.2.2.2.1,z.2.2.2.2.2.2.2.1,z.2.2.2.2.2.2.2.2,()))) (fun y=>(y.1.2.1.1,y.1.2.1.2.1,y.1.2.1.2.2.1,y.1.2.2.1,y.1.2.2.2.1,y.2.2.2.1,y.2.2.2.2.2.1,y.2.2.2.2.2.2.1,y.2.2.2.2.2.2.2.1)) (fun _=>rfl)
noncomputable def Z3k:Nat→Int→Int→List (Int×Int)→List Int→List Int→Int→List (Int×Int)→Int→Int→Option (Int×Int×List (Int×Int)×List Int×Int×List (Int×Int)×Int×Int)
 |0,_,_,_,_,_,_,_,_,_=>none
 |k+1,b1_0,b1_1,b1_2,o2,o3,v5,v26,v27,v28=>
  if decide ((↑(List.length o3):Int)>0)=true then if (0:Int)<(↑(List.length o3):Int) then if (1:Int)≤(↑(List.length o3):Int) then if (↑(List.length o3):Int)≤(↑(List.length o3):Int) then Option.bind (Zhy k (b1_0,b1_1,b1_2) (List.getD o3 (Int.toNat (0:Int)) (0:Int))) fun z2=>Option.bind (Z2e k b1_0 b1_1 b1_2 o2 (List.drop (Int.toNat (1:Int)) o3) z2 v5 v26 v27 v28 (↑(List.length z2):Int) (0:Int)) fun z4=>Z3k k z4.1 z4.2.1 z4.2.2.1 z4.2.2.2.1 z4.2.2.2.2.1 z4.2.2.2.2.2.1 z4.2.2.2.2.2.2.1 z4.2.2.2.2.2.2.2.1 z4.2.2.2.2.2.2.2.2 else none else none else none else some (b1_0,b1_1,b1_2,o2,v5,v26,v27,v28)
noncomputable def Ze3:Spec:=Spec.mk [.ro,O2,O1,O1] [(1,.at (.ptr 1 0)),(3,.at (.sl 2)),(5,.at (.int .i64)),(8,.at (.sl 3)),(26,.at (.snap 0 P6)),(27,.at (.int .i64)),(28,.at (.int .i64))]
noncomputable def Zw9:Spec:=Spec.mk [.ro,O2,O1] [(1,.at (.ptr 1 0)),(3,.at (.sl 2)),(5,.at (.int .i64)),(26,.at (.snap 0 P6)),(27,.at (.int .i64)),(28,.at (.int .i64))]
noncomputable def Z3P:LoopDef (Tup Z23×OutD):= .plain Ze3 Zw9 (Int×Int×List (Int×Int)×List Int×Int×List (Int×Int)×Int×Int) (fun k x=>Z3k k x.1.2.1.1 x.1.2.1.2.1 x.1.2.1.2.2.1 x.1.2.2.1 x.1.2.2.2.1 x.2.2.2.1 x.2.2.2.2.2.1 x.2.2.2.2.2.2.1 x.2.2.2.2.2.2.2.1) (fun z=>(((),(z.1,z.2.1,z.2.2.1,()),z.2.2.2.1,()),((),(),z.2.2.2.2.1,z.2.2.2.2.2.1,z.2.2.2.2.2.2.1,z.2.2.2.2.2.2.2,()))) (fun y=>(y.1.2.1.1,y.1.2.1.2.1,y.1.2.1.2.2.1,y.1.2.2.1,y.2.2.2.1,y.2.2.2.2.1,y.2.2.2.2.2.1,y.2.2.2.2.2.2.1)) (fun _=>rfl)
noncomputable def Z1v:Nat→Int→Int→List (Int×Int)→List Int→Int→List (Int×Int)→Int→Int→Option (List Int)
 |0,_,_,_,_,_,_,_,_=>none
 |k+1,b1_0,b1_1,b1_2,o2,v5,v26,v27,v28=>
  if decide (v28<v27)=true then if (0:Int)≤v28 then if v28<(↑(List.length v26):Int) then Option.bind (Zdq k (Prod.fst (List.getD v26 (Int.toNat v28) ((0:Int),(0:Int))),Prod.snd (List.getD v26 (Int.toNat v28) ((0:Int),(0:Int))))) fun z1=>if (!z1)=true then Z1v k b1_0 b1_1 b1_2 o2 v5 v26 v27 (wrap64 (v28+1)) else if (0:Int)≤v28 then if v28<(↑(List.length o2):Int) then if decide (List.getD o2 (Int.toNat v28) (0:Int)≥0)=true then Z1v k b1_0 b1_1 b1_2 o2 v5 v26 v27 (wrap64 (v28+1)) else if (0:Int)≤v28 then if v28<(↑(List.length o2):Int) then Option.bind (Z3k k b1_0 b1_1 b1_2 (List.set o2 (Int.toNat v28) v5) [v28] v5 v26 v27 v28) fun z5=>Z1v k z5.1 z5.2.1 z5.2.2.1 z5.2.2.2.1 (wrap64 (z5.2.2.2.2.1+1)) z5.2.2.2.2.2.1 z5.2.2.2.2.2.2.1 (wrap64 (z5.2.2.2.2.2.2.2+1)) else none else none else none else none else none else none else some o2
noncomputable def Zen:Spec:=Spec.mk [.ro,O2,O1] [(1,.at (.ptr 1 0)),(3,.at (.sl 2)),(5,.at (.int .i64)),(26,.at (.snap 0 P6)),(27,.at (.int .i64)),(28,.at (.int .i64))]
noncomputable def ZwI:Spec:=Spec.mk [.ro,O1] [(3,.at (.sl 1))]
noncomputable def Z43:LoopDef (Tup Z23×OutD):= .plain Zen ZwI (List Int) (fun k x=>Z1v k x.1.2.1.1 x.1.2.1.2.1 x.1.2.1.2.2.1 x.1.2.2.1 x.2.2.2.1 x.2.2.2.2.1 x.2.2.2.2.2.1 x.2.2.2.2.2.2.1) (fun z=>(((),z,()),((),()))) (fun y=>(y.1.2.1)) (fun _=>rfl)
noncomputable def Z24:Nat→Int×Int×List (Int×Int)→Option (List Int)
 |0,_=>none
 |k+1,p0=>
  if Int.toNat (↑(List.length p0.2.2):Int)*(8:Nat)≤(281474976710656:Nat) then Option.bind (Z4y k p0.1 p0.2.1 p0.2.2 (List.replicate (Int.toNat (↑(List.length p0.2.2):Int)) (0:Int)) (↑(List.length (List.replicate (Int.toNat (↑(List.length p0.2.2):Int)) (0:Int))):Int) (0:Int)) fun z0=>Option.bind (Z1v k z0.1 z0.2.1 z0.2.2.1 z0.2.2.2 (0:Int) z0.2.2.1 (↑(List.length z0.2.2.1):Int) (0:Int)) fun z6=>some z6 else none
noncomputable def Z1D:FnDef:= .of Znk Z23 (List Int) (fun k x=>Z24 k x.1) Zm1 ZmG ZtN
noncomputable def Z4e:Code:=Tryz.f42.body.getD .skip
noncomputable def Zr:Ctx (Tup Z23×OutD):={T:=T,G:=[(72,Z5I.E),(73,Z5C.E)],mvs:=[56],no:=0,n:=91,res:=resOf T Znk Z23 Tryz.f42.results.toList,loops:=[(0,Z42.E),(6,Z41.E),(4,Z3P.E),(2,Z43.E)],regs:=[],conds:=[],cuts:=[]}
theorem Z8s(k:Nat):EnvOK Tryz.prog k Zr.G:=(EnvOK.cons (ZN3 k) (EnvOK.cons (ZMx k) (EnvOK.nil mixed)))
noncomputable def Z9O:Code:=(findLoop 0 Z4e).getD .skip
theorem Zx3(k:Nat)(x:Zem.D):Z42.lp (k+1) x=loopK Zr Z42 0 Z9O k x:=by kernel_rfl
theorem Zws(k:Nat):LOK Tryz.prog Zr k Z9O:=LOK.by [] (by kernel_rfl) AllOK.nil
theorem Zxf(x:Zem.D):Z42.lp 0 x=none:=by kernel_rfl
theorem Zud(k:Nat):EOK Tryz.prog Zr k Z42.E (.block 0 (.loop Z9O)):=Zd T_ok Z8s Zxf Zx3 Zws k
noncomputable def Z9q:Code:=(findLoop 6 Z4e).getD .skip
theorem Zx2(k:Nat)(x:Ze0.D):Z41.lp (k+1) x=loopK Zr Z41 6 Z9q k x:=by kernel_rfl
theorem ZwF(k:Nat):LOK Tryz.prog Zr k Z9q:=LOK.by [] (by kernel_rfl) AllOK.nil
theorem Zw5(x:Ze0.D):Z41.lp 0 x=none:=by kernel_rfl
theorem Zum(k:Nat):EOK Tryz.prog Zr k Z41.E (.block 6 (.loop Z9q)):=Zd T_ok Z8s Zw5 Zx2 ZwF k
noncomputable def Z9K:Code:=(findLoop 4 Z4e).getD .skip
theorem Zwr(k:Nat)(x:Ze3.D):Z3P.lp (k+1) x=loopK Zr Z3P 4 Z9K k x:=by kernel_rfl
theorem ZwZ(k:Nat):LOK Tryz.prog Zr k Z9K:=LOK.by [(Z41.E,.block 6 (.loop Z9q))] (by kernel_rfl) (AllOK.cons (Zum k) AllOK.nil)
theorem ZvU(x:Ze3.D):Z3P.lp 0 x=none:=by kernel_rfl
theorem Zu4(k:Nat):EOK Tryz.prog Zr k Z3P.E (.block 4 (.loop Z9K)):=Zd T_ok Z8s ZvU Zwr ZwZ k
noncomputable def Z9z:Code:=(findLoop 2 Z4e).getD .skip
theorem Zw2(k:Nat)(x:Zen.D):Z43.lp (k+1) x=loopK Zr Z43 2 Z9z k x:=by kernel_rfl
theorem ZwQ(k:Nat):LOK Tryz.prog Zr k Z9z:=LOK.by [(Z3P.E,.block 4 (.loop Z9K))] (by kernel_rfl) (AllOK.cons (Zu4 k) AllOK.nil)
theorem ZvQ(x:Zen.D):Z43.lp 0 x=none:=by kernel_rfl
theorem Zu6(k:Nat):EOK Tryz.prog Zr k Z43.E (.block 2 (.loop Z9z)):=Zd T_ok Z8s ZvQ Zw2 ZwQ k
theorem ZDh(k:Nat)(x:Tup Z1D.ps):Z1D.f (k+1) x=fnK Z1D Zr Z4e k x:=by kernel_rfl
theorem ZDj(x:Tup Z1D.ps):Z1D.f 0 x=none:=by kernel_rfl
theorem ZCA(k:Nat):LOK Tryz.prog Zr k Z4e:=LOK.by [(Z42.E,.block 0 (.loop Z9O)),(Z43.E,.block 2 (.loop Z9z))] (by kernel_rfl) (AllOK.cons (Zud k) (AllOK.cons (Zu6 k) AllOK.nil))
theorem ZgW(k:Nat):SoundAt Tryz.prog k 42 Z1D.E:= @Z5 Tryz.prog Z1D Zr 42 Tryz.f42 Z4e (by kernel_rfl) (by kernel_rfl) (by kernel_rfl) Tryz.func42 (by kernel_rfl) (by kernel_rfl) (by kernel_rfl) T_ok Z8s ZCA ZDj ZDh k
noncomputable def Z1m:List PK:=[PK.mk .bool false none false none]
noncomputable def Z9o:List PK:=[PK.mk (.slice 76 P6) false none false none,PK.mk P6 true none false none]
noncomputable def Z8m(r:Bool):Tup Z1m×OutD:=((r,()),none)
noncomputable def Z8x:Tup Z1m×OutD→Option (Bool)
 |(a,none)=>some (a.1)
 |_=>none
theorem Zft: ∀b r,Z8x b=some r→Z8m r=b:=by
 rintro ⟨a,_|_⟩ r h<;>cases h;rfl
noncomputable def Z1n:Nat→List (Int×Int)→Int×Int→Option Bool
 |0,_,_=>none
 |k+1,p0,p1=>
  Option.bind (Z13 k p0 (p1.1,p1.2)) fun z0=>some (decide (z0≥(0:Int)))
noncomputable def Zm:FnDef:= .of Z9o Z1m (Bool) (fun k x=>Z1n k x.1 x.2.1) Z8m Z8x Zft
noncomputable def Z4s:Code:=Tryz.f48.body.getD .skip
noncomputable def Z2l:Ctx (Tup Z1m×OutD):={T:=T,G:=[(81,Zt.E)],mvs:=[],no:=0,n:=9,res:=resOf T Z9o Z1m Tryz.f48.results.toList,loops:=[],regs:=[],conds:=[],cuts:=[]}
theorem ZhB(k:Nat):EnvOK Tryz.prog k Z2l.G:=(EnvOK.cons (ZjH k) (EnvOK.nil mixed))
theorem ZhG(k:Nat)(x:Tup Zm.ps):Zm.f (k+1) x=fnK Zm Z2l Z4s k x:=by kernel_rfl
theorem ZhF(x:Tup Zm.ps):Zm.f 0 x=none:=by kernel_rfl
theorem ZhM(k:Nat):LOK Tryz.prog Z2l k Z4s:=LOK.by [] (by kernel_rfl) AllOK.nil
theorem Z9n(k:Nat):SoundAt Tryz.prog k 48 Zm.E:= @Z5 Tryz.prog Zm Z2l 48 Tryz.f48 Z4s (by kernel_rfl) (by kernel_rfl) (by kernel_rfl) Tryz.func48 (by kernel_rfl) (by kernel_rfl) (by kernel_rfl) T_ok ZhB ZhM ZhF ZhG k
noncomputable def ZgG:BSig:=BSig.mk (111:Nat) [some ((3:Nat),Ty.int .i64),some ((3:Nat),Ty.int .i64),some ((76:Nat),Ty.pair (Ty.int .i64) (Ty.int .i64)),none]
noncomputable def ZQi:List KP:=[KP.tree true (Ty.pair (Ty.int .i64) (Ty.slice (3:Nat) (Ty.int .i64)))]
noncomputable def Zma:Nat→Int→List Int→List Int→List (Int×Int)→Int→Int→Option (Int×List Int×List Int×List (Int×Int))
 |0,_,_,_,_,_,_=>none
 |k+1,b1_3,o2,o3,o4,v12,v13=>
  if decide (v13<v12)=true then if List.length o3+List.length [v13]≤(140737488355328/8:Nat) then Zma k b1_3 o2 (o3++[v13]) o4 v12 (wrap64 (v13+1)) else none else some (b1_3,o2,o3,o4)
noncomputable def ZkO:Spec:=Spec.mk [.ro,Oe,O1,O1,O0] [(3,.at (.ptr 1 0)),(12,.at (.int .i64)),(13,.at (.int .i64))]
noncomputable def ZKh:Spec:=Spec.mk [.ro,Oe,O1,O1,O0] [(3,.at (.ptr 1 0))]
noncomputable def Z8A:LoopDef (FD ZgG.fs):= .plain ZkO ZKh (Int×List Int×List Int×List (Int×Int)) (fun k x=>Zma k x.1.2.1.2.2.2.1 x.1.2.2.1 x.1.2.2.2.1 x.1.2.2.2.2.1 x.2.2.1 x.2.2.2.1) (fun z=>(((),((),(),(),z.1,()),z.2.1,z.2.2.1,z.2.2.2,()),((),()))) (fun y=>(y.1.2.1.2.2.2.1,y.1.2.2.1,y.1.2.2.2.1,y.1.2.2.2.2.1)) (fun _=>rfl)
noncomputable def ZlV:Nat→Int→List Int→List Int→List (Int×Int)→Option (Int×List Int×List Int×List (Int×Int))
 |0,_,_,_,_=>none
 |k+1,b1_3,o2,o3,o4=>
  Option.bind (BDef.f Z1C k (o2,o3,o4,b1_3,())) fun z3=>if (!z3.2)=true then Option.bind (BDef.f Z1o k (z3.1.1,z3.1.2.1,z3.1.2.2.1,z3.1.2.2.2.1,())) fun z4=>ZlV k z4.1.2.2.2.1 z4.1.1 z4.1.2.1 z4.1.2.2.1 else some (z3.1.2.2.2.1,z3.1.1,z3.1.2.1,z3.1.2.2.1)
noncomputable def ZkM:Spec:=Spec.mk [.ro,Oe,O1,O1,O0] [(3,.at (.ptr 1 0))]
noncomputable def ZKU:Spec:=Spec.mk [.ro,Oe,O1,O1,O0] [(3,.at (.ptr 1 0))]
noncomputable def Z94:LoopDef (FD ZgG.fs):= .plain ZkM ZKU (Int×List Int×List Int×List (Int×Int)) (fun k x=>ZlV k x.1.2.1.2.2.2.1 x.1.2.2.1 x.1.2.2.2.1 x.1.2.2.2.2.1) (fun z=>(((),((),(),(),z.1,()),z.2.1,z.2.2.1,z.2.2.2,()),((),()))) (fun y=>(y.1.2.1.2.2.2.1,y.1.2.2.1,y.1.2.2.2.1,y.1.2.2.2.2.1)) (fun _=>rfl)
noncomputable def ZR9:Nat→Int×List Int→Option (List Int×List Int×List (Int×Int)×Int×Unit)
 |0,_=>none
 |k+1,p0=>
  Option.bind (ZFq k p0.2) fun z0=>Option.bind (Zma k (0:Int) z0 [] [] (↑(List.length p0.2):Int) (0:Int)) fun z1=>Option.bind (BDef.f Z1o k (z1.2.1,z1.2.2.1,z1.2.2.2,z1.1,())) fun z2=>Option.bind (ZlV k z2.1.2.2.2.1 z2.1.1 z2.1.2.1 z2.1.2.2.1) fun z5=>some (z5.2.1,z5.2.2.1,z5.2.2.2,z5.1,())
noncomputable def Z68:PDef:=⟨ZQi,ZgG,2,fun k x=>ZR9 k x.1⟩
noncomputable def ZgM:Code:=Tryz.f66.body.getD .skip
noncomputable def Z4W:Ctx (FD ZgG.fs):={T:=T,G:=[(102,Z9Y.E),(103,cloE Z1o.E),(104,cloE Z1C.E)],mvs:=[],no:=0,n:=35,res:=BSig.out ZgG 2,loops:=[(0,Z8A.E),(2,Z94.E)],regs:=[],conds:=[],cuts:=[]}
theorem Zq6(k:Nat):EnvOK Tryz.prog k Z4W.G:=(EnvOK.cons (ZSi k) (EnvOK.consC (ZAx k) (EnvOK.consC (ZxY k) (EnvOK.nil mixed))))
noncomputable def ZfT:Code:=(findLoop 0 ZgM).getD .skip
theorem ZKV(k:Nat)(x:ZkO.D):Z8A.lp (k+1) x=loopK Z4W Z8A 0 ZfT k x:=by kernel_rfl
theorem ZJJ(k:Nat):LOK Tryz.prog Z4W k ZfT:=LOK.by [] (by kernel_rfl) AllOK.nil
theorem ZKH(x:ZkO.D):Z8A.lp 0 x=none:=by kernel_rfl
theorem ZHq(k:Nat):EOK Tryz.prog Z4W k Z8A.E (.block 0 (.loop ZfT)):=Zd T_ok Zq6 ZKH ZKV ZJJ k
noncomputable def Zg3:Code:=(findLoop 2 ZgM).getD .skip
theorem ZL9(k:Nat)(x:ZkM.D):Z94.lp (k+1) x=loopK Z4W Z94 2 Zg3 k x:=by kernel_rfl
theorem ZL8(k:Nat):LOK Tryz.prog Z4W k Zg3:=LOK.by [] (by kernel_rfl) AllOK.nil
theorem ZJv(x:ZkM.D):Z94.lp 0 x=none:=by kernel_rfl
theorem ZIE(k:Nat):EOK Tryz.prog Z4W k Z94.E (.block 2 (.loop Zg3)):=Zd T_ok Zq6 ZJv ZL9 ZL8 k
theorem ZQd(k:Nat)(x:KTup Z68.ps):Z68.f (k+1) x=fnKP Z68 Z4W ZgM k x:=by kernel_rfl
theorem ZQI(x:KTup Z68.ps):Z68.f 0 x=none:=by kernel_rfl
theorem ZPJ(k:Nat):LOK Tryz.prog Z4W k ZgM:=LOK.by [(Z8A.E,.block 0 (.loop ZfT)),(Z94.E,.block 2 (.loop Zg3))] (by kernel_rfl) (AllOK.cons (ZHq k) (AllOK.cons (ZIE k) AllOK.nil))
theorem ZQm(k:Nat):ClSound Tryz.prog k 66 Z68.E:= @ZX7 Tryz.prog Z68 Z4W 66 Tryz.f66 ZgM (by kernel_rfl) (by kernel_rfl) (by kernel_rfl) Tryz.func66 (by kernel_rfl) (by kernel_rfl) (by kernel_rfl) T_ok Zq6 ZPJ ZQI ZQd k
noncomputable def Z7A:List PK:=[PK.mk .bool false none false none]
noncomputable def Zqt:List PK:=[PK.mk (.slice 76 P6) false none false none]
noncomputable def Zi2(r:Bool):Tup Z7A×OutD:=((r,()),none)
noncomputable def ZhT:Tup Z7A×OutD→Option (Bool)
 |(a,none)=>some (a.1)
 |_=>none
theorem Zlu: ∀b r,ZhT b=some r→Zi2 r=b:=by
 rintro ⟨a,_|_⟩ r h<;>cases h;rfl
noncomputable def Z5O:Nat→List (Int×Int)→Int→Int→Option (LR Unit Bool)
 |0,_,_,_=>none
 |k+1,v8,v9,v10=>
  if decide (v10<v9)=true then if (0:Int)≤v10 then if v10<(↑(List.length v8):Int) then Option.bind (ZaT k (Prod.fst (List.getD v8 (Int.toNat v10) ((0:Int),(0:Int))),Prod.snd (List.getD v8 (Int.toNat v10) ((0:Int),(0:Int))))) fun z0=>if (!z0)=true then some (LR.ret false) else Z5O k v8 v9 (wrap64 (v10+1)) else none else none else some (LR.go ())
noncomputable def Zgq:Spec:=Spec.mk [.ro] [(8,.at (.snap 0 P6)),(9,.at (.int .i64)),(10,.at (.int .i64))]
noncomputable def ZAO:Spec:=Spec.mk [.ro] []
noncomputable def Z5n:LoopDef (Tup Z7A×OutD):= .rets Zgq ZAO (Unit) (Bool) (fun k x=>Z5O k x.2.1 x.2.2.1 x.2.2.2.1) (fun z=>(((),()),(()))) (fun y=>()) (fun _=>rfl) Zi2 ZhT Zlu
noncomputable def ZeH:Nat→List (Int×Int)→Option Bool
 |0,_=>none
 |k+1,p0=>
  if decide ((↑(List.length p0):Int)>90)=true then some false else Option.bind (Z5O k p0 (↑(List.length p0):Int) (0:Int)) fun z1=>LR.on z1 (fun y1=>some true) fun r1=>some r1
noncomputable def Z4d:FnDef:= .of Zqt Z7A (Bool) (fun k x=>ZeH k x.1) Zi2 ZhT Zlu
noncomputable def Zeq:Code:=Tryz.f69.body.getD .skip
noncomputable def Z5u:Ctx (Tup Z7A×OutD):={T:=T,G:=[(74,Z3O.E)],mvs:=[],no:=0,n:=18,res:=resOf T Zqt Z7A Tryz.f69.results.toList,loops:=[(0,Z5n.E)],regs:=[],conds:=[],cuts:=[]}
theorem ZqJ(k:Nat):EnvOK Tryz.prog k Z5u.G:=(EnvOK.cons (Zkt k) (EnvOK.nil mixed))
noncomputable def Zbt:Code:=(findLoop 0 Zeq).getD .skip
theorem ZAy(k:Nat)(x:Zgq.D):Z5n.lp (k+1) x=loopK Z5u Z5n 0 Zbt k x:=by kernel_rfl
theorem ZzO(k:Nat):LOK Tryz.prog Z5u k Zbt:=LOK.by [] (by kernel_rfl) AllOK.nil
theorem ZAk(x:Zgq.D):Z5n.lp 0 x=none:=by kernel_rfl
theorem ZxN(k:Nat):EOK Tryz.prog Z5u k Z5n.E (.block 0 (.loop Zbt)):=Zd T_ok ZqJ ZAk ZAy ZzO k
theorem ZHS(k:Nat)(x:Tup Z4d.ps):Z4d.f (k+1) x=fnK Z4d Z5u Zeq k x:=by kernel_rfl
theorem ZGW(x:Tup Z4d.ps):Z4d.f 0 x=none:=by kernel_rfl
theorem ZIA(k:Nat):LOK Tryz.prog Z5u k Zeq:=LOK.by [(Z5n.E,.block 0 (.loop Zbt))] (by kernel_rfl) (AllOK.cons (ZxN k) AllOK.nil)
theorem ZGQ(k:Nat):SoundAt Tryz.prog k 69 Z4d.E:= @Z5 Tryz.prog Z4d Z5u 69 Tryz.f69 Zeq (by kernel_rfl) (by kernel_rfl) (by kernel_rfl) Tryz.func69 (by kernel_rfl) (by kernel_rfl) (by kernel_rfl) T_ok ZqJ ZIA ZGW ZHS k
noncomputable def ZgO:List PK:=[PK.mk I6 false none false none,PK.mk .bool false none false none]
noncomputable def ZBg:List PK:=[PK.mk P6 true none false none,PK.mk I6 false none false none]
noncomputable def ZxP(r:Int×Bool):Tup ZgO×OutD:=((r.1,r.2,()),none)
noncomputable def Zy2:Tup ZgO×OutD→Option (Int×Bool)
 |(a,none)=>some (a.1,a.2.1)
 |_=>none
theorem ZIc: ∀b r,Zy2 b=some r→ZxP r=b:=by
 rintro ⟨a,_|_⟩ r h<;>cases h;rfl
noncomputable def Zgw:Nat→Int×Int→Int→Option (Int×Bool)
 |0,_,_=>none
 |k+1,p0,p1=>
  Option.bind (ZaT k (p0.1,p0.2)) fun z0=>if (!z0)=true then some ((0:Int),false) else if decide (p1<(-1:Int))=true then some ((0:Int),false) else if decide (p1>1)=true then some ((0:Int),false) else if decide (p0.1=5)=true then some ((0:Int),false) else if decide (p0.1=1)=true then some ((-1:Int),true) else if decide (p0.1=2)=true then some ((1:Int),true) else if decide (p0.1=3)=true then some (wrap64 (wrap64 ((2:Int)*p0.2)-1),true) else if decide (p0.1=6)=true then some (wrap64 (wrap64 ((2:Int)*p0.2)-1),true) else if decide (p0.1=4)=true then some (wrap64 ((0:Int)-p1),true) else some ((0:Int),true)
noncomputable def Z6e:FnDef:= .of ZBg ZgO (Int×Bool) (fun k x=>Zgw k x.1 x.2.1) ZxP Zy2 ZIc
noncomputable def Zqi:Code:=Tryz.f70.body.getD .skip
noncomputable def ZkG:Ctx (Tup ZgO×OutD):={T:=T,G:=[(74,Z3O.E)],mvs:=[],no:=0,n:=39,res:=resOf T ZBg ZgO Tryz.f70.results.toList,loops:=[],regs:=[],conds:=[],cuts:=[]}
theorem ZQD(k:Nat):EnvOK Tryz.prog k ZkG.G:=(EnvOK.cons (Zkt k) (EnvOK.nil mixed))
theorem ZPI(k:Nat)(x:Tup Z6e.ps):Z6e.f (k+1) x=fnK Z6e ZkG Zqi k x:=by kernel_rfl
theorem ZQo(x:Tup Z6e.ps):Z6e.f 0 x=none:=by kernel_rfl
theorem ZQQ(k:Nat):LOK Tryz.prog ZkG k Zqi:=LOK.by [] (by kernel_rfl) AllOK.nil
theorem ZB9(k:Nat):SoundAt Tryz.prog k 70 Z6e.E:= @Z5 Tryz.prog Z6e ZkG 70 Tryz.f70 Zqi (by kernel_rfl) (by kernel_rfl) (by kernel_rfl) Tryz.func70 (by kernel_rfl) (by kernel_rfl) (by kernel_rfl) T_ok ZQD ZQQ ZQo ZPI k
noncomputable def ZgI:List PK:=[PK.mk .bool false none false none]
noncomputable def ZBb:List PK:=[PK.mk P6 true none false none]
noncomputable def ZyL(r:Bool):Tup ZgI×OutD:=((r,()),none)
noncomputable def ZzC:Tup ZgI×OutD→Option (Bool)
 |(a,none)=>some (a.1)
 |_=>none
theorem ZI9: ∀b r,ZzC b=some r→ZyL r=b:=by
 rintro ⟨a,_|_⟩ r h<;>cases h;rfl
noncomputable def Zgr:Nat→Int×Int→Option Bool
 |0,_=>none
 |k+1,p0=>
  Option.bind (Z1f k p0.1 (0:Int) (7:Int)) fun z0=>if z0=true then if decide (p0.2=0)=true then some true else if decide (p0.2=1)=true then Option.bind (Z6n k (p0.1,p0.2)) fun z1=>some z1 else some false else some false
noncomputable def Z6b:FnDef:= .of ZBb ZgI (Bool) (fun k x=>Zgr k x.1) ZyL ZzC ZI9
noncomputable def Zq2:Code:=Tryz.f75.body.getD .skip
noncomputable def Zky:Ctx (Tup ZgI×OutD):={T:=T,G:=[(76,Z2j.E),(105,Z2I.E)],mvs:=[],no:=0,n:=20,res:=resOf T ZBb ZgI Tryz.f75.results.toList,loops:=[],regs:=[],conds:=[],cuts:=[]}
theorem ZQu(k:Nat):EnvOK Tryz.prog k Zky.G:=(EnvOK.cons (Z9L k) (EnvOK.cons (ZkP k) (EnvOK.nil mixed)))
theorem ZQa(k:Nat)(x:Tup Z6b.ps):Z6b.f (k+1) x=fnK Z6b Zky Zq2 k x:=by kernel_rfl
theorem ZQc(x:Tup Z6b.ps):Z6b.f 0 x=none:=by kernel_rfl
theorem ZQP(k:Nat):LOK Tryz.prog Zky k Zq2:=LOK.by [] (by kernel_rfl) AllOK.nil
theorem ZBO(k:Nat):SoundAt Tryz.prog k 75 Z6b.E:= @Z5 Tryz.prog Z6b Zky 75 Tryz.f75 Zq2 (by kernel_rfl) (by kernel_rfl) (by kernel_rfl) Tryz.func75 (by kernel_rfl) (by kernel_rfl) (by kernel_rfl) T_ok ZQu ZQP ZQc ZQa k
noncomputable def Zfh:List PK:=[PK.mk .bool false none false none]
noncomputable def ZGx:List PK:=[PK.mk (.slice 3 I6) false none false none,PK.mk I6 false none false none,PK.mk I6 false none false none]
noncomputable def Zq7(r:Bool):Tup Zfh×OutD:=((r,()),none)
noncomputable def ZpZ:Tup Zfh×OutD→Option (Bool)
 |(a,none)=>some (a.1)
 |_=>none
theorem Zt3: ∀b r,ZpZ b=some r→Zq7 r=b:=by
 rintro ⟨a,_|_⟩ r h<;>cases h;rfl
noncomputable def Zc4:Nat→Int→Int→List Int→Int→Int→Option (LR Unit Bool)
 |0,_,_,_,_,_=>none
 |k+1,v1,v2,v9,v10,v11=>
  if decide (v11<v10)=true then if (0:Int)≤v11 then if v11<(↑(List.length v9):Int) then Option.bind (Z1f k (List.getD v9 (Int.toNat v11) (0:Int)) v1 v2) fun z0=>if (!z0)=true then some (LR.ret false) else Zc4 k v1 v2 v9 v10 (wrap64 (v11+1)) else none else none else some (LR.go ())
noncomputable def ZmC:Spec:=Spec.mk [.ro] [(1,.at (.int .i64)),(2,.at (.int .i64)),(9,.at (.snap 0 I6)),(10,.at (.int .i64)),(11,.at (.int .i64))]
noncomputable def ZMS:Spec:=Spec.mk [.ro] []
noncomputable def ZaG:LoopDef (Tup Zfh×OutD):= .rets ZmC ZMS (Unit) (Bool) (fun k x=>Zc4 k x.2.1 x.2.2.1 x.2.2.2.1 x.2.2.2.2.1 x.2.2.2.2.2.1) (fun z=>(((),()),(()))) (fun y=>()) (fun _=>rfl) Zq7 ZpZ Zt3
noncomputable def Zci:Nat→List Int→Int→Int→Option Bool
 |0,_,_,_=>none
 |k+1,p0,p1,p2=>
  Option.bind (Zc4 k p1 p2 p0 (↑(List.length p0):Int) (0:Int)) fun z1=>LR.on z1 (fun y1=>some true) fun r1=>some r1
noncomputable def Z65:FnDef:= .of ZGx Zfh (Bool) (fun k x=>Zci k x.1 x.2.1 x.2.2.1) Zq7 ZpZ Zt3
noncomputable def Zmq:Code:=Tryz.f77.body.getD .skip
noncomputable def Zcl:Ctx (Tup Zfh×OutD):={T:=T,G:=[(76,Z2j.E)],mvs:=[],no:=0,n:=21,res:=resOf T ZGx Zfh Tryz.f77.results.toList,loops:=[(0,ZaG.E)],regs:=[],conds:=[],cuts:=[]}
theorem ZEd(k:Nat):EnvOK Tryz.prog k Zcl.G:=(EnvOK.cons (Z9L k) (EnvOK.nil mixed))
noncomputable def Zht:Code:=(findLoop 0 Zmq).getD .skip
theorem ZLW(k:Nat)(x:ZmC.D):ZaG.lp (k+1) x=loopK Zcl ZaG 0 Zht k x:=by kernel_rfl
theorem ZMZ(k:Nat):LOK Tryz.prog Zcl k Zht:=LOK.by [] (by kernel_rfl) AllOK.nil
theorem ZNa(x:ZmC.D):ZaG.lp 0 x=none:=by kernel_rfl
theorem ZJS(k:Nat):EOK Tryz.prog Zcl k ZaG.E (.block 0 (.loop Zht)):=Zd T_ok ZEd ZNa ZLW ZMZ k
theorem ZSe(k:Nat)(x:Tup Z65.ps):Z65.f (k+1) x=fnK Z65 Zcl Zmq k x:=by kernel_rfl
theorem ZRO(x:Tup Z65.ps):Z65.f 0 x=none:=by kernel_rfl
theorem ZRW(k:Nat):LOK Tryz.prog Zcl k Zmq:=LOK.by [(ZaG.E,.block 0 (.loop Zht))] (by kernel_rfl) (AllOK.cons (ZJS k) AllOK.nil)
theorem ZsZ(k:Nat):SoundAt Tryz.prog k 77 Z65.E:= @Z5 Tryz.prog Z65 Zcl 77 Tryz.f77 Zmq (by kernel_rfl) (by kernel_rfl) (by kernel_rfl) Tryz.func77 (by kernel_rfl) (by kernel_rfl) (by kernel_rfl) T_ok ZEd ZRW ZRO ZSe k
noncomputable def ZeQ:List PK:=[PK.mk I6 false none false none]
noncomputable def ZyE:List PK:=[PK.mk (.pair I6 (.pair I6 (.pair (.slice 76 P6) (.pair (.slice 3 I6) (.slice 3 I6))))) true none false none]
noncomputable def ZvB(r:Int):Tup ZeQ×OutD:=((r,()),none)
noncomputable def Zvc:Tup ZeQ×OutD→Option (Int)
 |(a,none)=>some (a.1)
 |_=>none
theorem ZFV: ∀b r,Zvc b=some r→ZvB r=b:=by
 rintro ⟨a,_|_⟩ r h<;>cases h;rfl
noncomputable def Z2s:Nat→Int×Int×List (Int×Int)×List Int×List Int→Option Int
 |0,_=>none
 |k+1,p0=>
  Option.bind (Zoi k (wrap64 ((↑(List.length p0.2.2.1):Int)+(1:Int))) (wrap64 (p0.1*p0.2.1))) fun z0=>some z0
noncomputable def Z3Y:FnDef:= .of ZyE ZeQ (Int) (fun k x=>Z2s k x.1) ZvB Zvc ZFV
noncomputable def Zov:Code:=Tryz.f78.body.getD .skip
noncomputable def ZiW:Ctx (Tup ZeQ×OutD):={T:=T,G:=[(106,Z6R.E)],mvs:=[],no:=0,n:=13,res:=resOf T ZyE ZeQ Tryz.f78.results.toList,loops:=[],regs:=[],conds:=[],cuts:=[]}
theorem ZP7(k:Nat):EnvOK Tryz.prog k ZiW.G:=(EnvOK.cons (ZP5 k) (EnvOK.nil mixed))
theorem ZP0(k:Nat)(x:Tup Z3Y.ps):Z3Y.f (k+1) x=fnK Z3Y ZiW Zov k x:=by kernel_rfl
theorem ZNt(x:Tup Z3Y.ps):Z3Y.f 0 x=none:=by kernel_rfl
theorem ZOM(k:Nat):LOK Tryz.prog ZiW k Zov:=LOK.by [] (by kernel_rfl) AllOK.nil
theorem ZoK(k:Nat):SoundAt Tryz.prog k 78 Z3Y.E:= @Z5 Tryz.prog Z3Y ZiW 78 Tryz.f78 Zov (by kernel_rfl) (by kernel_rfl) (by kernel_rfl) Tryz.func78 (by kernel_rfl) (by kernel_rfl) (by kernel_rfl) T_ok ZP7 ZOM ZNt ZP0 k
noncomputable def ZgN:List PK:=[PK.mk I6 false none false none]
noncomputable def ZBS:List PK:=[PK.mk (.pair I6 (.pair I6 (.slice 76 P6))) true none false none]
noncomputable def Zyq(r:Int):Tup ZgN×OutD:=((r,()),none)
noncomputable def ZyH:Tup ZgN×OutD→Option (Int)
 |(a,none)=>some (a.1)
 |_=>none
theorem ZGL: ∀b r,ZyH b=some r→Zyq r=b:=by
 rintro ⟨a,_|_⟩ r h<;>cases h;rfl
noncomputable def Zkw:Nat→Int×Int×List (Int×Int)→Option Int
 |0,_=>none
 |k+1,p0=>
  Option.bind (Zop k (p0.1,p0.2.1,p0.2.2)) fun z0=>if (0:Int)<(↑(List.length z0):Int) then some (wrap64 ((↑(List.length p0.2.2):Int)-List.getD z0 (Int.toNat (0:Int)) (0:Int))) else none
noncomputable def Z81:FnDef:= .of ZBS ZgN (Int) (fun k x=>Zkw k x.1) Zyq ZyH ZGL
noncomputable def ZpV:Code:=Tryz.f80.body.getD .skip
noncomputable def ZkH:Ctx (Tup ZgN×OutD):={T:=T,G:=[(109,Z6E.E)],mvs:=[],no:=0,n:=11,res:=resOf T ZBS ZgN Tryz.f80.results.toList,loops:=[],regs:=[],conds:=[],cuts:=[]}
theorem ZQ5(k:Nat):EnvOK Tryz.prog k ZkH.G:=(EnvOK.cons (ZP3 k) (EnvOK.nil mixed))
theorem ZRd(k:Nat)(x:Tup Z81.ps):Z81.f (k+1) x=fnK Z81 ZkH ZpV k x:=by kernel_rfl
theorem ZR7(x:Tup Z81.ps):Z81.f 0 x=none:=by kernel_rfl
theorem ZQX(k:Nat):LOK Tryz.prog ZkH k ZpV:=LOK.by [] (by kernel_rfl) AllOK.nil
theorem ZQh(k:Nat):SoundAt Tryz.prog k 80 Z81.E:= @Z5 Tryz.prog Z81 ZkH 80 Tryz.f80 ZpV (by kernel_rfl) (by kernel_rfl) (by kernel_rfl) Tryz.func80 (by kernel_rfl) (by kernel_rfl) (by kernel_rfl) T_ok ZQ5 ZQX ZR7 ZRd k
noncomputable def Zdu:List PK:=[PK.mk .bool false none false none]
noncomputable def Zvb:List PK:=[PK.mk I6 false none false none]
noncomputable def Zsb(r:Bool):Tup Zdu×OutD:=((r,()),none)
noncomputable def ZtB:Tup Zdu×OutD→Option (Bool)
 |(a,none)=>some (a.1)
 |_=>none
theorem ZDX: ∀b r,ZtB b=some r→Zsb r=b:=by
 rintro ⟨a,_|_⟩ r h<;>cases h;rfl
noncomputable def Zhg:Nat→Int→Option Bool
 |0,_=>none
 |k+1,p0=>
  Option.bind (Z1f k p0 (0:Int) (4:Int)) fun z0=>some z0
noncomputable def Z5K:FnDef:= .of Zvb Zdu (Bool) (fun k x=>Zhg k x.1) Zsb ZtB ZDX
noncomputable def Zmx:Code:=Tryz.f101.body.getD .skip
noncomputable def Zhz:Ctx (Tup Zdu×OutD):={T:=T,G:=[(76,Z2j.E)],mvs:=[],no:=0,n:=5,res:=resOf T Zvb Zdu Tryz.f101.results.toList,loops:=[],regs:=[],conds:=[],cuts:=[]}
theorem ZMa(k:Nat):EnvOK Tryz.prog k Zhz.G:=(EnvOK.cons (Z9L k) (EnvOK.nil mixed))
theorem ZLY(k:Nat)(x:Tup Z5K.ps):Z5K.f (k+1) x=fnK Z5K Zhz Zmx k x:=by kernel_rfl
theorem ZMF(x:Tup Z5K.ps):Z5K.f 0 x=none:=by kernel_rfl
theorem ZMr(k:Nat):LOK Tryz.prog Zhz k Zmx:=LOK.by [] (by kernel_rfl) AllOK.nil
theorem ZLV(k:Nat):SoundAt Tryz.prog k 101 Z5K.E:= @Z5 Tryz.prog Z5K Zhz 101 Tryz.f101 Zmx (by kernel_rfl) (by kernel_rfl) (by kernel_rfl) Tryz.func101 (by kernel_rfl) (by kernel_rfl) (by kernel_rfl) T_ok ZMa ZMr ZMF ZLY k
noncomputable def ZgJ:List PK:=[PK.mk .bool false none false none]
noncomputable def ZBF:List PK:=[PK.mk P6 true none false none,PK.mk I6 false none false none]
noncomputable def Zxt(r:Bool):Tup ZgJ×OutD:=((r,()),none)
noncomputable def Zxy:Tup ZgJ×OutD→Option (Bool)
 |(a,none)=>some (a.1)
 |_=>none
theorem ZI2: ∀b r,Zxy b=some r→Zxt r=b:=by
 rintro ⟨a,_|_⟩ r h<;>cases h;rfl
noncomputable def Zgx:Nat→Int×Int→Int→Option Bool
 |0,_,_=>none
 |k+1,p0,p1=>
  if decide (p1=1)=true then Option.bind (Z6n k (p0.1,p0.2)) fun z0=>some z0 else if decide (p1=2)=true then some true else if decide (p1=3)=true then Option.bind (Z6n k (p0.1,p0.2)) fun z1=>if z1=true then some true else if decide (p0.1=1)=true then some true else some (decide (p0.1=2)) else some false
noncomputable def Z6a:FnDef:= .of ZBF ZgJ (Bool) (fun k x=>Zgx k x.1 x.2.1) Zxt Zxy ZI2
noncomputable def ZpY:Code:=Tryz.f111.body.getD .skip
noncomputable def ZkD:Ctx (Tup ZgJ×OutD):={T:=T,G:=[(105,Z2I.E)],mvs:=[],no:=0,n:=26,res:=resOf T ZBF ZgJ Tryz.f111.results.toList,loops:=[],regs:=[],conds:=[],cuts:=[]}
theorem ZPT(k:Nat):EnvOK Tryz.prog k ZkD.G:=(EnvOK.cons (ZkP k) (EnvOK.nil mixed))
theorem ZQ9(k:Nat)(x:Tup Z6a.ps):Z6a.f (k+1) x=fnK Z6a ZkD ZpY k x:=by kernel_rfl
theorem ZQw(x:Tup Z6a.ps):Z6a.f 0 x=none:=by kernel_rfl
theorem ZQ2(k:Nat):LOK Tryz.prog ZkD k ZpY:=LOK.by [] (by kernel_rfl) AllOK.nil
theorem ZBa(k:Nat):SoundAt Tryz.prog k 111 Z6a.E:= @Z5 Tryz.prog Z6a ZkD 111 Tryz.f111 ZpY (by kernel_rfl) (by kernel_rfl) (by kernel_rfl) Tryz.func111 (by kernel_rfl) (by kernel_rfl) (by kernel_rfl) T_ok ZPT ZQ2 ZQw ZQ9 k
noncomputable def Zca:List PK:=[PK.mk .bool false none false none]
noncomputable def ZsE:List PK:=[PK.mk P6 true none false none]
noncomputable def ZqD(r:Bool):Tup Zca×OutD:=((r,()),none)
noncomputable def Zqw:Tup Zca×OutD→Option (Bool)
 |(a,none)=>some (a.1)
 |_=>none
theorem ZAc: ∀b r,Zqw b=some r→ZqD r=b:=by
 rintro ⟨a,_|_⟩ r h<;>cases h;rfl
noncomputable def Z3I:Nat→Int×Int→Option Bool
 |0,_=>none
 |k+1,p0=>
  Option.bind (ZaT k (p0.1,p0.2)) fun z0=>if z0=true then if decide (p0.1=3)=true then some true else some (decide (p0.1=6)) else some false
noncomputable def Z3H:FnDef:= .of ZsE Zca (Bool) (fun k x=>Z3I k x.1) ZqD Zqw ZAc
noncomputable def ZkW:Code:=Tryz.f114.body.getD .skip
noncomputable def Zgd:Ctx (Tup Zca×OutD):={T:=T,G:=[(74,Z3O.E)],mvs:=[],no:=0,n:=15,res:=resOf T ZsE Zca Tryz.f114.results.toList,loops:=[],regs:=[],conds:=[],cuts:=[]}
theorem ZLw(k:Nat):EnvOK Tryz.prog k Zgd.G:=(EnvOK.cons (Zkt k) (EnvOK.nil mixed))
theorem ZKx(k:Nat)(x:Tup Z3H.ps):Z3H.f (k+1) x=fnK Z3H Zgd ZkW k x:=by kernel_rfl
theorem ZL1(x:Tup Z3H.ps):Z3H.f 0 x=none:=by kernel_rfl
theorem ZKB(k:Nat):LOK Tryz.prog Zgd k ZkW:=LOK.by [] (by kernel_rfl) AllOK.nil
theorem ZrY(k:Nat):SoundAt Tryz.prog k 114 Z3H.E:= @Z5 Tryz.prog Z3H Zgd 114 Tryz.f114 ZkW (by kernel_rfl) (by kernel_rfl) (by kernel_rfl) Tryz.func114 (by kernel_rfl) (by kernel_rfl) (by kernel_rfl) T_ok ZLw ZKB ZL1 ZKx k
noncomputable def Zba:List PK:=[PK.mk I6 false none false none]
noncomputable def Zqz:List PK:=[PK.mk (.pair (.slice 5 (.int .u8)) (.pair I6 (.int .u64))) false none false (some 105),PK.mk I6 false none false none]
noncomputable def ZpE(r:Int×Int×Int):Tup Zba×OutD:=((r.1,()),some ⟨Ty.pair (Ty.slice (5:Nat) (Ty.int .u8)) (Ty.pair (Ty.int .i64) (Ty.int .u64)),[([],r.2)]⟩)
noncomputable def ZhZ:Tup Zba×OutD→Option (Int×Int×Int)
 |(a,some ⟨u,ys⟩)=>if h:u=Ty.pair (Ty.slice (5:Nat) (Ty.int .u8)) (Ty.pair (Ty.int .i64) (Ty.int .u64)) then (match castU h ys with
  |[([],y)]=>some (a.1,y)
  |_=>none) else none
 |_=>none
theorem ZxI: ∀b r,ZhZ b=some r→ZpE r=b:=by
 rintro ⟨a,o⟩ r h
 cases o with
 |none=>cases h
 |some s=>
  obtain ⟨u,ys⟩:=s
  simp only[ZhZ]at h
  split at h
  ·rename_i hu
   subst hu
   match ys,h with
   |[],h=>cases (show (none:Option _)=some r from h)
   |[([],y)],h=>injection (show some _=some r from h) with h;subst h;rfl
   |[(_::_,y)],h=>cases (show (none:Option _)=some r from h)
   |(h1,_)::_::_,h=>cases h1<;>cases (show (none:Option _)=some r from h)
  ·cases h
noncomputable def Z1:Nat→List Int×Int×Int→Int→Option (Int×Int×Int)
 |0,_,_=>none
 |k+1,p0,p1=>
  if decide (p1≤1)=true then some ((0:Int),p0.2.1,p0.2.2) else Option.bind (Z7R k (p0.1,p0.2.1,p0.2.2)) fun z0=>if decide (p1>200)=true then Option.bind (Z7R k (p0.1,z0.2.1,z0.2.2)) fun z1=>if p1=0 then none else some (Int.tmod (wrap64 (wrap64 (z0.1*(256:Int))+z1.1)) p1,z1.2.1,z1.2.2) else if p1=0 then none else some (Int.tmod z0.1 p1,z0.2.1,z0.2.2)
noncomputable def Zq:FnDef:= .of Zqz Zba (Int×Int×Int) (fun k x=>Z1 k x.1 x.2.1) ZpE ZhZ ZxI
noncomputable def ZjC:Code:=Tryz.f116.body.getD .skip
noncomputable def Zew:Ctx (Tup Zba×OutD):={T:=T,G:=[(128,Z49.E)],mvs:=[],no:=2,n:=20,res:=resOf T Zqz Zba Tryz.f116.results.toList,loops:=[],regs:=[],conds:=[],cuts:=[]}
theorem ZHR(k:Nat):EnvOK Tryz.prog k Zew.G:=(EnvOK.cons (ZHx k) (EnvOK.nil mixed))
theorem ZIw(k:Nat)(x:Tup Zq.ps):Zq.f (k+1) x=fnK Zq Zew ZjC k x:=by kernel_rfl
theorem ZHj(x:Tup Zq.ps):Zq.f 0 x=none:=by kernel_rfl
theorem ZGP(k:Nat):LOK Tryz.prog Zew k ZjC:=LOK.by [] (by kernel_rfl) AllOK.nil
theorem Z1I(k:Nat):SoundAt Tryz.prog k 116 Zq.E:= @Z5 Tryz.prog Zq Zew 116 Tryz.f116 ZjC (by kernel_rfl) (by kernel_rfl) (by kernel_rfl) Tryz.func116 (by kernel_rfl) (by kernel_rfl) (by kernel_rfl) T_ok ZHR ZGP ZHj ZIw k
noncomputable def ZeU:List PK:=[PK.mk (.slice 76 P6) false none false none]
noncomputable def ZE3:List PK:=[]
noncomputable def ZBC(r:List (Int×Int)):Tup ZeU×OutD:=((r,()),none)
noncomputable def ZBE:Tup ZeU×OutD→Option (List (Int×Int))
 |(a,none)=>some (a.1)
 |_=>none
theorem ZLe: ∀b r,ZBE b=some r→ZBC r=b:=by
 rintro ⟨a,_|_⟩ r h<;>cases h;rfl
noncomputable def Z2u:Nat→List (Int×Int)→Int→Option (List (Int×Int))
 |0,_,_=>none
 |k+1,o1,v2=>
  if decide (v2≤7)=true then if List.length o1+List.length [(v2,(0:Int))]≤(140737488355328/16:Nat) then Option.bind (Z6n k (v2,(1:Int))) fun z0=>if z0=true then if List.length (o1++[(v2,(0:Int))])+List.length [(v2,(1:Int))]≤(140737488355328/16:Nat) then Z2u k (o1++[(v2,(0:Int))]++[(v2,(1:Int))]) (wrap64 (v2+1)) else none else Z2u k (o1++[(v2,(0:Int))]) (wrap64 (v2+1)) else none else some o1
noncomputable def ZmF:Spec:=Spec.mk [.ro,O0] [(1,.at (.sl 1)),(2,.at (.int .i64))]
noncomputable def ZLZ:Spec:=Spec.mk [.ro,O0] [(1,.at (.sl 1))]
noncomputable def Zax:LoopDef (Tup ZeU×OutD):= .plain ZmF ZLZ (List (Int×Int)) (fun k x=>Z2u k x.1.2.1 x.2.2.1) (fun z=>(((),z,()),((),()))) (fun y=>(y.1.2.1)) (fun _=>rfl)
noncomputable def Zcf:Nat→Option (List (Int×Int))
 |0=>none
 |k+1=>
  Option.bind (Z2u k [] (0:Int)) fun z1=>some z1
noncomputable def Z7d:FnDef:= .of ZE3 ZeU (List (Int×Int)) (fun k x=>Zcf k) ZBC ZBE ZLe
noncomputable def ZmH:Code:=Tryz.f120.body.getD .skip
noncomputable def Zce:Ctx (Tup ZeU×OutD):={T:=T,G:=[(105,Z2I.E)],mvs:=[],no:=0,n:=22,res:=resOf T ZE3 ZeU Tryz.f120.results.toList,loops:=[(0,Zax.E)],regs:=[],conds:=[],cuts:=[]}
theorem ZEo(k:Nat):EnvOK Tryz.prog k Zce.G:=(EnvOK.cons (ZkP k) (EnvOK.nil mixed))
noncomputable def Zho:Code:=(findLoop 0 ZmH).getD .skip
theorem ZMP(k:Nat)(x:ZmF.D):Zax.lp (k+1) x=loopK Zce Zax 0 Zho k x:=by kernel_rfl
theorem ZLG(k:Nat):LOK Tryz.prog Zce k Zho:=LOK.by [] (by kernel_rfl) AllOK.nil
theorem ZLL(x:ZmF.D):Zax.lp 0 x=none:=by kernel_rfl
theorem ZKX(k:Nat):EOK Tryz.prog Zce k Zax.E (.block 0 (.loop Zho)):=Zd T_ok ZEo ZLL ZMP ZLG k
theorem ZSn(k:Nat)(x:Tup Z7d.ps):Z7d.f (k+1) x=fnK Z7d Zce ZmH k x:=by kernel_rfl
theorem ZSG(x:Tup Z7d.ps):Z7d.f 0 x=none:=by kernel_rfl
theorem ZSl(k:Nat):LOK Tryz.prog Zce k ZmH:=LOK.by [(Zax.E,.block 0 (.loop Zho))] (by kernel_rfl) (AllOK.cons (ZKX k) AllOK.nil)
theorem ZEF(k:Nat):SoundAt Tryz.prog k 120 Z7d.E:= @Z5 Tryz.prog Z7d Zce 120 Tryz.f120 ZmH (by kernel_rfl) (by kernel_rfl) (by kernel_rfl) Tryz.func120 (by kernel_rfl) (by kernel_rfl) (by kernel_rfl) T_ok ZEo ZSl ZSG ZSn k
noncomputable def Z4n:List PK:=[PK.mk (.slice 3 I6) false none false none]
noncomputable def Zv2:List PK:=[PK.mk (.pair I6 (.pair I6 (.slice 76 P6))) true none false none]
noncomputable def Ztl(r:List Int):Tup Z4n×OutD:=((r,()),none)
noncomputable def Zsq:Tup Z4n×OutD→Option (List Int)
 |(a,none)=>some (a.1)
 |_=>none
theorem ZCM: ∀b r,Zsq b=some r→Ztl r=b:=by
 rintro ⟨a,_|_⟩ r h<;>cases h;rfl
noncomputable def Z7y:Nat→Int→Int→List (Int×Int)→List Int→Int→Int→Option (Int×Int×List (Int×Int)×List Int)
 |0,_,_,_,_,_,_=>none
 |k+1,b1_0,b1_1,b1_2,o2,v17,v18=>
  if decide (v18<v17)=true then if (0:Int)≤v18 then if v18<(↑(List.length o2):Int) then Z7y k b1_0 b1_1 b1_2 (List.set o2 (Int.toNat v18) (-1:Int)) v17 (wrap64 (v18+1)) else none else none else some (b1_0,b1_1,b1_2,o2)
noncomputable def Zig:Spec:=Spec.mk [.ro,O2,O1] [(1,.at (.ptr 1 0)),(3,.at (.sl 2)),(17,.at (.int .i64)),(18,.at (.int .i64))]
noncomputable def ZEk:Spec:=Spec.mk [.ro,O2,O1] [(1,.at (.ptr 1 0)),(3,.at (.sl 2))]
noncomputable def Z6L:LoopDef (Tup Z4n×OutD):= .plain Zig ZEk (Int×Int×List (Int×Int)×List Int) (fun k x=>Z7y k x.1.2.1.1 x.1.2.1.2.1 x.1.2.1.2.2.1 x.1.2.2.1 x.2.2.2.1 x.2.2.2.2.1) (fun z=>(((),(z.1,z.2.1,z.2.2.1,()),z.2.2.2,()),((),(),()))) (fun y=>(y.1.2.1.1,y.1.2.1.2.1,y.1.2.1.2.2.1,y.1.2.2.1)) (fun _=>rfl)
noncomputable def Z4b:Nat→Int→Int→List (Int×Int)→List Int→List Int→List Int→Int→Int→List (Int×Int)→Int→Int→Int→Int→Option (Int×Int×List (Int×Int)×List Int×List Int×Int×Int×List (Int×Int)×Int×Int)
 |0,_,_,_,_,_,_,_,_,_,_,_,_,_=>none
 |k+1,b1_0,b1_1,b1_2,o2,o3,o4,v5,v9,v26,v27,v28,v61,v62=>
  if decide (v62<v61)=true then if (0:Int)≤v62 then if v62<(↑(List.length o4):Int) then if (0:Int)≤List.getD o4 (Int.toNat v62) (0:Int) then if List.getD o4 (Int.toNat v62) (0:Int)<(↑(List.length b1_2):Int) then Option.bind (ZgB k (Prod.fst (List.getD b1_2 (Int.toNat (List.getD o4 (Int.toNat v62) (0:Int))) ((0:Int),(0:Int))),Prod.snd (List.getD b1_2 (Int.toNat (List.getD o4 (Int.toNat v62) (0:Int))) ((0:Int),(0:Int))))) fun z3=>if z3=true then if (0:Int)≤List.getD o4 (Int.toNat v62) (0:Int) then if List.getD o4 (Int.toNat v62) (0:Int)<(↑(List.length o2):Int) then if decide (List.getD o2 (Int.toNat (List.getD o4 (Int.toNat v62) (0:Int))) (0:Int)<0)=true then if (0:Int)≤List.getD o4 (Int.toNat v62) (0:Int) then if List.getD o4 (Int.toNat v62) (0:Int)<(↑(List.length o2):Int) then if List.length o3+List.length [List.getD o4 (Int.toNat v62) (0:Int)]≤(140737488355328/8:Nat) then Z4b k b1_0 b1_1 b1_2 (List.set o2 (Int.toNat (List.getD o4 (Int.toNat v62) (0:Int))) v5) (o3++[List.getD o4 (Int.toNat v62) (0:Int)]) o4 v5 v9 v26 v27 v28 v61 (wrap64 (v62+1)) else none else none else none else Z4b k b1_0 b1_1 b1_2 o2 o3 o4 v5 v9 v26 v27 v28 v61 (wrap64 (v62+1)) else none else none else Z4b k b1_0 b1_1 b1_2 o2 o3 o4 v5 v9 v26 v27 v28 v61 (wrap64 (v62+1)) else none else none else none else none else some (b1_0,b1_1,b1_2,o2,o3,v5,v9,v26,v27,v28)
noncomputable def Zir:Spec:=Spec.mk [.ro,O2,O1,O1,O1] [(1,.at (.ptr 1 0)),(3,.at (.sl 2)),(5,.at (.int .i64)),(8,.at (.sl 3)),(9,.at (.int .i64)),(26,.at (.snap 0 P6)),(27,.at (.int .i64)),(28,.at (.int .i64)),(60,.at (.sl 4)),(61,.at (.int .i64)),(62,.at (.int .i64))]
noncomputable def ZET:Spec:=Spec.mk [.ro,O2,O1,O1] [(1,.at (.ptr 1 0)),(3,.at (.sl 2)),(5,.at (.int .i64)),(8,.at (.sl 3)),(9,.at (.int .i64)),(26,.at (.snap 0 P6)),(27,.at (.int .i64)),(28,.at (.int .i64))]
noncomputable def Z6t:LoopDef (Tup Z4n×OutD):= .plain Zir ZET (Int×Int×List (Int×Int)×List Int×List Int×Int×Int×List (Int×Int)×Int×Int) (fun k x=>Z4b k x.1.2.1.1 x.1.2.1.2.1 x.1.2.1.2.2.1 x.1.2.2.1 x.1.2.2.2.1 x.1.2.2.2.2.1 x.2.2.2.1 x.2.2.2.2.2.1 x.2.2.2.2.2.2.1 x.2.2.2.2.2.2.2.1 x.2.2.2.2.2.2.2.2.1 x.2.2.2.2.2.2.2.2.2.2.1 x.2.2.2.2.2.2.2.2.2.2.2.1) (fun z=>(((),(z.1,z.2.1,z.2.2.1,()),z.2.2.2.1,z.2.2.2.2.1,()),((),(),z.2.2.2.2.2.1,(),z.2.2.2.2.2.2.1,z.2.2.2.2.2.2.2.1,z.2.2.2.2.2.2.2.2.1,z.2.2.2.2.2.2.2.2.2,()))) (fun y=>(y.1.2.1.1,y.1.2.1.2.1,y.1.2.1.2.2.1,y.1.2.2.1,y.1.2.2.2.1,y.2.2.2.1,y.2.2.2.2.2.1,y.2.2.2.2.2.2.1,y.2.2.2.2.2.2.2.1,y.2.2.2.2.2.2.2.2.1)) (fun _=>rfl)
noncomputable def Z5B:Nat→Int→Int→List (Int×Int)→List Int→List Int→Int→Int→List (Int×Int)→Int→Int→Option (Int×Int×List (Int×Int)×List Int×Int×List (Int×Int)×Int×Int)
 |0,_,_,_,_,_,_,_,_,_,_=>none
 |k+1,b1_0,b1_1,b1_2,o2,o3,v5,v9,v26,v27,v28=>
  if decide (v9<(↑(List.length o3):Int))=true then if (0:Int)≤v9 then if v9<(↑(List.length o3):Int) then Option.bind (Zkd k (b1_0,b1_1,b1_2) (List.getD o3 (Int.toNat v9) (0:Int))) fun z2=>Option.bind (Z4b k b1_0 b1_1 b1_2 o2 o3 z2 v5 v9 v26 v27 v28 (↑(List.length z2):Int) (0:Int)) fun z4=>Z5B k z4.1 z4.2.1 z4.2.2.1 z4.2.2.2.1 z4.2.2.2.2.1 z4.2.2.2.2.2.1 (wrap64 (z4.2.2.2.2.2.2.1+1)) z4.2.2.2.2.2.2.2.1 z4.2.2.2.2.2.2.2.2.1 z4.2.2.2.2.2.2.2.2.2 else none else none else some (b1_0,b1_1,b1_2,o2,v5,v26,v27,v28)
noncomputable def Zip:Spec:=Spec.mk [.ro,O2,O1,O1] [(1,.at (.ptr 1 0)),(3,.at (.sl 2)),(5,.at (.int .i64)),(8,.at (.sl 3)),(9,.at (.int .i64)),(26,.at (.snap 0 P6)),(27,.at (.int .i64)),(28,.at (.int .i64))]
noncomputable def ZEG:Spec:=Spec.mk [.ro,O2,O1] [(1,.at (.ptr 1 0)),(3,.at (.sl 2)),(5,.at (.int .i64)),(26,.at (.snap 0 P6)),(27,.at (.int .i64)),(28,.at (.int .i64))]
noncomputable def Z6K:LoopDef (Tup Z4n×OutD):= .plain Zip ZEG (Int×Int×List (Int×Int)×List Int×Int×List (Int×Int)×Int×Int) (fun k x=>Z5B k x.1.2.1.1 x.1.2.1.2.1 x.1.2.1.2.2.1 x.1.2.2.1 x.1.2.2.2.1 x.2.2.2.1 x.2.2.2.2.2.1 x.2.2.2.2.2.2.1 x.2.2.2.2.2.2.2.1 x.2.2.2.2.2.2.2.2.1) (fun z=>(((),(z.1,z.2.1,z.2.2.1,()),z.2.2.2.1,()),((),(),z.2.2.2.2.1,z.2.2.2.2.2.1,z.2.2.2.2.2.2.1,z.2.2.2.2.2.2.2,()))) (fun y=>(y.1.2.1.1,y.1.2.1.2.1,y.1.2.1.2.2.1,y.1.2.2.1,y.2.2.2.1,y.2.2.2.2.1,y.2.2.2.2.2.1,y.2.2.2.2.2.2.1)) (fun _=>rfl)
noncomputable def Z37:Nat→Int→Int→List (Int×Int)→List Int→Int→List (Int×Int)→Int→Int→Option (List Int)
 |0,_,_,_,_,_,_,_,_=>none
 |k+1,b1_0,b1_1,b1_2,o2,v5,v26,v27,v28=>
  if decide (v28<v27)=true then if (0:Int)≤v28 then if v28<(↑(List.length v26):Int) then Option.bind (ZgB k (Prod.fst (List.getD v26 (Int.toNat v28) ((0:Int),(0:Int))),Prod.snd (List.getD v26 (Int.toNat v28) ((0:Int),(0:Int))))) fun z1=>if (!z1)=true then Z37 k b1_0 b1_1 b1_2 o2 v5 v26 v27 (wrap64 (v28+1)) else if (0:Int)≤v28 then if v28<(↑(List.length o2):Int) then if decide (List.getD o2 (Int.toNat v28) (0:Int)≥0)=true then Z37 k b1_0 b1_1 b1_2 o2 v5 v26 v27 (wrap64 (v28+1)) else if (0:Int)≤v28 then if v28<(↑(List.length o2):Int) then Option.bind (Z5B k b1_0 b1_1 b1_2 (List.set o2 (Int.toNat v28) v5) [v28] v5 (0:Int) v26 v27 v28) fun z5=>Z37 k z5.1 z5.2.1 z5.2.2.1 z5.2.2.2.1 (wrap64 (z5.2.2.2.2.1+1)) z5.2.2.2.2.2.1 z5.2.2.2.2.2.2.1 (wrap64 (z5.2.2.2.2.2.2.2+1)) else none else none else none else none else none else none else some o2
noncomputable def ZhW:Spec:=Spec.mk [.ro,O2,O1] [(1,.at (.ptr 1 0)),(3,.at (.sl 2)),(5,.at (.int .i64)),(26,.at (.snap 0 P6)),(27,.at (.int .i64)),(28,.at (.int .i64))]
noncomputable def ZFM:Spec:=Spec.mk [.ro,O1] [(3,.at (.sl 1))]
noncomputable def Z6Q:LoopDef (Tup Z4n×OutD):= .plain ZhW ZFM (List Int) (fun k x=>Z37 k x.1.2.1.1 x.1.2.1.2.1 x.1.2.1.2.2.1 x.1.2.2.1 x.2.2.2.1 x.2.2.2.2.1 x.2.2.2.2.2.1 x.2.2.2.2.2.2.1) (fun z=>(((),z,()),((),()))) (fun y=>(y.1.2.1)) (fun _=>rfl)
noncomputable def Z1w:Nat→Int×Int×List (Int×Int)→Option (List Int)
 |0,_=>none
 |k+1,p0=>
  if Int.toNat (↑(List.length p0.2.2):Int)*(8:Nat)≤(281474976710656:Nat) then Option.bind (Z7y k p0.1 p0.2.1 p0.2.2 (List.replicate (Int.toNat (↑(List.length p0.2.2):Int)) (0:Int)) (↑(List.length (List.replicate (Int.toNat (↑(List.length p0.2.2):Int)) (0:Int))):Int) (0:Int)) fun z0=>Option.bind (Z37 k z0.1 z0.2.1 z0.2.2.1 z0.2.2.2 (0:Int) z0.2.2.1 (↑(List.length z0.2.2.1):Int) (0:Int)) fun z6=>some z6 else none
noncomputable def Z4q:FnDef:= .of Zv2 Z4n (List Int) (fun k x=>Z1w k x.1) Ztl Zsq ZCM
noncomputable def Z7a:Code:=Tryz.f125.body.getD .skip
noncomputable def ZL:Ctx (Tup Z4n×OutD):={T:=T,G:=[(136,Z80.E),(137,Z7X.E)],mvs:=[],no:=0,n:=92,res:=resOf T Zv2 Z4n Tryz.f125.results.toList,loops:=[(0,Z6L.E),(6,Z6t.E),(4,Z6K.E),(2,Z6Q.E)],regs:=[],conds:=[],cuts:=[]}
theorem ZdR(k:Nat):EnvOK Tryz.prog k ZL.G:=(EnvOK.cons (ZQY k) (EnvOK.cons (ZQZ k) (EnvOK.nil mixed)))
noncomputable def ZdN:Code:=(findLoop 0 Z7a).getD .skip
theorem ZFH(k:Nat)(x:Zig.D):Z6L.lp (k+1) x=loopK ZL Z6L 0 ZdN k x:=by kernel_rfl
theorem ZGf(k:Nat):LOK Tryz.prog ZL k ZdN:=LOK.by [] (by kernel_rfl) AllOK.nil
theorem ZG6(x:Zig.D):Z6L.lp 0 x=none:=by kernel_rfl
theorem ZDm(k:Nat):EOK Tryz.prog ZL k Z6L.E (.block 0 (.loop ZdN)):=Zd T_ok ZdR ZG6 ZFH ZGf k
noncomputable def ZdD:Code:=(findLoop 6 Z7a).getD .skip
theorem ZGh(k:Nat)(x:Zir.D):Z6t.lp (k+1) x=loopK ZL Z6t 6 ZdD k x:=by kernel_rfl
theorem ZF0(k:Nat):LOK Tryz.prog ZL k ZdD:=LOK.by [] (by kernel_rfl) AllOK.nil
theorem ZGw(x:Zir.D):Z6t.lp 0 x=none:=by kernel_rfl
theorem ZDt(k:Nat):EOK Tryz.prog ZL k Z6t.E (.block 6 (.loop ZdD)):=Zd T_ok ZdR ZGw ZGh ZF0 k
noncomputable def Zdp:Code:=(findLoop 4 Z7a).getD .skip
theorem ZEB(k:Nat)(x:Zip.D):Z6K.lp (k+1) x=loopK ZL Z6K 4 Zdp k x:=by kernel_rfl
theorem ZEv(k:Nat):LOK Tryz.prog ZL k Zdp:=LOK.by [(Z6t.E,.block 6 (.loop ZdD))] (by kernel_rfl) (AllOK.cons (ZDt k) AllOK.nil)
theorem ZFd(x:Zip.D):Z6K.lp 0 x=none:=by kernel_rfl
theorem ZCv(k:Nat):EOK Tryz.prog ZL k Z6K.E (.block 4 (.loop Zdp)):=Zd T_ok ZdR ZFd ZEB ZEv k
noncomputable def ZdH:Code:=(findLoop 2 Z7a).getD .skip
theorem ZEz(k:Nat)(x:ZhW.D):Z6Q.lp (k+1) x=loopK ZL Z6Q 2 ZdH k x:=by kernel_rfl
theorem ZFo(k:Nat):LOK Tryz.prog ZL k ZdH:=LOK.by [(Z6K.E,.block 4 (.loop Zdp))] (by kernel_rfl) (AllOK.cons (ZCv k) AllOK.nil)
theorem ZG3(x:ZhW.D):Z6Q.lp 0 x=none:=by kernel_rfl
theorem ZCN(k:Nat):EOK Tryz.prog ZL k Z6Q.E (.block 2 (.loop ZdH)):=Zd T_ok ZdR ZG3 ZEz ZFo k
theorem ZMV(k:Nat)(x:Tup Z4q.ps):Z4q.f (k+1) x=fnK Z4q ZL Z7a k x:=by kernel_rfl
theorem ZMn(x:Tup Z4q.ps):Z4q.f 0 x=none:=by kernel_rfl
theorem ZLR(k:Nat):LOK Tryz.prog ZL k Z7a:=LOK.by [(Z6L.E,.block 0 (.loop ZdN)),(Z6Q.E,.block 2 (.loop ZdH))] (by kernel_rfl) (AllOK.cons (ZDm k) (AllOK.cons (ZCN k) AllOK.nil))
theorem ZuN(k:Nat):SoundAt Tryz.prog k 125 Z4q.E:= @Z5 Tryz.prog Z4q ZL 125 Tryz.f125 Z7a (by kernel_rfl) (by kernel_rfl) (by kernel_rfl) Tryz.func125 (by kernel_rfl) (by kernel_rfl) (by kernel_rfl) T_ok ZdR ZLR ZMn ZMV k
noncomputable def Zde:List PK:=[]
noncomputable def ZC6:List PK:=[PK.mk (.pair I6 (.pair I6 (.slice 76 P6))) true (some (2,76,.pair I6 I6)) false none,PK.mk (.slice 3 I6) false none false none,PK.mk I6 false none false none]
noncomputable def ZyF(r:List (Int×Int)):Tup Zde×OutD:=((()),some ⟨Ty.pair (Ty.int .i64) (Ty.int .i64),r⟩)
noncomputable def ZoA:Tup Zde×OutD→Option (List (Int×Int))
 |(a,some ⟨u,ys⟩)=>if h:u=Ty.pair (Ty.int .i64) (Ty.int .i64) then some (castU h ys) else none
 |_=>none
theorem ZII: ∀b r,ZoA b=some r→ZyF r=b:=by
 rintro ⟨a,o⟩ r h
 cases o with
 |none=>cases h
 |some s=>
  obtain ⟨u,ys⟩:=s
  simp only[ZoA]at h
  split at h
  ·rename_i hu;subst hu;injection h with h;subst h;rfl
  ·cases h
noncomputable def Z4o:Nat→List (Int×Int)→Int→Int→List Int→Int→Int→Int→Option (List (Int×Int))
 |0,_,_,_,_,_,_,_=>none
 |k+1,o1,b2_0,b2_1,v1,v2,v28,v29=>
  if decide (v29<v28)=true then if (0:Int)≤v29 then if v29<(↑(List.length o1):Int) then if decide (Prod.fst (List.getD o1 (Int.toNat v29) ((0:Int),(0:Int)))=6)=true then if (0:Int)≤v29 then if v29<(↑(List.length v1):Int) then if (0:Int)≤v2 then if v2<(↑(List.length v1):Int) then if decide (List.getD v1 (Int.toNat v29) (0:Int)=List.getD v1 (Int.toNat v2) (0:Int))=true then Option.bind (Zgu k (Prod.fst (List.getD o1 (Int.toNat v29) ((0:Int),(0:Int))),Prod.snd (List.getD o1 (Int.toNat v29) ((0:Int),(0:Int))))) fun z1=>if (0:Int)≤v29 then if v29<(↑(List.length o1):Int) then Z4o k (List.set o1 (Int.toNat v29) (z1.1,z1.2)) b2_0 b2_1 v1 v2 v28 (wrap64 (v29+1)) else none else none else Z4o k o1 b2_0 b2_1 v1 v2 v28 (wrap64 (v29+1)) else none else none else none else none else Z4o k o1 b2_0 b2_1 v1 v2 v28 (wrap64 (v29+1)) else none else none else some o1
noncomputable def Zl9:Spec:=Spec.mk [.ro,Oi,Of] [(1,.at (.snap 0 I6)),(2,.at (.int .i64)),(3,.at (.ptr 2 0)),(27,.at (.sl 1)),(28,.at (.int .i64)),(29,.at (.int .i64))]
noncomputable def ZKe:Spec:=Spec.mk [.ro,Oi] []
noncomputable def Z8L:LoopDef (Tup Zde×OutD):= .plain Zl9 ZKe (List (Int×Int)) (fun k x=>Z4o k x.1.2.1 x.1.2.2.1.1 x.1.2.2.1.2.1 x.2.1 x.2.2.1 x.2.2.2.2.2.1 x.2.2.2.2.2.2.1) (fun z=>(((),z,()),(()))) (fun y=>(y.1.2.1)) (fun _=>rfl)
noncomputable def Zdl:Nat→Int×Int×List (Int×Int)→List Int→Int→Option (List (Int×Int))
 |0,_,_,_=>none
 |k+1,p0,p1,p2=>
  if (0:Int)≤p2 then if p2<(↑(List.length p0.2.2):Int) then if decide (Prod.fst (List.getD p0.2.2 (Int.toNat p2) ((0:Int),(0:Int)))=3)=true then Option.bind (Zgu k (Prod.fst (List.getD p0.2.2 (Int.toNat p2) ((0:Int),(0:Int))),Prod.snd (List.getD p0.2.2 (Int.toNat p2) ((0:Int),(0:Int))))) fun z0=>if (0:Int)≤p2 then if p2<(↑(List.length p0.2.2):Int) then some (List.set p0.2.2 (Int.toNat p2) (z0.1,z0.2)) else none else none else if decide (Prod.fst (List.getD p0.2.2 (Int.toNat p2) ((0:Int),(0:Int)))=6)=true then Option.bind (Z4o k p0.2.2 p0.1 p0.2.1 p1 p2 (↑(List.length p0.2.2):Int) (0:Int)) fun z2=>some z2 else some p0.2.2 else none else none
noncomputable def Z6d:FnDef:= .of ZC6 Zde (List (Int×Int)) (fun k x=>Zdl k x.1 x.2.1 x.2.2.1) ZyF ZoA ZII
noncomputable def Zkf:Code:=Tryz.f135.body.getD .skip
noncomputable def ZaR:Ctx (Tup Zde×OutD):={T:=T,G:=[(139,Z7T.E)],mvs:=[],no:=1,n:=55,res:=resOf T ZC6 Zde Tryz.f135.results.toList,loops:=[(1,Z8L.E)],regs:=[],conds:=[],cuts:=[]}
theorem ZB4(k:Nat):EnvOK Tryz.prog k ZaR.G:=(EnvOK.cons (ZQl k) (EnvOK.nil mixed))
noncomputable def ZfK:Code:=(findLoop 1 Zkf).getD .skip
theorem ZJD(k:Nat)(x:Zl9.D):Z8L.lp (k+1) x=loopK ZaR Z8L 1 ZfK k x:=by kernel_rfl
theorem ZK7(k:Nat):LOK Tryz.prog ZaR k ZfK:=LOK.by [] (by kernel_rfl) AllOK.nil
theorem ZJV(x:Zl9.D):Z8L.lp 0 x=none:=by kernel_rfl
theorem ZHb(k:Nat):EOK Tryz.prog ZaR k Z8L.E (.block 1 (.loop ZfK)):=Zd T_ok ZB4 ZJV ZJD ZK7 k
theorem ZR2(k:Nat)(x:Tup Z6d.ps):Z6d.f (k+1) x=fnK Z6d ZaR Zkf k x:=by kernel_rfl
theorem ZQp(x:Tup Z6d.ps):Z6d.f 0 x=none:=by kernel_rfl
theorem ZR1(k:Nat):LOK Tryz.prog ZaR k Zkf:=LOK.by [(Z8L.E,.block 1 (.loop ZfK))] (by kernel_rfl) (AllOK.cons (ZHb k) AllOK.nil)
theorem ZBe(k:Nat):SoundAt Tryz.prog k 135 Z6d.E:= @Z5 Tryz.prog Z6d ZaR 135 Tryz.f135 Zkf (by kernel_rfl) (by kernel_rfl) (by kernel_rfl) Tryz.func135 (by kernel_rfl) (by kernel_rfl) (by kernel_rfl) T_ok ZB4 ZR1 ZQp ZR2 k
end
end Go.Proofs.YtmhfhiofcoggbaaGreat.Vs
