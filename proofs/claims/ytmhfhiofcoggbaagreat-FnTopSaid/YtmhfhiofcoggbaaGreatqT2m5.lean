/- The proof, part 6. -/
import Derived.Test.YtmhfhiofcoggbaaGreatqT2m4
set_option maxRecDepth 100000
set_option maxHeartbeats 2000000
set_option linter.unusedVariables false
set_option linter.unusedSimpArgs false
namespace Go.Proofs.YtmhfhiofcoggbaaGreat.Vs
open Go.RowKit
noncomputable section
noncomputable def Zgz:List PK:=[PK.mk .bool false none false none]
noncomputable def ZC2:List PK:=[PK.mk (.pair I6 (.slice 3 I6)) true none false none,PK.mk (.pair I6 (.slice 3 I6)) true none false none]
noncomputable def Zz4(r:Bool):Tup Zgz×OutD:=((r,()),none)
noncomputable def ZxS:Tup Zgz×OutD→Option (Bool)
 |(a,none)=>some (a.1)
 |_=>none
theorem ZGJ: ∀b r,ZxS b=some r→Zz4 r=b:=by
 rintro ⟨a,_|_⟩ r h<;>cases h;rfl
noncomputable def ZkA:Nat→Int×List Int→Int×List Int→Option Bool
 |0,_,_=>none
 |k+1,p0,p1=>
  if decide (p0.1=p1.1)=true then Option.bind (Zie k p0.2 p1.2) fun z0=>some z0 else some false
noncomputable def Z85:FnDef:= .of ZC2 Zgz (Bool) (fun k x=>ZkA k x.1 x.2.1) Zz4 ZxS ZGJ
noncomputable def Zq8:Code:=Tryz.f10.body.getD .skip
noncomputable def Zkk:Ctx (Tup Zgz×OutD):={T:=T,G:=[(19,Z75.E)],mvs:=[],no:=0,n:=17,res:=resOf T ZC2 Zgz Tryz.f10.results.toList,loops:=[],regs:=[],conds:=[],cuts:=[]}
theorem ZPV(k:Nat):EnvOK Tryz.prog k Zkk.G:=(EnvOK.cons (ZFr k) (EnvOK.nil mixed))
theorem ZR6(k:Nat)(x:Tup Z85.ps):Z85.f (k+1) x=fnK Z85 Zkk Zq8 k x:=by kernel_rfl
theorem ZQh(x:Tup Z85.ps):Z85.f 0 x=none:=by kernel_rfl
theorem ZPN(k:Nat):LOK Tryz.prog Zkk k Zq8:=LOK.by [] (by kernel_rfl) AllOK.nil
theorem ZQm(k:Nat):SoundAt Tryz.prog k 10 Z85.E:= @Z5 Tryz.prog Z85 Zkk 10 Tryz.f10 Zq8 (by kernel_rfl) (by kernel_rfl) (by kernel_rfl) Tryz.func10 (by kernel_rfl) (by kernel_rfl) (by kernel_rfl) T_ok ZPV ZPN ZQh ZR6 k
noncomputable def ZeZ:List PK:=[PK.mk .bool false none false none]
noncomputable def Zzd:List PK:=[PK.mk (.pair I6 (.slice 3 I6)) true none false none]
noncomputable def ZvD(r:Bool):Tup ZeZ×OutD:=((r,()),none)
noncomputable def ZuW:Tup ZeZ×OutD→Option (Bool)
 |(a,none)=>some (a.1)
 |_=>none
theorem ZEh: ∀b r,ZuW b=some r→ZvD r=b:=by
 rintro ⟨a,_|_⟩ r h<;>cases h;rfl
noncomputable def ZeT:Nat→Int×List Int→Option Bool
 |0,_=>none
 |k+1,p0=>
  if decide (p0.1≥0)=true then if decide (p0.1≤4)=true then if p0.1<0 then none else if decide ((↑(List.length p0.2):Int)=shlS (1:Int) p0.1)=true then Option.bind (Ziu k p0.2) fun z0=>some z0 else some false else some false else some false
noncomputable def Z51:FnDef:= .of Zzd ZeZ (Bool) (fun k x=>ZeT k x.1) ZvD ZuW ZEh
noncomputable def Zoo:Code:=Tryz.f30.body.getD .skip
noncomputable def ZiC:Ctx (Tup ZeZ×OutD):={T:=T,G:=[(63,Z6C.E)],mvs:=[],no:=0,n:=25,res:=resOf T Zzd ZeZ Tryz.f30.results.toList,loops:=[],regs:=[],conds:=[],cuts:=[]}
theorem ZOD(k:Nat):EnvOK Tryz.prog k ZiC.G:=(EnvOK.cons (ZOL k) (EnvOK.nil mixed))
theorem ZOA(k:Nat)(x:Tup Z51.ps):Z51.f (k+1) x=fnK Z51 ZiC Zoo k x:=by kernel_rfl
theorem ZNC(x:Tup Z51.ps):Z51.f 0 x=none:=by kernel_rfl
theorem ZOg(k:Nat):LOK Tryz.prog ZiC k Zoo:=LOK.by [] (by kernel_rfl) AllOK.nil
theorem Zy6(k:Nat):SoundAt Tryz.prog k 30 Z51.E:= @Z5 Tryz.prog Z51 ZiC 30 Tryz.f30 Zoo (by kernel_rfl) (by kernel_rfl) (by kernel_rfl) Tryz.func30 (by kernel_rfl) (by kernel_rfl) (by kernel_rfl) T_ok ZOD ZOg ZNC ZOA k
noncomputable def Z2R:List PK:=[PK.mk (.pair I6 (.pair I6 (.slice 76 P6))) true none false none,PK.mk I6 false none false none,PK.mk (.slice 3 I6) false none false none]
noncomputable def ZnE:List PK:=[PK.mk (.pair I6 (.slice 3 I6)) true none false none]
noncomputable def ZlU(r:(Int×Int×List (Int×Int))×Int×List Int):Tup Z2R×OutD:=((r.1,r.2.1,r.2.2,()),none)
noncomputable def Zm9:Tup Z2R×OutD→Option ((Int×Int×List (Int×Int))×Int×List Int)
 |(a,none)=>some (a.1,a.2.1,a.2.2.1)
 |_=>none
theorem Zuq: ∀b r,Zm9 b=some r→ZlU r=b:=by
 rintro ⟨a,_|_⟩ r h<;>cases h;rfl
noncomputable def Zfj:Nat→Int→Int→List (Int×Int)→List Int→List Int→Int→Int→Int→Option (Int×Int×List (Int×Int)×List Int×List Int×Int)
 |0,_,_,_,_,_,_,_,_=>none
 |k+1,b1_0,b1_1,o2,o3,o4,v7,v20,v21=>
  if decide (v21<v20)=true then if (0:Int)≤v21 then if v21<(↑(List.length o3):Int) then if List.length o4+List.length [v21]≤(140737488355328/8:Nat) then Zfj k b1_0 b1_1 o2 o3 (o4++[v21]) (wrap64 (v7+wrap64 ((1:Int)-List.getD o3 (Int.toNat v21) (0:Int)))) v20 (wrap64 (v21+1)) else none else none else none else some (b1_0,b1_1,o2,o3,o4,v7)
noncomputable def Ze8:Spec:=Spec.mk [.ro,Obq,O0,O1,O1] [(2,.at (.ptr 1 0)),(5,.at (.sl 3)),(6,.at (.sl 4)),(7,.at (.int .i64)),(19,.at (.sl 3)),(20,.at (.int .i64)),(21,.at (.int .i64))]
noncomputable def ZwO:Spec:=Spec.mk [.ro,Obq,O0,O1,O1] [(2,.at (.ptr 1 0)),(5,.at (.sl 3)),(6,.at (.sl 4)),(7,.at (.int .i64))]
noncomputable def Z3P:LoopDef (Tup Z2R×OutD):= .plain Ze8 ZwO (Int×Int×List (Int×Int)×List Int×List Int×Int) (fun k x=>Zfj k x.1.2.1.1 x.1.2.1.2.1 x.1.2.2.1 x.1.2.2.2.1 x.1.2.2.2.2.1 x.2.2.2.2.1 x.2.2.2.2.2.2.1 x.2.2.2.2.2.2.2.1) (fun z=>(((),(z.1,z.2.1,(),()),z.2.2.1,z.2.2.2.1,z.2.2.2.2.1,()),((),(),(),z.2.2.2.2.2,()))) (fun y=>(y.1.2.1.1,y.1.2.1.2.1,y.1.2.2.1,y.1.2.2.2.1,y.1.2.2.2.2.1,y.2.2.2.2.1)) (fun _=>rfl)
noncomputable def Z4z:Nat→Int→Int→List (Int×Int)→List Int→List Int→Int→Int→List (Int×Int)→List (Int×Int)→Int→Int→Int→Option (Int×Int×List (Int×Int)×List Int×List Int×Int×Int×List (Int×Int)×List (Int×Int)×Int×Int)
 |0,_,_,_,_,_,_,_,_,_,_,_,_=>none
 |k+1,b1_0,b1_1,o2,o3,o4,b5_0,b5_1,o6,o7,v7,v11,v13=>
  if decide (wrap64 (v13+1)<(↑(List.length o3):Int))=true then if (0:Int)≤v13 then if v13<(↑(List.length o3):Int) then if decide (List.getD o3 (Int.toNat v13) (0:Int)=1)=true then if (0:Int)≤wrap64 (v13+1) then if wrap64 (v13+1)<(↑(List.length o3):Int) then if decide (List.getD o3 (Int.toNat (wrap64 (v13+1))) (0:Int)=0)=true then if (0:Int)≤v13 then if v13<(↑(List.length o7):Int) then if (0:Int)≤wrap64 (v13+1) then if wrap64 (v13+1)<(↑(List.length (List.set o7 (Int.toNat v13) ((2:Int),(0:Int)))):Int) then if (0:Int)≤v13 then if v13<(↑(List.length o3):Int) then if (0:Int)≤wrap64 (v13+1) then if wrap64 (v13+1)<(↑(List.length (List.set o3 (Int.toNat v13) (0:Int))):Int) then if (0:Int)≤wrap64 (v13+1) then if wrap64 (v13+1)<(↑(List.length o4):Int) then if (0:Int)≤v13 then if v13<(↑(List.length o4):Int) then if (0:Int)≤v13 then if v13<(↑(List.length o4):Int) then if (0:Int)≤wrap64 (v13+1) then if wrap64 (v13+1)<(↑(List.length (List.set o4 (Int.toNat v13) (List.getD o4 (Int.toNat (wrap64 (v13+1))) (0:Int)))):Int) then Z4z k b1_0 b1_1 o2 (List.set (List.set o3 (Int.toNat v13) (0:Int)) (Int.toNat (wrap64 (v13+1))) (1:Int)) (List.set (List.set o4 (Int.toNat v13) (List.getD o4 (Int.toNat (wrap64 (v13+1))) (0:Int))) (Int.toNat (wrap64 (v13+1))) (List.getD o4 (Int.toNat v13) (0:Int))) b5_0 b5_1 o6 (List.set (List.set o7 (Int.toNat v13) ((2:Int),(0:Int))) (Int.toNat (wrap64 (v13+1))) ((1:Int),(0:Int))) v7 v11 (wrap64 (v13+2)) else none else none else none else none else none else none else none else none else none else none else none else none else none else none else none else none else Z4z k b1_0 b1_1 o2 o3 o4 b5_0 b5_1 o6 o7 v7 v11 (wrap64 (v13+2)) else none else none else Z4z k b1_0 b1_1 o2 o3 o4 b5_0 b5_1 o6 o7 v7 v11 (wrap64 (v13+2)) else none else none else some (b1_0,b1_1,o2,o3,o4,b5_0,b5_1,o6,o7,v7,v11)
noncomputable def Zed:Spec:=Spec.mk [.ro,Obq,O0,O1,O1,O7,O0,O0] [(2,.at (.ptr 1 0)),(5,.at (.sl 3)),(6,.at (.sl 4)),(7,.at (.int .i64)),(10,.at (.ptr 5 0)),(11,.at (.int .i64)),(12,.at (.sl 7)),(13,.at (.int .i64))]
noncomputable def Zxd:Spec:=Spec.mk [.ro,Obq,O0,O1,O1,O7,O0,O0] [(2,.at (.ptr 1 0)),(5,.at (.sl 3)),(6,.at (.sl 4)),(7,.at (.int .i64)),(10,.at (.ptr 5 0)),(11,.at (.int .i64)),(12,.at (.sl 7))]
noncomputable def Z3S:LoopDef (Tup Z2R×OutD):= .plain Zed Zxd (Int×Int×List (Int×Int)×List Int×List Int×Int×Int×List (Int×Int)×List (Int×Int)×Int×Int) (fun k x=>Z4z k x.1.2.1.1 x.1.2.1.2.1 x.1.2.2.1 x.1.2.2.2.1 x.1.2.2.2.2.1 x.1.2.2.2.2.2.1.1 x.1.2.2.2.2.2.1.2.1 x.1.2.2.2.2.2.2.1 x.1.2.2.2.2.2.2.2.1 x.2.2.2.2.1 x.2.2.2.2.2.2.1 x.2.2.2.2.2.2.2.2.1) (fun z=>(((),(z.1,z.2.1,(),()),z.2.2.1,z.2.2.2.1,z.2.2.2.2.1,(z.2.2.2.2.2.1,z.2.2.2.2.2.2.1,(),()),z.2.2.2.2.2.2.2.1,z.2.2.2.2.2.2.2.2.1,()),((),(),(),z.2.2.2.2.2.2.2.2.2.1,(),z.2.2.2.2.2.2.2.2.2.2,(),()))) (fun y=>(y.1.2.1.1,y.1.2.1.2.1,y.1.2.2.1,y.1.2.2.2.1,y.1.2.2.2.2.1,y.1.2.2.2.2.2.1.1,y.1.2.2.2.2.2.1.2.1,y.1.2.2.2.2.2.2.1,y.1.2.2.2.2.2.2.2.1,y.2.2.2.2.1,y.2.2.2.2.2.2.1)) (fun _=>rfl)
noncomputable def ZaI:Nat→Int→Int→List (Int×Int)→List Int→List Int→Int→Int→List (Int×Int)→Int→Int→Option (Int×Int×List (Int×Int)×List Int×Int×Int×List (Int×Int)×Int)
 |0,_,_,_,_,_,_,_,_,_,_=>none
 |k+1,b1_0,b1_1,o2,o3,o4,b5_0,b5_1,o6,v7,v11=>
  if decide (v11=0)=true then if Int.toNat (↑(List.length o3):Int)*(16:Nat)≤(281474976710656:Nat) then Option.bind (Z4z k b1_0 b1_1 o2 o3 o4 b5_0 b5_1 o6 (List.replicate (Int.toNat (↑(List.length o3):Int)) ((0:Int),(0:Int))) v7 v11 (Int.tmod v11 (2:Int))) fun z1=>if List.length z1.2.2.2.2.2.2.2.1+List.length z1.2.2.2.2.2.2.2.2.1≤(140737488355328/16:Nat) then ZaI k z1.1 z1.2.1 z1.2.2.1 z1.2.2.2.1 z1.2.2.2.2.1 (wrap64 (z1.2.2.2.2.2.1+1)) z1.2.2.2.2.2.2.1 (z1.2.2.2.2.2.2.2.1++z1.2.2.2.2.2.2.2.2.1) z1.2.2.2.2.2.2.2.2.2.1 (wrap64 (z1.2.2.2.2.2.2.2.2.2.2+1)) else none else none else Option.bind (Zve k o3) fun z2=>if (!z2)=true then if Int.toNat (↑(List.length o3):Int)*(16:Nat)≤(281474976710656:Nat) then Option.bind (Z4z k b1_0 b1_1 o2 o3 o4 b5_0 b5_1 o6 (List.replicate (Int.toNat (↑(List.length o3):Int)) ((0:Int),(0:Int))) v7 v11 (Int.tmod v11 (2:Int))) fun z3=>if List.length z3.2.2.2.2.2.2.2.1+List.length z3.2.2.2.2.2.2.2.2.1≤(140737488355328/16:Nat) then ZaI k z3.1 z3.2.1 z3.2.2.1 z3.2.2.2.1 z3.2.2.2.2.1 (wrap64 (z3.2.2.2.2.2.1+1)) z3.2.2.2.2.2.2.1 (z3.2.2.2.2.2.2.2.1++z3.2.2.2.2.2.2.2.2.1) z3.2.2.2.2.2.2.2.2.2.1 (wrap64 (z3.2.2.2.2.2.2.2.2.2.2+1)) else none else none else some (b1_0,b1_1,o2,o4,b5_0,b5_1,o6,v7)
noncomputable def Zej:Spec:=Spec.mk [.ro,Obq,O0,O1,O1,O7,O0] [(2,.at (.ptr 1 0)),(5,.at (.sl 3)),(6,.at (.sl 4)),(7,.at (.int .i64)),(10,.at (.ptr 5 0)),(11,.at (.int .i64))]
noncomputable def ZwD:Spec:=Spec.mk [.ro,Obq,O0,O1,Od,O0] [(2,.at (.ptr 1 0)),(6,.at (.sl 3)),(7,.at (.int .i64)),(10,.at (.ptr 4 0))]
noncomputable def Z3U:LoopDef (Tup Z2R×OutD):= .plain Zej ZwD (Int×Int×List (Int×Int)×List Int×Int×Int×List (Int×Int)×Int) (fun k x=>ZaI k x.1.2.1.1 x.1.2.1.2.1 x.1.2.2.1 x.1.2.2.2.1 x.1.2.2.2.2.1 x.1.2.2.2.2.2.1.1 x.1.2.2.2.2.2.1.2.1 x.1.2.2.2.2.2.2.1 x.2.2.2.2.1 x.2.2.2.2.2.2.1) (fun z=>(((),(z.1,z.2.1,(),()),z.2.2.1,z.2.2.2.1,(z.2.2.2.2.1,z.2.2.2.2.2.1,(),()),z.2.2.2.2.2.2.1,()),((),(),z.2.2.2.2.2.2.2,(),()))) (fun y=>(y.1.2.1.1,y.1.2.1.2.1,y.1.2.2.1,y.1.2.2.2.1,y.1.2.2.2.2.1.1,y.1.2.2.2.2.1.2.1,y.1.2.2.2.2.2.1,y.2.2.2.1)) (fun _=>rfl)
noncomputable def Z5M:Nat→Int×List Int→Option ((Int×Int×List (Int×Int))×Int×List Int)
 |0,_=>none
 |k+1,p0=>
  if (0:Nat)+List.length p0.2≤(140737488355328/8:Nat) then Option.bind (Zfj k (0:Int) (0:Int) [] p0.2 [] (0:Int) (↑(List.length p0.2):Int) (0:Int)) fun z0=>Option.bind (ZaI k z0.1 z0.2.1 z0.2.2.1 z0.2.2.2.1 z0.2.2.2.2.1 (0:Int) (↑(List.length z0.2.2.2.1):Int) [] z0.2.2.2.2.2 (0:Int)) fun z4=>some ((z4.2.2.2.2.1,z4.2.2.2.2.2.1,z4.2.2.2.2.2.2.1),z4.2.2.2.2.2.2.2,z4.2.2.2.1) else none
noncomputable def Z2W:FnDef:= .of ZnE Z2R ((Int×Int×List (Int×Int))×Int×List Int) (fun k x=>Z5M k x.1) ZlU Zm9 Zuq
noncomputable def Z5R:Code:=Tryz.f31.body.getD .skip
noncomputable def ZG:Ctx (Tup Z2R×OutD):={T:=T,G:=[(64,Z5H.E)],mvs:=[],no:=0,n:=116,res:=resOf T ZnE Z2R Tryz.f31.results.toList,loops:=[(0,Z3P.E),(4,Z3S.E),(2,Z3U.E)],regs:=[],conds:=[],cuts:=[]}
theorem ZcA(k:Nat):EnvOK Tryz.prog k ZG.G:=(EnvOK.cons (ZMt k) (EnvOK.nil mixed))
noncomputable def Z9K:Code:=(findLoop 0 Z5R).getD .skip
theorem ZwK(k:Nat)(x:Ze8.D):Z3P.lp (k+1) x=loopK ZG Z3P 0 Z9K k x:=by kernel_rfl
theorem ZwM(k:Nat):LOK Tryz.prog ZG k Z9K:=LOK.by [] (by kernel_rfl) AllOK.nil
theorem Zwc(x:Ze8.D):Z3P.lp 0 x=none:=by kernel_rfl
theorem Zu4(k:Nat):EOK Tryz.prog ZG k Z3P.E (.block 0 (.loop Z9K)):=Zd T_ok ZcA Zwc ZwK ZwM k
noncomputable def Z9D:Code:=(findLoop 4 Z5R).getD .skip
theorem Zwg(k:Nat)(x:Zed.D):Z3S.lp (k+1) x=loopK ZG Z3S 4 Z9D k x:=by kernel_rfl
theorem Zxg(k:Nat):LOK Tryz.prog ZG k Z9D:=LOK.by [] (by kernel_rfl) AllOK.nil
theorem Zxa(x:Zed.D):Z3S.lp 0 x=none:=by kernel_rfl
theorem Zun(k:Nat):EOK Tryz.prog ZG k Z3S.E (.block 4 (.loop Z9D)):=Zd T_ok ZcA Zxa Zwg Zxg k
noncomputable def Z9L:Code:=(findLoop 2 Z5R).getD .skip
theorem ZwL(k:Nat)(x:Zej.D):Z3U.lp (k+1) x=loopK ZG Z3U 2 Z9L k x:=by kernel_rfl
theorem ZvZ(k:Nat):LOK Tryz.prog ZG k Z9L:=LOK.by [(Z3S.E,.block 4 (.loop Z9D))] (by kernel_rfl) (AllOK.cons (Zun k) AllOK.nil)
theorem Zx2(x:Zej.D):Z3U.lp 0 x=none:=by kernel_rfl
theorem Zuv(k:Nat):EOK Tryz.prog ZG k Z3U.E (.block 2 (.loop Z9L)):=Zd T_ok ZcA Zx2 ZwL ZvZ k
theorem ZDA(k:Nat)(x:Tup Z2W.ps):Z2W.f (k+1) x=fnK Z2W ZG Z5R k x:=by kernel_rfl
theorem ZDo(x:Tup Z2W.ps):Z2W.f 0 x=none:=by kernel_rfl
theorem ZDh(k:Nat):LOK Tryz.prog ZG k Z5R:=LOK.by [(Z3P.E,.block 0 (.loop Z9K)),(Z3U.E,.block 2 (.loop Z9L))] (by kernel_rfl) (AllOK.cons (Zu4 k) (AllOK.cons (Zuv k) AllOK.nil))
theorem ZDl(k:Nat):SoundAt Tryz.prog k 31 Z2W.E:= @Z5 Tryz.prog Z2W ZG 31 Tryz.f31 Z5R (by kernel_rfl) (by kernel_rfl) (by kernel_rfl) Tryz.func31 (by kernel_rfl) (by kernel_rfl) (by kernel_rfl) T_ok ZcA ZDh ZDo ZDA k
noncomputable def ZeX:List PK:=[PK.mk I6 false none false none]
noncomputable def Zzs:List PK:=[PK.mk (.pair I6 (.slice 3 I6)) true none false none]
noncomputable def ZuH(r:Int):Tup ZeX×OutD:=((r,()),none)
noncomputable def Zvo:Tup ZeX×OutD→Option (Int)
 |(a,none)=>some (a.1)
 |_=>none
theorem ZFQ: ∀b r,Zvo b=some r→ZuH r=b:=by
 rintro ⟨a,_|_⟩ r h<;>cases h;rfl
noncomputable def ZeS:Nat→Int×List Int→Option Int
 |0,_=>none
 |k+1,p0=>
  Option.bind (ZCa k (p0.1,p0.2)) fun z0=>some (wrap64 ((↑(List.length p0.2):Int)-(↑(List.length z0):Int)))
noncomputable def Z6M:FnDef:= .of Zzs ZeX (Int) (fun k x=>ZeS k x.1) ZuH Zvo ZFQ
noncomputable def Zo3:Code:=Tryz.f34.body.getD .skip
noncomputable def ZiY:Ctx (Tup ZeX×OutD):={T:=T,G:=[(67,Z7V.E)],mvs:=[],no:=0,n:=10,res:=resOf T Zzs ZeX Tryz.f34.results.toList,loops:=[],regs:=[],conds:=[],cuts:=[]}
theorem ZO8(k:Nat):EnvOK Tryz.prog k ZiY.G:=(EnvOK.cons (ZQo k) (EnvOK.nil mixed))
theorem ZOm(k:Nat)(x:Tup Z6M.ps):Z6M.f (k+1) x=fnK Z6M ZiY Zo3 k x:=by kernel_rfl
theorem ZNR(x:Tup Z6M.ps):Z6M.f 0 x=none:=by kernel_rfl
theorem ZNN(k:Nat):LOK Tryz.prog ZiY k Zo3:=LOK.by [] (by kernel_rfl) AllOK.nil
theorem ZOW(k:Nat):SoundAt Tryz.prog k 34 Z6M.E:= @Z5 Tryz.prog Z6M ZiY 34 Tryz.f34 Zo3 (by kernel_rfl) (by kernel_rfl) (by kernel_rfl) Tryz.func34 (by kernel_rfl) (by kernel_rfl) (by kernel_rfl) T_ok ZO8 ZNN ZNR ZOm k
noncomputable def Z25:List PK:=[PK.mk (.slice 3 I6) false none false none]
noncomputable def ZnQ:List PK:=[PK.mk (.pair I6 (.pair I6 (.slice 76 P6))) true none false none]
noncomputable def Zn0(r:List Int):Tup Z25×OutD:=((r,()),none)
noncomputable def Zmu:Tup Z25×OutD→Option (List Int)
 |(a,none)=>some (a.1)
 |_=>none
theorem Zum: ∀b r,Zmu b=some r→Zn0 r=b:=by
 rintro ⟨a,_|_⟩ r h<;>cases h;rfl
noncomputable def Z4H:Nat→Int→Int→List (Int×Int)→List Int→Int→Int→Option (Int×Int×List (Int×Int)×List Int)
 |0,_,_,_,_,_,_=>none
 |k+1,b1_0,b1_1,b1_2,o2,v17,v18=>
  if decide (v18<v17)=true then if (0:Int)≤v18 then if v18<(↑(List.length o2):Int) then Z4H k b1_0 b1_1 b1_2 (List.set o2 (Int.toNat v18) (-1:Int)) v17 (wrap64 (v18+1)) else none else none else some (b1_0,b1_1,b1_2,o2)
noncomputable def Ze7:Spec:=Spec.mk [.ro,O2,O1] [(1,.at (.ptr 1 0)),(3,.at (.sl 2)),(17,.at (.int .i64)),(18,.at (.int .i64))]
noncomputable def Zxf:Spec:=Spec.mk [.ro,O2,O1] [(1,.at (.ptr 1 0)),(3,.at (.sl 2))]
noncomputable def Z43:LoopDef (Tup Z25×OutD):= .plain Ze7 Zxf (Int×Int×List (Int×Int)×List Int) (fun k x=>Z4H k x.1.2.1.1 x.1.2.1.2.1 x.1.2.1.2.2.1 x.1.2.2.1 x.2.2.2.1 x.2.2.2.2.1) (fun z=>(((),(z.1,z.2.1,z.2.2.1,()),z.2.2.2,()),((),(),()))) (fun y=>(y.1.2.1.1,y.1.2.1.2.1,y.1.2.1.2.2.1,y.1.2.2.1)) (fun _=>rfl)
noncomputable def Z29:Nat→Int→Int→List (Int×Int)→List Int→List Int→List Int→Int→List (Int×Int)→Int→Int→Int→Int→Option (Int×Int×List (Int×Int)×List Int×List Int×Int×List (Int×Int)×Int×Int)
 |0,_,_,_,_,_,_,_,_,_,_,_,_=>none
 |k+1,b1_0,b1_1,b1_2,o2,o3,o4,v5,v26,v27,v28,v60,v61=>
  if decide (v61<v60)=true then if (0:Int)≤v61 then if v61<(↑(List.length o4):Int) then if (0:Int)≤List.getD o4 (Int.toNat v61) (0:Int) then if List.getD o4 (Int.toNat v61) (0:Int)<(↑(List.length b1_2):Int) then Option.bind (ZdO k (Prod.fst (List.getD b1_2 (Int.toNat (List.getD o4 (Int.toNat v61) (0:Int))) ((0:Int),(0:Int))),Prod.snd (List.getD b1_2 (Int.toNat (List.getD o4 (Int.toNat v61) (0:Int))) ((0:Int),(0:Int))))) fun z3=>if z3=true then if (0:Int)≤List.getD o4 (Int.toNat v61) (0:Int) then if List.getD o4 (Int.toNat v61) (0:Int)<(↑(List.length o2):Int) then if decide (List.getD o2 (Int.toNat (List.getD o4 (Int.toNat v61) (0:Int))) (0:Int)<0)=true then if (0:Int)≤List.getD o4 (Int.toNat v61) (0:Int) then if List.getD o4 (Int.toNat v61) (0:Int)<(↑(List.length o2):Int) then if List.length o3+List.length [List.getD o4 (Int.toNat v61) (0:Int)]≤(140737488355328/8:Nat) then Z29 k b1_0 b1_1 b1_2 (List.set o2 (Int.toNat (List.getD o4 (Int.toNat v61) (0:Int))) v5) (o3++[List.getD o4 (Int.toNat v61) (0:Int)]) o4 v5 v26 v27 v28 v60 (wrap64 (v61+1)) else none else none else none else Z29 k b1_0 b1_1 b1_2 o2 o3 o4 v5 v26 v27 v28 v60 (wrap64 (v61+1)) else none else none else Z29 k b1_0 b1_1 b1_2 o2 o3 o4 v5 v26 v27 v28 v60 (wrap64 (v61+1)) else none else none else none else none else some (b1_0,b1_1,b1_2,o2,o3,v5,v26,v27,v28)
noncomputable def Zee:Spec:=Spec.mk [.ro,O2,O1,O1,O1] [(1,.at (.ptr 1 0)),(3,.at (.sl 2)),(5,.at (.int .i64)),(8,.at (.sl 3)),(26,.at (.snap 0 P6)),(27,.at (.int .i64)),(28,.at (.int .i64)),(59,.at (.sl 4)),(60,.at (.int .i64)),(61,.at (.int .i64))]
noncomputable def Zw4:Spec:=Spec.mk [.ro,O2,O1,O1] [(1,.at (.ptr 1 0)),(3,.at (.sl 2)),(5,.at (.int .i64)),(8,.at (.sl 3)),(26,.at (.snap 0 P6)),(27,.at (.int .i64)),(28,.at (.int .i64))]
noncomputable def Z3Z:LoopDef (Tup Z25×OutD):= .plain Zee Zw4 (Int×Int×List (Int×Int)×List Int×List Int×Int×List (Int×Int)×Int×Int) (fun k x=>Z29 k x.1.2.1.1 x.1.2.1.2.1 x.1.2.1.2.2.1 x.1.2.2.1 x.1.2.2.2.1 x.1.2.2.2.2.1 x.2.2.2.1 x.2.2.2.2.2.1 x.2.2.2.2.2.2.1 x.2.2.2.2.2.2.2.1 x.2.2.2.2.2.2.2.2.2.1 x.2.2.2.2.2.2.2.2.2.2.1) (fun z=>(((),(z.1,z.2.1,z.2.2.1,()),z.2.2.2.1,z.2.2.2.2.1,()),((),(),z.2.2.2.2.2.1,(),z.2.2.2.2.2.2.1,z.2.2.2.2.2.2.2.1,z.2.2.2.2.2.2.2.2,()))) (fun y=>(y.1.2.1.1,y.1.2.1.2.1,y.1.2.1.2.2.1,y.1.2.2.1,y.1.2.2.2.1,y.2.2.2.1,y.2.2.2.2.2.1,y.2.2.2.2.2.2.1,y.2.2.2.2.2.2.2.1)) (fun _=>rfl)
noncomputable def Z3d:Nat→Int→Int→List (Int×Int)→List Int→List Int→Int→List (Int×Int)→Int→Int→Option (Int×Int×List (Int×Int)×List Int×Int×List (Int×Int)×Int×Int)
 |0,_,_,_,_,_,_,_,_,_=>none
 |k+1,b1_0,b1_1,b1_2,o2,o3,v5,v26,v27,v28=>
  if decide ((↑(List.length o3):Int)>0)=true then if (0:Int)<(↑(List.length o3):Int) then if (1:Int)≤(↑(List.length o3):Int) then if (↑(List.length o3):Int)≤(↑(List.length o3):Int) then Option.bind (Zhm k (b1_0,b1_1,b1_2) (List.getD o3 (Int.toNat (0:Int)) (0:Int))) fun z2=>Option.bind (Z29 k b1_0 b1_1 b1_2 o2 (List.drop (Int.toNat (1:Int)) o3) z2 v5 v26 v27 v28 (↑(List.length z2):Int) (0:Int)) fun z4=>Z3d k z4.1 z4.2.1 z4.2.2.1 z4.2.2.2.1 z4.2.2.2.2.1 z4.2.2.2.2.2.1 z4.2.2.2.2.2.2.1 z4.2.2.2.2.2.2.2.1 z4.2.2.2.2.2.2.2.2 else none else none else none else some (b1_0,b1_1,b1_2,o2,v5,v26,v27,v28)
noncomputable def ZdY:Spec:=Spec.mk [.ro,O2,O1,O1] [(1,.at (.ptr 1 0)),(3,.at (.sl 2)),(5,.at (.int .i64)),(8,.at (.sl 3)),(26,.at (.snap 0 P6)),(27,.at (.int .i64)),(28,.at (.int .i64))]
noncomputable def ZwS:Spec:=Spec.mk [.ro,O2,O1] [(1,.at (.ptr 1 0)),(3,.at (.sl 2)),(5,.at (.int .i64)),(26,.at (.snap 0 P6)),(27,.at (.int .i64)),(28,.at (.int .i64))]
noncomputable def Z3R:LoopDef (Tup Z25×OutD):= .plain ZdY ZwS (Int×Int×List (Int×Int)×List Int×Int×List (Int×Int)×Int×Int) (fun k x=>Z3d k x.1.2.1.1 x.1.2.1.2.1 x.1.2.1.2.2.1 x.1.2.2.1 x.1.2.2.2.1 x.2.2.2.1 x.2.2.2.2.2.1 x.2.2.2.2.2.2.1 x.2.2.2.2.2.2.2.1) (fun z=>(((),(z.1,z.2.1,z.2.2.1,()),z.2.2.2.1,()),((),(),z.2.2.2.2.1,z.2.2.2.2.2.1,z.2.2.2.2.2.2.1,z.2.2.2.2.2.2.2,()))) (fun y=>(y.1.2.1.1,y.1.2.1.2.1,y.1.2.1.2.2.1,y.1.2.2.1,y.2.2.2.1,y.2.2.2.2.1,y.2.2.2.2.2.1,y.2.2.2.2.2.2.1)) (fun _=>rfl)
noncomputable def Z1y:Nat→Int→Int→List (Int×Int)→List Int→Int→List (Int×Int)→Int→Int→Option (List Int)
 |0,_,_,_,_,_,_,_,_=>none
 |k+1,b1_0,b1_1,b1_2,o2,v5,v26,v27,v28=>
  if decide (v28<v27)=true then if (0:Int)≤v28 then if v28<(↑(List.length v26):Int) then Option.bind (ZdO k (Prod.fst (List.getD v26 (Int.toNat v28) ((0:Int),(0:Int))),Prod.snd (List.getD v26 (Int.toNat v28) ((0:Int),(0:Int))))) fun z1=>if (!z1)=true then Z1y k b1_0 b1_1 b1_2 o2 v5 v26 v27 (wrap64 (v28+1)) else if (0:Int)≤v28 then if v28<(↑(List.length o2):Int) then if decide (List.getD o2 (Int.toNat v28) (0:Int)≥0)=true then Z1y k b1_0 b1_1 b1_2 o2 v5 v26 v27 (wrap64 (v28+1)) else if (0:Int)≤v28 then if v28<(↑(List.length o2):Int) then Option.bind (Z3d k b1_0 b1_1 b1_2 (List.set o2 (Int.toNat v28) v5) [v28] v5 v26 v27 v28) fun z5=>Z1y k z5.1 z5.2.1 z5.2.2.1 z5.2.2.2.1 (wrap64 (z5.2.2.2.2.1+1)) z5.2.2.2.2.2.1 z5.2.2.2.2.2.2.1 (wrap64 (z5.2.2.2.2.2.2.2+1)) else none else none else none else none else none else none else some o2
noncomputable def Zeh:Spec:=Spec.mk [.ro,O2,O1] [(1,.at (.ptr 1 0)),(3,.at (.sl 2)),(5,.at (.int .i64)),(26,.at (.snap 0 P6)),(27,.at (.int .i64)),(28,.at (.int .i64))]
noncomputable def Zw1:Spec:=Spec.mk [.ro,O1] [(3,.at (.sl 1))]
noncomputable def Z3Q:LoopDef (Tup Z25×OutD):= .plain Zeh Zw1 (List Int) (fun k x=>Z1y k x.1.2.1.1 x.1.2.1.2.1 x.1.2.1.2.2.1 x.1.2.2.1 x.2.2.2.1 x.2.2.2.2.1 x.2.2.2.2.2.1 x.2.2.2.2.2.2.1) (fun z=>(((),z,()),((),()))) (fun y=>(y.1.2.1)) (fun _=>rfl)
noncomputable def Z24:Nat→Int×Int×List (Int×Int)→Option (List Int)
 |0,_=>none
 |k+1,p0=>
  if Int.toNat (↑(List.length p0.2.2):Int)*(8:Nat)≤(281474976710656:Nat) then Option.bind (Z4H k p0.1 p0.2.1 p0.2.2 (List.replicate (Int.toNat (↑(List.length p0.2.2):Int)) (0:Int)) (↑(List.length (List.replicate (Int.toNat (↑(List.length p0.2.2):Int)) (0:Int))):Int) (0:Int)) fun z0=>Option.bind (Z1y k z0.1 z0.2.1 z0.2.2.1 z0.2.2.2 (0:Int) z0.2.2.1 (↑(List.length z0.2.2.1):Int) (0:Int)) fun z6=>some z6 else none
noncomputable def Z1D:FnDef:= .of ZnQ Z25 (List Int) (fun k x=>Z24 k x.1) Zn0 Zmu Zum
noncomputable def Z4k:Code:=Tryz.f42.body.getD .skip
noncomputable def Zr:Ctx (Tup Z25×OutD):={T:=T,G:=[(72,Z5E.E),(73,Z5F.E)],mvs:=[56],no:=0,n:=91,res:=resOf T ZnQ Z25 Tryz.f42.results.toList,loops:=[(0,Z43.E),(6,Z3Z.E),(4,Z3R.E),(2,Z3Q.E)],regs:=[],conds:=[],cuts:=[]}
theorem Z8l(k:Nat):EnvOK Tryz.prog k Zr.G:=(EnvOK.cons (ZMH k) (EnvOK.cons (ZMj k) (EnvOK.nil mixed)))
noncomputable def Z9B:Code:=(findLoop 0 Z4k).getD .skip
theorem ZwC(k:Nat)(x:Ze7.D):Z43.lp (k+1) x=loopK Zr Z43 0 Z9B k x:=by kernel_rfl
theorem Zx4(k:Nat):LOK Tryz.prog Zr k Z9B:=LOK.by [] (by kernel_rfl) AllOK.nil
theorem ZvV(x:Ze7.D):Z43.lp 0 x=none:=by kernel_rfl
theorem Zup(k:Nat):EOK Tryz.prog Zr k Z43.E (.block 0 (.loop Z9B)):=Zd T_ok Z8l ZvV ZwC Zx4 k
noncomputable def Z9x:Code:=(findLoop 6 Z4k).getD .skip
theorem Zww(k:Nat)(x:Zee.D):Z3Z.lp (k+1) x=loopK Zr Z3Z 6 Z9x k x:=by kernel_rfl
theorem Zwj(k:Nat):LOK Tryz.prog Zr k Z9x:=LOK.by [] (by kernel_rfl) AllOK.nil
theorem ZvT(x:Zee.D):Z3Z.lp 0 x=none:=by kernel_rfl
theorem ZtH(k:Nat):EOK Tryz.prog Zr k Z3Z.E (.block 6 (.loop Z9x)):=Zd T_ok Z8l ZvT Zww Zwj k
noncomputable def Z9I:Code:=(findLoop 4 Z4k).getD .skip
theorem ZvP(k:Nat)(x:ZdY.D):Z3R.lp (k+1) x=loopK Zr Z3R 4 Z9I k x:=by kernel_rfl
theorem Zwe(k:Nat):LOK Tryz.prog Zr k Z9I:=LOK.by [(Z3Z.E,.block 6 (.loop Z9x))] (by kernel_rfl) (AllOK.cons (ZtH k) AllOK.nil)
theorem Zwz(x:ZdY.D):Z3R.lp 0 x=none:=by kernel_rfl
theorem Zu9(k:Nat):EOK Tryz.prog Zr k Z3R.E (.block 4 (.loop Z9I)):=Zd T_ok Z8l Zwz ZvP Zwe k
noncomputable def Z9A:Code:=(findLoop 2 Z4k).getD .skip
theorem Zwh(k:Nat)(x:Zeh.D):Z3Q.lp (k+1) x=loopK Zr Z3Q 2 Z9A k x:=by kernel_rfl
theorem Zwl(k:Nat):LOK Tryz.prog Zr k Z9A:=LOK.by [(Z3R.E,.block 4 (.loop Z9I))] (by kernel_rfl) (AllOK.cons (Zu9 k) AllOK.nil)
theorem Zwi(x:Zeh.D):Z3Q.lp 0 x=none:=by kernel_rfl
theorem Zu5(k:Nat):EOK Tryz.prog Zr k Z3Q.E (.block 2 (.loop Z9A)):=Zd T_ok Z8l Zwi Zwh Zwl k
theorem ZDB(k:Nat)(x:Tup Z1D.ps):Z1D.f (k+1) x=fnK Z1D Zr Z4k k x:=by kernel_rfl
theorem ZCO(x:Tup Z1D.ps):Z1D.f 0 x=none:=by kernel_rfl
theorem ZDT(k:Nat):LOK Tryz.prog Zr k Z4k:=LOK.by [(Z43.E,.block 0 (.loop Z9B)),(Z3Q.E,.block 2 (.loop Z9A))] (by kernel_rfl) (AllOK.cons (Zup k) (AllOK.cons (Zu5 k) AllOK.nil))
theorem Zhb(k:Nat):SoundAt Tryz.prog k 42 Z1D.E:= @Z5 Tryz.prog Z1D Zr 42 Tryz.f42 Z4k (by kernel_rfl) (by kernel_rfl) (by kernel_rfl) Tryz.func42 (by kernel_rfl) (by kernel_rfl) (by kernel_rfl) T_ok Z8l ZDT ZCO ZDB k
noncomputable def Z1n:List PK:=[PK.mk .bool false none false none]
noncomputable def Z9o:List PK:=[PK.mk (.slice 76 P6) false none false none,PK.mk P6 true none false none]
noncomputable def Z8k(r:Bool):Tup Z1n×OutD:=((r,()),none)
noncomputable def Z8q:Tup Z1n×OutD→Option (Bool)
 |(a,none)=>some (a.1)
 |_=>none
theorem Zft: ∀b r,Z8q b=some r→Z8k r=b:=by
 rintro ⟨a,_|_⟩ r h<;>cases h;rfl
noncomputable def Z1m:Nat→List (Int×Int)→Int×Int→Option Bool
 |0,_,_=>none
 |k+1,p0,p1=>
  Option.bind (Z12 k p0 (p1.1,p1.2)) fun z0=>some (decide (z0≥(0:Int)))
noncomputable def Zm:FnDef:= .of Z9o Z1n (Bool) (fun k x=>Z1m k x.1 x.2.1) Z8k Z8q Zft
noncomputable def Z4u:Code:=Tryz.f48.body.getD .skip
noncomputable def Z2k:Ctx (Tup Z1n×OutD):={T:=T,G:=[(81,Zt.E)],mvs:=[],no:=0,n:=9,res:=resOf T Z9o Z1n Tryz.f48.results.toList,loops:=[],regs:=[],conds:=[],cuts:=[]}
theorem ZhC(k:Nat):EnvOK Tryz.prog k Z2k.G:=(EnvOK.cons (ZjU k) (EnvOK.nil mixed))
theorem ZhH(k:Nat)(x:Tup Zm.ps):Zm.f (k+1) x=fnK Zm Z2k Z4u k x:=by kernel_rfl
theorem ZhI(x:Tup Zm.ps):Zm.f 0 x=none:=by kernel_rfl
theorem ZhL(k:Nat):LOK Tryz.prog Z2k k Z4u:=LOK.by [] (by kernel_rfl) AllOK.nil
theorem Z9n(k:Nat):SoundAt Tryz.prog k 48 Zm.E:= @Z5 Tryz.prog Zm Z2k 48 Tryz.f48 Z4u (by kernel_rfl) (by kernel_rfl) (by kernel_rfl) Tryz.func48 (by kernel_rfl) (by kernel_rfl) (by kernel_rfl) T_ok ZhC ZhL ZhI ZhH k
noncomputable def Zgu:BSig:=BSig.mk (111:Nat) [some ((3:Nat),Ty.int .i64),some ((3:Nat),Ty.int .i64),some ((76:Nat),Ty.pair (Ty.int .i64) (Ty.int .i64)),none]
noncomputable def ZQe:List KP:=[KP.tree true (Ty.pair (Ty.int .i64) (Ty.slice (3:Nat) (Ty.int .i64)))]
noncomputable def Zmw:Nat→Int→List Int→List Int→List (Int×Int)→Int→Int→Option (Int×List Int×List Int×List (Int×Int))
 |0,_,_,_,_,_,_=>none
 |k+1,b1_3,o2,o3,o4,v12,v13=>
  if decide (v13<v12)=true then if List.length o3+List.length [v13]≤(140737488355328/8:Nat) then Zmw k b1_3 o2 (o3++[v13]) o4 v12 (wrap64 (v13+1)) else none else some (b1_3,o2,o3,o4)
noncomputable def Zlc:Spec:=Spec.mk [.ro,Oe,O1,O1,O0] [(3,.at (.ptr 1 0)),(12,.at (.int .i64)),(13,.at (.int .i64))]
noncomputable def ZK0:Spec:=Spec.mk [.ro,Oe,O1,O1,O0] [(3,.at (.ptr 1 0))]
noncomputable def Z96:LoopDef (FD Zgu.fs):= .plain Zlc ZK0 (Int×List Int×List Int×List (Int×Int)) (fun k x=>Zmw k x.1.2.1.2.2.2.1 x.1.2.2.1 x.1.2.2.2.1 x.1.2.2.2.2.1 x.2.2.1 x.2.2.2.1) (fun z=>(((),((),(),(),z.1,()),z.2.1,z.2.2.1,z.2.2.2,()),((),()))) (fun y=>(y.1.2.1.2.2.2.1,y.1.2.2.1,y.1.2.2.2.1,y.1.2.2.2.2.1)) (fun _=>rfl)
noncomputable def Znd:Nat→Int→List Int→List Int→List (Int×Int)→Option (Int×List Int×List Int×List (Int×Int))
 |0,_,_,_,_=>none
 |k+1,b1_3,o2,o3,o4=>
  Option.bind (BDef.f Z1x k (o2,o3,o4,b1_3,())) fun z3=>if (!z3.2)=true then Option.bind (BDef.f Z1p k (z3.1.1,z3.1.2.1,z3.1.2.2.1,z3.1.2.2.2.1,())) fun z4=>Znd k z4.1.2.2.2.1 z4.1.1 z4.1.2.1 z4.1.2.2.1 else some (z3.1.2.2.2.1,z3.1.1,z3.1.2.1,z3.1.2.2.1)
noncomputable def ZkP:Spec:=Spec.mk [.ro,Oe,O1,O1,O0] [(3,.at (.ptr 1 0))]
noncomputable def ZLn:Spec:=Spec.mk [.ro,Oe,O1,O1,O0] [(3,.at (.ptr 1 0))]
noncomputable def Z9l:LoopDef (FD Zgu.fs):= .plain ZkP ZLn (Int×List Int×List Int×List (Int×Int)) (fun k x=>Znd k x.1.2.1.2.2.2.1 x.1.2.2.1 x.1.2.2.2.1 x.1.2.2.2.2.1) (fun z=>(((),((),(),(),z.1,()),z.2.1,z.2.2.1,z.2.2.2,()),((),()))) (fun y=>(y.1.2.1.2.2.2.1,y.1.2.2.1,y.1.2.2.2.1,y.1.2.2.2.2.1)) (fun _=>rfl)
noncomputable def ZQt:Nat→Int×List Int→Option (List Int×List Int×List (Int×Int)×Int×Unit)
 |0,_=>none
 |k+1,p0=>
  Option.bind (ZF1 k p0.2) fun z0=>Option.bind (Zmw k (0:Int) z0 [] [] (↑(List.length p0.2):Int) (0:Int)) fun z1=>Option.bind (BDef.f Z1p k (z1.2.1,z1.2.2.1,z1.2.2.2,z1.1,())) fun z2=>Option.bind (Znd k z2.1.2.2.2.1 z2.1.1 z2.1.2.1 z2.1.2.2.1) fun z5=>some (z5.2.1,z5.2.2.1,z5.2.2.2,z5.1,())
noncomputable def Z6c:PDef:=⟨ZQe,Zgu,2,fun k x=>ZQt k x.1⟩
noncomputable def Zgt:Code:=Tryz.f66.body.getD .skip
noncomputable def Z4W:Ctx (FD Zgu.fs):={T:=T,G:=[(102,Za4.E),(103,cloE Z1p.E),(104,cloE Z1x.E)],mvs:=[],no:=0,n:=35,res:=BSig.out Zgu 2,loops:=[(0,Z96.E),(2,Z9l.E)],regs:=[],conds:=[],cuts:=[]}
theorem Zqh(k:Nat):EnvOK Tryz.prog k Z4W.G:=(EnvOK.cons (ZS9 k) (EnvOK.consC (ZAT k) (EnvOK.consC (ZyE k) (EnvOK.nil mixed))))
noncomputable def ZfF:Code:=(findLoop 0 Zgt).getD .skip
theorem ZJr(k:Nat)(x:Zlc.D):Z96.lp (k+1) x=loopK Z4W Z96 0 ZfF k x:=by kernel_rfl
theorem ZKJ(k:Nat):LOK Tryz.prog Z4W k ZfF:=LOK.by [] (by kernel_rfl) AllOK.nil
theorem ZKA(x:Zlc.D):Z96.lp 0 x=none:=by kernel_rfl
theorem ZHa(k:Nat):EOK Tryz.prog Z4W k Z96.E (.block 0 (.loop ZfF)):=Zd T_ok Zqh ZKA ZJr ZKJ k
noncomputable def Zgo:Code:=(findLoop 2 Zgt).getD .skip
theorem ZK7(k:Nat)(x:ZkP.D):Z9l.lp (k+1) x=loopK Z4W Z9l 2 Zgo k x:=by kernel_rfl
theorem ZKp(k:Nat):LOK Tryz.prog Z4W k Zgo:=LOK.by [] (by kernel_rfl) AllOK.nil
theorem ZJL(x:ZkP.D):Z9l.lp 0 x=none:=by kernel_rfl
theorem ZHZ(k:Nat):EOK Tryz.prog Z4W k Z9l.E (.block 2 (.loop Zgo)):=Zd T_ok Zqh ZJL ZK7 ZKp k
theorem ZQF(k:Nat)(x:KTup Z6c.ps):Z6c.f (k+1) x=fnKP Z6c Z4W Zgt k x:=by kernel_rfl
theorem ZQO(x:KTup Z6c.ps):Z6c.f 0 x=none:=by kernel_rfl
theorem ZPK(k:Nat):LOK Tryz.prog Z4W k Zgt:=LOK.by [(Z96.E,.block 0 (.loop ZfF)),(Z9l.E,.block 2 (.loop Zgo))] (by kernel_rfl) (AllOK.cons (ZHa k) (AllOK.cons (ZHZ k) AllOK.nil))
theorem ZPQ(k:Nat):ClSound Tryz.prog k 66 Z6c.E:= @ZX7 Tryz.prog Z6c Z4W 66 Tryz.f66 Zgt (by kernel_rfl) (by kernel_rfl) (by kernel_rfl) Tryz.func66 (by kernel_rfl) (by kernel_rfl) (by kernel_rfl) T_ok Zqh ZPK ZQO ZQF k
noncomputable def Z7B:List PK:=[PK.mk .bool false none false none]
noncomputable def ZqL:List PK:=[PK.mk (.slice 76 P6) false none false none]
noncomputable def Zii(r:Bool):Tup Z7B×OutD:=((r,()),none)
noncomputable def Zid:Tup Z7B×OutD→Option (Bool)
 |(a,none)=>some (a.1)
 |_=>none
theorem ZlG: ∀b r,Zid b=some r→Zii r=b:=by
 rintro ⟨a,_|_⟩ r h<;>cases h;rfl
noncomputable def Z5N:Nat→List (Int×Int)→Int→Int→Option (LR Unit Bool)
 |0,_,_,_=>none
 |k+1,v8,v9,v10=>
  if decide (v10<v9)=true then if (0:Int)≤v10 then if v10<(↑(List.length v8):Int) then Option.bind (ZaW k (Prod.fst (List.getD v8 (Int.toNat v10) ((0:Int),(0:Int))),Prod.snd (List.getD v8 (Int.toNat v10) ((0:Int),(0:Int))))) fun z0=>if (!z0)=true then some (LR.ret false) else Z5N k v8 v9 (wrap64 (v10+1)) else none else none else some (LR.go ())
noncomputable def ZfI:Spec:=Spec.mk [.ro] [(8,.at (.snap 0 P6)),(9,.at (.int .i64)),(10,.at (.int .i64))]
noncomputable def ZAe:Spec:=Spec.mk [.ro] []
noncomputable def Z58:LoopDef (Tup Z7B×OutD):= .rets ZfI ZAe (Unit) (Bool) (fun k x=>Z5N k x.2.1 x.2.2.1 x.2.2.2.1) (fun z=>(((),()),(()))) (fun y=>()) (fun _=>rfl) Zii Zid ZlG
noncomputable def ZeJ:Nat→List (Int×Int)→Option Bool
 |0,_=>none
 |k+1,p0=>
  if decide ((↑(List.length p0):Int)>90)=true then some false else Option.bind (Z5N k p0 (↑(List.length p0):Int) (0:Int)) fun z1=>LR.on z1 (fun y1=>some true) fun r1=>some r1
noncomputable def Z4b:FnDef:= .of ZqL Z7B (Bool) (fun k x=>ZeJ k x.1) Zii Zid ZlG
noncomputable def Zev:Code:=Tryz.f69.body.getD .skip
noncomputable def Z5s:Ctx (Tup Z7B×OutD):={T:=T,G:=[(74,Z3N.E)],mvs:=[],no:=0,n:=18,res:=resOf T ZqL Z7B Tryz.f69.results.toList,loops:=[(0,Z58.E)],regs:=[],conds:=[],cuts:=[]}
theorem Zqp(k:Nat):EnvOK Tryz.prog k Z5s.G:=(EnvOK.cons (ZkI k) (EnvOK.nil mixed))
noncomputable def Zbq:Code:=(findLoop 0 Zev).getD .skip
theorem ZAJ(k:Nat)(x:ZfI.D):Z58.lp (k+1) x=loopK Z5s Z58 0 Zbq k x:=by kernel_rfl
theorem ZA6(k:Nat):LOK Tryz.prog Z5s k Zbq:=LOK.by [] (by kernel_rfl) AllOK.nil
theorem ZAF(x:ZfI.D):Z58.lp 0 x=none:=by kernel_rfl
theorem Zzm(k:Nat):EOK Tryz.prog Z5s k Z58.E (.block 0 (.loop Zbq)):=Zd T_ok Zqp ZAF ZAJ ZA6 k
theorem ZH8(k:Nat)(x:Tup Z4b.ps):Z4b.f (k+1) x=fnK Z4b Z5s Zev k x:=by kernel_rfl
theorem ZIx(x:Tup Z4b.ps):Z4b.f 0 x=none:=by kernel_rfl
theorem ZHc(k:Nat):LOK Tryz.prog Z5s k Zev:=LOK.by [(Z58.E,.block 0 (.loop Zbq))] (by kernel_rfl) (AllOK.cons (Zzm k) AllOK.nil)
theorem ZGN(k:Nat):SoundAt Tryz.prog k 69 Z4b.E:= @Z5 Tryz.prog Z4b Z5s 69 Tryz.f69 Zev (by kernel_rfl) (by kernel_rfl) (by kernel_rfl) Tryz.func69 (by kernel_rfl) (by kernel_rfl) (by kernel_rfl) T_ok Zqp ZHc ZIx ZH8 k
noncomputable def ZgG:List PK:=[PK.mk I6 false none false none,PK.mk .bool false none false none]
noncomputable def ZBm:List PK:=[PK.mk P6 true none false none,PK.mk I6 false none false none]
noncomputable def Zyt(r:Int×Bool):Tup ZgG×OutD:=((r.1,r.2,()),none)
noncomputable def Zyi:Tup ZgG×OutD→Option (Int×Bool)
 |(a,none)=>some (a.1,a.2.1)
 |_=>none
theorem ZHU: ∀b r,Zyi b=some r→Zyt r=b:=by
 rintro ⟨a,_|_⟩ r h<;>cases h;rfl
noncomputable def ZgH:Nat→Int×Int→Int→Option (Int×Bool)
 |0,_,_=>none
 |k+1,p0,p1=>
  Option.bind (ZaW k (p0.1,p0.2)) fun z0=>if (!z0)=true then some ((0:Int),false) else if decide (p1<(-1:Int))=true then some ((0:Int),false) else if decide (p1>1)=true then some ((0:Int),false) else if decide (p0.1=5)=true then some ((0:Int),false) else if decide (p0.1=1)=true then some ((-1:Int),true) else if decide (p0.1=2)=true then some ((1:Int),true) else if decide (p0.1=3)=true then some (wrap64 (wrap64 ((2:Int)*p0.2)-1),true) else if decide (p0.1=6)=true then some (wrap64 (wrap64 ((2:Int)*p0.2)-1),true) else if decide (p0.1=4)=true then some (wrap64 ((0:Int)-p1),true) else some ((0:Int),true)
noncomputable def Z6a:FnDef:= .of ZBm ZgG (Int×Bool) (fun k x=>ZgH k x.1 x.2.1) Zyt Zyi ZHU
noncomputable def ZpY:Code:=Tryz.f70.body.getD .skip
noncomputable def ZkC:Ctx (Tup ZgG×OutD):={T:=T,G:=[(74,Z3N.E)],mvs:=[],no:=0,n:=39,res:=resOf T ZBm ZgG Tryz.f70.results.toList,loops:=[],regs:=[],conds:=[],cuts:=[]}
theorem ZQp(k:Nat):EnvOK Tryz.prog k ZkC.G:=(EnvOK.cons (ZkI k) (EnvOK.nil mixed))
theorem ZQ8(k:Nat)(x:Tup Z6a.ps):Z6a.f (k+1) x=fnK Z6a ZkC ZpY k x:=by kernel_rfl
theorem ZQ5(x:Tup Z6a.ps):Z6a.f 0 x=none:=by kernel_rfl
theorem ZRb(k:Nat):LOK Tryz.prog ZkC k ZpY:=LOK.by [] (by kernel_rfl) AllOK.nil
theorem ZC7(k:Nat):SoundAt Tryz.prog k 70 Z6a.E:= @Z5 Tryz.prog Z6a ZkC 70 Tryz.f70 ZpY (by kernel_rfl) (by kernel_rfl) (by kernel_rfl) Tryz.func70 (by kernel_rfl) (by kernel_rfl) (by kernel_rfl) T_ok ZQp ZRb ZQ5 ZQ8 k
noncomputable def ZgK:List PK:=[PK.mk .bool false none false none]
noncomputable def ZBs:List PK:=[PK.mk P6 true none false none]
noncomputable def Zy1(r:Bool):Tup ZgK×OutD:=((r,()),none)
noncomputable def Zzw:Tup ZgK×OutD→Option (Bool)
 |(a,none)=>some (a.1)
 |_=>none
theorem ZGX: ∀b r,Zzw b=some r→Zy1 r=b:=by
 rintro ⟨a,_|_⟩ r h<;>cases h;rfl
noncomputable def ZgI:Nat→Int×Int→Option Bool
 |0,_=>none
 |k+1,p0=>
  Option.bind (Z1f k p0.1 (0:Int) (7:Int)) fun z0=>if z0=true then if decide (p0.2=0)=true then some true else if decide (p0.2=1)=true then Option.bind (Z6j k (p0.1,p0.2)) fun z1=>some z1 else some false else some false
noncomputable def Z67:FnDef:= .of ZBs ZgK (Bool) (fun k x=>ZgI k x.1) Zy1 Zzw ZGX
noncomputable def Zqc:Code:=Tryz.f75.body.getD .skip
noncomputable def Zky:Ctx (Tup ZgK×OutD):={T:=T,G:=[(76,Z2i.E),(105,Z2E.E)],mvs:=[],no:=0,n:=20,res:=resOf T ZBs ZgK Tryz.f75.results.toList,loops:=[],regs:=[],conds:=[],cuts:=[]}
theorem ZPF(k:Nat):EnvOK Tryz.prog k Zky.G:=(EnvOK.cons (Z9H k) (EnvOK.cons (Zli k) (EnvOK.nil mixed)))
theorem ZQX(k:Nat)(x:Tup Z67.ps):Z67.f (k+1) x=fnK Z67 Zky Zqc k x:=by kernel_rfl
theorem ZR7(x:Tup Z67.ps):Z67.f 0 x=none:=by kernel_rfl
theorem ZQ3(k:Nat):LOK Tryz.prog Zky k Zqc:=LOK.by [] (by kernel_rfl) AllOK.nil
theorem ZBv(k:Nat):SoundAt Tryz.prog k 75 Z67.E:= @Z5 Tryz.prog Z67 Zky 75 Tryz.f75 Zqc (by kernel_rfl) (by kernel_rfl) (by kernel_rfl) Tryz.func75 (by kernel_rfl) (by kernel_rfl) (by kernel_rfl) T_ok ZPF ZQ3 ZR7 ZQX k
noncomputable def Zf1:List PK:=[PK.mk .bool false none false none]
noncomputable def ZFs:List PK:=[PK.mk (.slice 3 I6) false none false none,PK.mk I6 false none false none,PK.mk I6 false none false none]
noncomputable def ZpT(r:Bool):Tup Zf1×OutD:=((r,()),none)
noncomputable def Zq4:Tup Zf1×OutD→Option (Bool)
 |(a,none)=>some (a.1)
 |_=>none
theorem Ztk: ∀b r,Zq4 b=some r→ZpT r=b:=by
 rintro ⟨a,_|_⟩ r h<;>cases h;rfl
noncomputable def ZbW:Nat→Int→Int→List Int→Int→Int→Option (LR Unit Bool)
 |0,_,_,_,_,_=>none
 |k+1,v1,v2,v9,v10,v11=>
  if decide (v11<v10)=true then if (0:Int)≤v11 then if v11<(↑(List.length v9):Int) then Option.bind (Z1f k (List.getD v9 (Int.toNat v11) (0:Int)) v1 v2) fun z0=>if (!z0)=true then some (LR.ret false) else ZbW k v1 v2 v9 v10 (wrap64 (v11+1)) else none else none else some (LR.go ())
noncomputable def Zn6:Spec:=Spec.mk [.ro] [(1,.at (.int .i64)),(2,.at (.int .i64)),(9,.at (.snap 0 I6)),(10,.at (.int .i64)),(11,.at (.int .i64))]
noncomputable def ZLB:Spec:=Spec.mk [.ro] []
noncomputable def Zaq:LoopDef (Tup Zf1×OutD):= .rets Zn6 ZLB (Unit) (Bool) (fun k x=>ZbW k x.2.1 x.2.2.1 x.2.2.2.1 x.2.2.2.2.1 x.2.2.2.2.2.1) (fun z=>(((),()),(()))) (fun y=>()) (fun _=>rfl) ZpT Zq4 Ztk
noncomputable def Zcl:Nat→List Int→Int→Int→Option Bool
 |0,_,_,_=>none
 |k+1,p0,p1,p2=>
  Option.bind (ZbW k p1 p2 p0 (↑(List.length p0):Int) (0:Int)) fun z1=>LR.on z1 (fun y1=>some true) fun r1=>some r1
noncomputable def Z5Z:FnDef:= .of ZFs Zf1 (Bool) (fun k x=>Zcl k x.1 x.2.1 x.2.2.1) ZpT Zq4 Ztk
noncomputable def ZmF:Code:=Tryz.f77.body.getD .skip
noncomputable def Zcj:Ctx (Tup Zf1×OutD):={T:=T,G:=[(76,Z2i.E)],mvs:=[],no:=0,n:=21,res:=resOf T ZFs Zf1 Tryz.f77.results.toList,loops:=[(0,Zaq.E)],regs:=[],conds:=[],cuts:=[]}
theorem ZEF(k:Nat):EnvOK Tryz.prog k Zcj.G:=(EnvOK.cons (Z9H k) (EnvOK.nil mixed))
noncomputable def Zhd:Code:=(findLoop 0 ZmF).getD .skip
theorem ZMo(k:Nat)(x:Zn6.D):Zaq.lp (k+1) x=loopK Zcj Zaq 0 Zhd k x:=by kernel_rfl
theorem ZLG(k:Nat):LOK Tryz.prog Zcj k Zhd:=LOK.by [] (by kernel_rfl) AllOK.nil
theorem ZNb(x:Zn6.D):Zaq.lp 0 x=none:=by kernel_rfl
theorem ZKD(k:Nat):EOK Tryz.prog Zcj k Zaq.E (.block 0 (.loop Zhd)):=Zd T_ok ZEF ZNb ZMo ZLG k
theorem ZSo(k:Nat)(x:Tup Z5Z.ps):Z5Z.f (k+1) x=fnK Z5Z Zcj ZmF k x:=by kernel_rfl
theorem ZSz(x:Tup Z5Z.ps):Z5Z.f 0 x=none:=by kernel_rfl
theorem ZRN(k:Nat):LOK Tryz.prog Zcj k ZmF:=LOK.by [(Zaq.E,.block 0 (.loop Zhd))] (by kernel_rfl) (AllOK.cons (ZKD k) AllOK.nil)
theorem Zs5(k:Nat):SoundAt Tryz.prog k 77 Z5Z.E:= @Z5 Tryz.prog Z5Z Zcj 77 Tryz.f77 ZmF (by kernel_rfl) (by kernel_rfl) (by kernel_rfl) Tryz.func77 (by kernel_rfl) (by kernel_rfl) (by kernel_rfl) T_ok ZEF ZRN ZSz ZSo k
noncomputable def Zf7:List PK:=[PK.mk I6 false none false none]
noncomputable def Zzv:List PK:=[PK.mk (.pair I6 (.pair I6 (.pair (.slice 76 P6) (.pair (.slice 3 I6) (.slice 3 I6))))) true none false none]
noncomputable def ZvF(r:Int):Tup Zf7×OutD:=((r,()),none)
noncomputable def Zvk:Tup Zf7×OutD→Option (Int)
 |(a,none)=>some (a.1)
 |_=>none
theorem ZEw: ∀b r,Zvk b=some r→ZvF r=b:=by
 rintro ⟨a,_|_⟩ r h<;>cases h;rfl
noncomputable def Z2v:Nat→Int×Int×List (Int×Int)×List Int×List Int→Option Int
 |0,_=>none
 |k+1,p0=>
  Option.bind (Zo2 k (wrap64 ((↑(List.length p0.2.2.1):Int)+(1:Int))) (wrap64 (p0.1*p0.2.1))) fun z0=>some z0
noncomputable def Z42:FnDef:= .of Zzv Zf7 (Int) (fun k x=>Z2v k x.1) ZvF Zvk ZEw
noncomputable def Zov:Code:=Tryz.f78.body.getD .skip
noncomputable def ZiS:Ctx (Tup Zf7×OutD):={T:=T,G:=[(106,Z6u.E)],mvs:=[],no:=0,n:=13,res:=resOf T Zzv Zf7 Tryz.f78.results.toList,loops:=[],regs:=[],conds:=[],cuts:=[]}
theorem ZOG(k:Nat):EnvOK Tryz.prog k ZiS.G:=(EnvOK.cons (ZOb k) (EnvOK.nil mixed))
theorem ZOJ(k:Nat)(x:Tup Z42.ps):Z42.f (k+1) x=fnK Z42 ZiS Zov k x:=by kernel_rfl
theorem ZO7(x:Tup Z42.ps):Z42.f 0 x=none:=by kernel_rfl
theorem ZOo(k:Nat):LOK Tryz.prog ZiS k Zov:=LOK.by [] (by kernel_rfl) AllOK.nil
theorem ZoB(k:Nat):SoundAt Tryz.prog k 78 Z42.E:= @Z5 Tryz.prog Z42 ZiS 78 Tryz.f78 Zov (by kernel_rfl) (by kernel_rfl) (by kernel_rfl) Tryz.func78 (by kernel_rfl) (by kernel_rfl) (by kernel_rfl) T_ok ZOG ZOo ZO7 ZOJ k
noncomputable def ZgE:List PK:=[PK.mk I6 false none false none]
noncomputable def ZBo:List PK:=[PK.mk (.pair I6 (.pair I6 (.slice 76 P6))) true none false none]
noncomputable def ZyA(r:Int):Tup ZgE×OutD:=((r,()),none)
noncomputable def Zxz:Tup ZgE×OutD→Option (Int)
 |(a,none)=>some (a.1)
 |_=>none
theorem ZH0: ∀b r,Zxz b=some r→ZyA r=b:=by
 rintro ⟨a,_|_⟩ r h<;>cases h;rfl
noncomputable def Zkg:Nat→Int×Int×List (Int×Int)→Option Int
 |0,_=>none
 |k+1,p0=>
  Option.bind (ZoO k (p0.1,p0.2.1,p0.2.2)) fun z0=>if (0:Int)<(↑(List.length z0):Int) then some (wrap64 ((↑(List.length p0.2.2):Int)-List.getD z0 (Int.toNat (0:Int)) (0:Int))) else none
noncomputable def Z82:FnDef:= .of ZBo ZgE (Int) (fun k x=>Zkg k x.1) ZyA Zxz ZH0
noncomputable def Zq7:Code:=Tryz.f80.body.getD .skip
noncomputable def ZkH:Ctx (Tup ZgE×OutD):={T:=T,G:=[(109,Z6P.E)],mvs:=[],no:=0,n:=11,res:=resOf T ZBo ZgE Tryz.f80.results.toList,loops:=[],regs:=[],conds:=[],cuts:=[]}
theorem ZQM(k:Nat):EnvOK Tryz.prog k ZkH.G:=(EnvOK.cons (ZOt k) (EnvOK.nil mixed))
theorem ZQN(k:Nat)(x:Tup Z82.ps):Z82.f (k+1) x=fnK Z82 ZkH Zq7 k x:=by kernel_rfl
theorem ZR9(x:Tup Z82.ps):Z82.f 0 x=none:=by kernel_rfl
theorem ZPX(k:Nat):LOK Tryz.prog ZkH k Zq7:=LOK.by [] (by kernel_rfl) AllOK.nil
theorem ZQ7(k:Nat):SoundAt Tryz.prog k 80 Z82.E:= @Z5 Tryz.prog Z82 ZkH 80 Tryz.f80 Zq7 (by kernel_rfl) (by kernel_rfl) (by kernel_rfl) Tryz.func80 (by kernel_rfl) (by kernel_rfl) (by kernel_rfl) T_ok ZQM ZPX ZR9 ZQN k
noncomputable def ZdH:List PK:=[PK.mk .bool false none false none]
noncomputable def ZuX:List PK:=[PK.mk I6 false none false none]
noncomputable def ZsW(r:Bool):Tup ZdH×OutD:=((r,()),none)
noncomputable def Ztm:Tup ZdH×OutD→Option (Bool)
 |(a,none)=>some (a.1)
 |_=>none
theorem ZDx: ∀b r,Ztm b=some r→ZsW r=b:=by
 rintro ⟨a,_|_⟩ r h<;>cases h;rfl
noncomputable def Zhz:Nat→Int→Option Bool
 |0,_=>none
 |k+1,p0=>
  Option.bind (Z1f k p0 (0:Int) (4:Int)) fun z0=>some z0
noncomputable def Z5K:FnDef:= .of ZuX ZdH (Bool) (fun k x=>Zhz k x.1) ZsW Ztm ZDx
noncomputable def ZmI:Code:=Tryz.f101.body.getD .skip
noncomputable def Zhp:Ctx (Tup ZdH×OutD):={T:=T,G:=[(76,Z2i.E)],mvs:=[],no:=0,n:=5,res:=resOf T ZuX ZdH Tryz.f101.results.toList,loops:=[],regs:=[],conds:=[],cuts:=[]}
theorem ZM2(k:Nat):EnvOK Tryz.prog k Zhp.G:=(EnvOK.cons (Z9H k) (EnvOK.nil mixed))
theorem ZN6(k:Nat)(x:Tup Z5K.ps):Z5K.f (k+1) x=fnK Z5K Zhp ZmI k x:=by kernel_rfl
theorem ZM8(x:Tup Z5K.ps):Z5K.f 0 x=none:=by kernel_rfl
theorem ZN9(k:Nat):LOK Tryz.prog Zhp k ZmI:=LOK.by [] (by kernel_rfl) AllOK.nil
theorem ZLN(k:Nat):SoundAt Tryz.prog k 101 Z5K.E:= @Z5 Tryz.prog Z5K Zhp 101 Tryz.f101 ZmI (by kernel_rfl) (by kernel_rfl) (by kernel_rfl) Tryz.func101 (by kernel_rfl) (by kernel_rfl) (by kernel_rfl) T_ok ZM2 ZN9 ZM8 ZN6 k
noncomputable def ZgD:List PK:=[PK.mk .bool false none false none]
noncomputable def ZC9:List PK:=[PK.mk P6 true none false none,PK.mk I6 false none false none]
noncomputable def Zxy(r:Bool):Tup ZgD×OutD:=((r,()),none)
noncomputable def ZyK:Tup ZgD×OutD→Option (Bool)
 |(a,none)=>some (a.1)
 |_=>none
theorem ZIa: ∀b r,ZyK b=some r→Zxy r=b:=by
 rintro ⟨a,_|_⟩ r h<;>cases h;rfl
noncomputable def Zgx:Nat→Int×Int→Int→Option Bool
 |0,_,_=>none
 |k+1,p0,p1=>
  if decide (p1=1)=true then Option.bind (Z6j k (p0.1,p0.2)) fun z0=>some z0 else if decide (p1=2)=true then some true else if decide (p1=3)=true then Option.bind (Z6j k (p0.1,p0.2)) fun z1=>if z1=true then some true else if decide (p0.1=1)=true then some true else some (decide (p0.1=2)) else some false
noncomputable def Z6g:FnDef:= .of ZC9 ZgD (Bool) (fun k x=>Zgx k x.1 x.2.1) Zxy ZyK ZIa
noncomputable def Zq1:Code:=Tryz.f111.body.getD .skip
noncomputable def ZkG:Ctx (Tup ZgD×OutD):={T:=T,G:=[(105,Z2E.E)],mvs:=[],no:=0,n:=26,res:=resOf T ZC9 ZgD Tryz.f111.results.toList,loops:=[],regs:=[],conds:=[],cuts:=[]}
theorem ZQY(k:Nat):EnvOK Tryz.prog k ZkG.G:=(EnvOK.cons (Zli k) (EnvOK.nil mixed))
theorem ZQP(k:Nat)(x:Tup Z6g.ps):Z6g.f (k+1) x=fnK Z6g ZkG Zq1 k x:=by kernel_rfl
theorem ZPD(x:Tup Z6g.ps):Z6g.f 0 x=none:=by kernel_rfl
theorem ZQz(k:Nat):LOK Tryz.prog ZkG k Zq1:=LOK.by [] (by kernel_rfl) AllOK.nil
theorem ZBX(k:Nat):SoundAt Tryz.prog k 111 Z6g.E:= @Z5 Tryz.prog Z6g ZkG 111 Tryz.f111 Zq1 (by kernel_rfl) (by kernel_rfl) (by kernel_rfl) Tryz.func111 (by kernel_rfl) (by kernel_rfl) (by kernel_rfl) T_ok ZQY ZQz ZPD ZQP k
noncomputable def Zco:List PK:=[PK.mk .bool false none false none]
noncomputable def Zs0:List PK:=[PK.mk P6 true none false none]
noncomputable def ZqR(r:Bool):Tup Zco×OutD:=((r,()),none)
noncomputable def Zqx:Tup Zco×OutD→Option (Bool)
 |(a,none)=>some (a.1)
 |_=>none
theorem ZAx: ∀b r,Zqx b=some r→ZqR r=b:=by
 rintro ⟨a,_|_⟩ r h<;>cases h;rfl
noncomputable def Z3I:Nat→Int×Int→Option Bool
 |0,_=>none
 |k+1,p0=>
  Option.bind (ZaW k (p0.1,p0.2)) fun z0=>if z0=true then if decide (p0.1=3)=true then some true else some (decide (p0.1=6)) else some false
noncomputable def Z3J:FnDef:= .of Zs0 Zco (Bool) (fun k x=>Z3I k x.1) ZqR Zqx ZAx
noncomputable def Zl2:Code:=Tryz.f114.body.getD .skip
noncomputable def ZfB:Ctx (Tup Zco×OutD):={T:=T,G:=[(74,Z3N.E)],mvs:=[],no:=0,n:=15,res:=resOf T Zs0 Zco Tryz.f114.results.toList,loops:=[],regs:=[],conds:=[],cuts:=[]}
theorem ZJK(k:Nat):EnvOK Tryz.prog k ZfB.G:=(EnvOK.cons (ZkI k) (EnvOK.nil mixed))
theorem ZJo(k:Nat)(x:Tup Z3J.ps):Z3J.f (k+1) x=fnK Z3J ZfB Zl2 k x:=by kernel_rfl
theorem ZKQ(x:Tup Z3J.ps):Z3J.f 0 x=none:=by kernel_rfl
theorem ZKv(k:Nat):LOK Tryz.prog ZfB k Zl2:=LOK.by [] (by kernel_rfl) AllOK.nil
theorem ZsQ(k:Nat):SoundAt Tryz.prog k 114 Z3J.E:= @Z5 Tryz.prog Z3J ZfB 114 Tryz.f114 Zl2 (by kernel_rfl) (by kernel_rfl) (by kernel_rfl) Tryz.func114 (by kernel_rfl) (by kernel_rfl) (by kernel_rfl) T_ok ZJK ZKv ZKQ ZJo k
noncomputable def Zb8:List PK:=[PK.mk I6 false none false none]
noncomputable def ZqD:List PK:=[PK.mk (.pair (.slice 5 (.int .u8)) (.pair I6 (.int .u64))) false none false (some 105),PK.mk I6 false none false none]
noncomputable def Zpa(r:Int×Int×Int):Tup Zb8×OutD:=((r.1,()),some ⟨Ty.pair (Ty.slice (5:Nat) (Ty.int .u8)) (Ty.pair (Ty.int .i64) (Ty.int .u64)),[([],r.2)]⟩)
noncomputable def ZhV:Tup Zb8×OutD→Option (Int×Int×Int)
 |(a,some ⟨u,ys⟩)=>if h:u=Ty.pair (Ty.slice (5:Nat) (Ty.int .u8)) (Ty.pair (Ty.int .i64) (Ty.int .u64)) then (match castU h ys with
  |[([],y)]=>some (a.1,y)
  |_=>none) else none
 |_=>none
theorem Zyp: ∀b r,ZhV b=some r→Zpa r=b:=by
 rintro ⟨a,o⟩ r h
 cases o with
 |none=>cases h
 |some s=>
  obtain ⟨u,ys⟩:=s
  simp only[ZhV]at h
  split at h
  ·rename_i hu
   subst hu
   match ys,h with
   |[],h=>cases (show (none:Option _)=some r from h)
   |[([],y)],h=>injection (show some _=some r from h) with h;subst h;rfl
   |[(_::_,y)],h=>cases (show (none:Option _)=some r from h)
   |(h1,_)::_::_,h=>cases h1<;>cases (show (none:Option _)=some r from h)
  ·cases h
noncomputable def Z1:Nat→List Int×Int×Int→Int→Option (Int×Int×Int)
 |0,_,_=>none
 |k+1,p0,p1=>
  if decide (p1≤1)=true then some ((0:Int),p0.2.1,p0.2.2) else Option.bind (Z7I k (p0.1,p0.2.1,p0.2.2)) fun z0=>if decide (p1>200)=true then Option.bind (Z7I k (p0.1,z0.2.1,z0.2.2)) fun z1=>if p1=0 then none else some (Int.tmod (wrap64 (wrap64 (z0.1*(256:Int))+z1.1)) p1,z1.2.1,z1.2.2) else if p1=0 then none else some (Int.tmod z0.1 p1,z0.2.1,z0.2.2)
noncomputable def Zq:FnDef:= .of ZqD Zb8 (Int×Int×Int) (fun k x=>Z1 k x.1 x.2.1) Zpa ZhV Zyp
noncomputable def ZjB:Code:=Tryz.f116.body.getD .skip
noncomputable def Zex:Ctx (Tup Zb8×OutD):={T:=T,G:=[(128,Z4c.E)],mvs:=[],no:=2,n:=20,res:=resOf T ZqD Zb8 Tryz.f116.results.toList,loops:=[],regs:=[],conds:=[],cuts:=[]}
theorem ZHQ(k:Nat):EnvOK Tryz.prog k Zex.G:=(EnvOK.cons (ZHv k) (EnvOK.nil mixed))
theorem ZIt(k:Nat)(x:Tup Zq.ps):Zq.f (k+1) x=fnK Zq Zex ZjB k x:=by kernel_rfl
theorem ZHl(x:Tup Zq.ps):Zq.f 0 x=none:=by kernel_rfl
theorem ZI5(k:Nat):LOK Tryz.prog Zex k ZjB:=LOK.by [] (by kernel_rfl) AllOK.nil
theorem Z1I(k:Nat):SoundAt Tryz.prog k 116 Zq.E:= @Z5 Tryz.prog Zq Zex 116 Tryz.f116 ZjB (by kernel_rfl) (by kernel_rfl) (by kernel_rfl) Tryz.func116 (by kernel_rfl) (by kernel_rfl) (by kernel_rfl) T_ok ZHQ ZI5 ZHl ZIt k
noncomputable def ZeW:List PK:=[PK.mk (.slice 76 P6) false none false none]
noncomputable def ZF8:List PK:=[]
noncomputable def ZB2(r:List (Int×Int)):Tup ZeW×OutD:=((r,()),none)
noncomputable def ZBY:Tup ZeW×OutD→Option (List (Int×Int))
 |(a,none)=>some (a.1)
 |_=>none
theorem ZL4: ∀b r,ZBY b=some r→ZB2 r=b:=by
 rintro ⟨a,_|_⟩ r h<;>cases h;rfl
noncomputable def Z2u:Nat→List (Int×Int)→Int→Option (List (Int×Int))
 |0,_,_=>none
 |k+1,o1,v2=>
  if decide (v2≤7)=true then if List.length o1+List.length [(v2,(0:Int))]≤(140737488355328/16:Nat) then Option.bind (Z6j k (v2,(1:Int))) fun z0=>if z0=true then if List.length (o1++[(v2,(0:Int))])+List.length [(v2,(1:Int))]≤(140737488355328/16:Nat) then Z2u k (o1++[(v2,(0:Int))]++[(v2,(1:Int))]) (wrap64 (v2+1)) else none else Z2u k (o1++[(v2,(0:Int))]) (wrap64 (v2+1)) else none else some o1
noncomputable def ZlR:Spec:=Spec.mk [.ro,O0] [(1,.at (.sl 1)),(2,.at (.int .i64))]
noncomputable def ZMS:Spec:=Spec.mk [.ro,O0] [(1,.at (.sl 1))]
noncomputable def ZaJ:LoopDef (Tup ZeW×OutD):= .plain ZlR ZMS (List (Int×Int)) (fun k x=>Z2u k x.1.2.1 x.2.2.1) (fun z=>(((),z,()),((),()))) (fun y=>(y.1.2.1)) (fun _=>rfl)
noncomputable def Zcb:Nat→Option (List (Int×Int))
 |0=>none
 |k+1=>
  Option.bind (Z2u k [] (0:Int)) fun z1=>some z1
noncomputable def Z7g:FnDef:= .of ZF8 ZeW (List (Int×Int)) (fun k x=>Zcb k) ZB2 ZBY ZL4
noncomputable def ZmT:Code:=Tryz.f120.body.getD .skip
noncomputable def Zcp:Ctx (Tup ZeW×OutD):={T:=T,G:=[(105,Z2E.E)],mvs:=[],no:=0,n:=22,res:=resOf T ZF8 ZeW Tryz.f120.results.toList,loops:=[(0,ZaJ.E)],regs:=[],conds:=[],cuts:=[]}
theorem ZG9(k:Nat):EnvOK Tryz.prog k Zcp.G:=(EnvOK.cons (Zli k) (EnvOK.nil mixed))
noncomputable def Zhs:Code:=(findLoop 0 ZmT).getD .skip
theorem ZLJ(k:Nat)(x:ZlR.D):ZaJ.lp (k+1) x=loopK Zcp ZaJ 0 Zhs k x:=by kernel_rfl
theorem ZN0(k:Nat):LOK Tryz.prog Zcp k Zhs:=LOK.by [] (by kernel_rfl) AllOK.nil
theorem ZMk(x:ZlR.D):ZaJ.lp 0 x=none:=by kernel_rfl
theorem ZLt(k:Nat):EOK Tryz.prog Zcp k ZaJ.E (.block 0 (.loop Zhs)):=Zd T_ok ZG9 ZMk ZLJ ZN0 k
theorem ZRA(k:Nat)(x:Tup Z7g.ps):Z7g.f (k+1) x=fnK Z7g Zcp ZmT k x:=by kernel_rfl
theorem ZRx(x:Tup Z7g.ps):Z7g.f 0 x=none:=by kernel_rfl
theorem ZSr(k:Nat):LOK Tryz.prog Zcp k ZmT:=LOK.by [(ZaJ.E,.block 0 (.loop Zhs))] (by kernel_rfl) (AllOK.cons (ZLt k) AllOK.nil)
theorem ZFG(k:Nat):SoundAt Tryz.prog k 120 Z7g.E:= @Z5 Tryz.prog Z7g Zcp 120 Tryz.f120 ZmT (by kernel_rfl) (by kernel_rfl) (by kernel_rfl) Tryz.func120 (by kernel_rfl) (by kernel_rfl) (by kernel_rfl) T_ok ZG9 ZSr ZRx ZRA k
noncomputable def Z4m:List PK:=[PK.mk (.slice 3 I6) false none false none]
noncomputable def ZuI:List PK:=[PK.mk (.pair I6 (.pair I6 (.slice 76 P6))) true none false none]
noncomputable def ZsR(r:List Int):Tup Z4m×OutD:=((r,()),none)
noncomputable def ZsJ:Tup Z4m×OutD→Option (List Int)
 |(a,none)=>some (a.1)
 |_=>none
theorem ZDg: ∀b r,ZsJ b=some r→ZsR r=b:=by
 rintro ⟨a,_|_⟩ r h<;>cases h;rfl
noncomputable def Z7O:Nat→Int→Int→List (Int×Int)→List Int→Int→Int→Option (Int×Int×List (Int×Int)×List Int)
 |0,_,_,_,_,_,_=>none
 |k+1,b1_0,b1_1,b1_2,o2,v17,v18=>
  if decide (v18<v17)=true then if (0:Int)≤v18 then if v18<(↑(List.length o2):Int) then Z7O k b1_0 b1_1 b1_2 (List.set o2 (Int.toNat v18) (-1:Int)) v17 (wrap64 (v18+1)) else none else none else some (b1_0,b1_1,b1_2,o2)
noncomputable def Zip:Spec:=Spec.mk [.ro,O2,O1] [(1,.at (.ptr 1 0)),(3,.at (.sl 2)),(17,.at (.int .i64)),(18,.at (.int .i64))]
noncomputable def ZF6:Spec:=Spec.mk [.ro,O2,O1] [(1,.at (.ptr 1 0)),(3,.at (.sl 2))]
noncomputable def Z6O:LoopDef (Tup Z4m×OutD):= .plain Zip ZF6 (Int×Int×List (Int×Int)×List Int) (fun k x=>Z7O k x.1.2.1.1 x.1.2.1.2.1 x.1.2.1.2.2.1 x.1.2.2.1 x.2.2.2.1 x.2.2.2.2.1) (fun z=>(((),(z.1,z.2.1,z.2.2.1,()),z.2.2.2,()),((),(),()))) (fun y=>(y.1.2.1.1,y.1.2.1.2.1,y.1.2.1.2.2.1,y.1.2.2.1)) (fun _=>rfl)
noncomputable def Z48:Nat→Int→Int→List (Int×Int)→List Int→List Int→List Int→Int→Int→List (Int×Int)→Int→Int→Int→Int→Option (Int×Int×List (Int×Int)×List Int×List Int×Int×Int×List (Int×Int)×Int×Int)
 |0,_,_,_,_,_,_,_,_,_,_,_,_,_=>none
 |k+1,b1_0,b1_1,b1_2,o2,o3,o4,v5,v9,v26,v27,v28,v61,v62=>
  if decide (v62<v61)=true then if (0:Int)≤v62 then if v62<(↑(List.length o4):Int) then if (0:Int)≤List.getD o4 (Int.toNat v62) (0:Int) then if List.getD o4 (Int.toNat v62) (0:Int)<(↑(List.length b1_2):Int) then Option.bind (ZgN k (Prod.fst (List.getD b1_2 (Int.toNat (List.getD o4 (Int.toNat v62) (0:Int))) ((0:Int),(0:Int))),Prod.snd (List.getD b1_2 (Int.toNat (List.getD o4 (Int.toNat v62) (0:Int))) ((0:Int),(0:Int))))) fun z3=>if z3=true then if (0:Int)≤List.getD o4 (Int.toNat v62) (0:Int) then if List.getD o4 (Int.toNat v62) (0:Int)<(↑(List.length o2):Int) then if decide (List.getD o2 (Int.toNat (List.getD o4 (Int.toNat v62) (0:Int))) (0:Int)<0)=true then if (0:Int)≤List.getD o4 (Int.toNat v62) (0:Int) then if List.getD o4 (Int.toNat v62) (0:Int)<(↑(List.length o2):Int) then if List.length o3+List.length [List.getD o4 (Int.toNat v62) (0:Int)]≤(140737488355328/8:Nat) then Z48 k b1_0 b1_1 b1_2 (List.set o2 (Int.toNat (List.getD o4 (Int.toNat v62) (0:Int))) v5) (o3++[List.getD o4 (Int.toNat v62) (0:Int)]) o4 v5 v9 v26 v27 v28 v61 (wrap64 (v62+1)) else none else none else none else Z48 k b1_0 b1_1 b1_2 o2 o3 o4 v5 v9 v26 v27 v28 v61 (wrap64 (v62+1)) else none else none else Z48 k b1_0 b1_1 b1_2 o2 o3 o4 v5 v9 v26 v27 v28 v61 (wrap64 (v62+1)) else none else none else none else none else some (b1_0,b1_1,b1_2,o2,o3,v5,v9,v26,v27,v28)
noncomputable def Zil:Spec:=Spec.mk [.ro,O2,O1,O1,O1] [(1,.at (.ptr 1 0)),(3,.at (.sl 2)),(5,.at (.int .i64)),(8,.at (.sl 3)),(9,.at (.int .i64)),(26,.at (.snap 0 P6)),(27,.at (.int .i64)),(28,.at (.int .i64)),(60,.at (.sl 4)),(61,.at (.int .i64)),(62,.at (.int .i64))]
noncomputable def ZGj:Spec:=Spec.mk [.ro,O2,O1,O1] [(1,.at (.ptr 1 0)),(3,.at (.sl 2)),(5,.at (.int .i64)),(8,.at (.sl 3)),(9,.at (.int .i64)),(26,.at (.snap 0 P6)),(27,.at (.int .i64)),(28,.at (.int .i64))]
noncomputable def Z6x:LoopDef (Tup Z4m×OutD):= .plain Zil ZGj (Int×Int×List (Int×Int)×List Int×List Int×Int×Int×List (Int×Int)×Int×Int) (fun k x=>Z48 k x.1.2.1.1 x.1.2.1.2.1 x.1.2.1.2.2.1 x.1.2.2.1 x.1.2.2.2.1 x.1.2.2.2.2.1 x.2.2.2.1 x.2.2.2.2.2.1 x.2.2.2.2.2.2.1 x.2.2.2.2.2.2.2.1 x.2.2.2.2.2.2.2.2.1 x.2.2.2.2.2.2.2.2.2.2.1 x.2.2.2.2.2.2.2.2.2.2.2.1) (fun z=>(((),(z.1,z.2.1,z.2.2.1,()),z.2.2.2.1,z.2.2.2.2.1,()),((),(),z.2.2.2.2.2.1,(),z.2.2.2.2.2.2.1,z.2.2.2.2.2.2.2.1,z.2.2.2.2.2.2.2.2.1,z.2.2.2.2.2.2.2.2.2,()))) (fun y=>(y.1.2.1.1,y.1.2.1.2.1,y.1.2.1.2.2.1,y.1.2.2.1,y.1.2.2.2.1,y.2.2.2.1,y.2.2.2.2.2.1,y.2.2.2.2.2.2.1,y.2.2.2.2.2.2.2.1,y.2.2.2.2.2.2.2.2.1)) (fun _=>rfl)
noncomputable def Z5z:Nat→Int→Int→List (Int×Int)→List Int→List Int→Int→Int→List (Int×Int)→Int→Int→Option (Int×Int×List (Int×Int)×List Int×Int×List (Int×Int)×Int×Int)
 |0,_,_,_,_,_,_,_,_,_,_=>none
 |k+1,b1_0,b1_1,b1_2,o2,o3,v5,v9,v26,v27,v28=>
  if decide (v9<(↑(List.length o3):Int))=true then if (0:Int)≤v9 then if v9<(↑(List.length o3):Int) then Option.bind (Zkp k (b1_0,b1_1,b1_2) (List.getD o3 (Int.toNat v9) (0:Int))) fun z2=>Option.bind (Z48 k b1_0 b1_1 b1_2 o2 o3 z2 v5 v9 v26 v27 v28 (↑(List.length z2):Int) (0:Int)) fun z4=>Z5z k z4.1 z4.2.1 z4.2.2.1 z4.2.2.2.1 z4.2.2.2.2.1 z4.2.2.2.2.2.1 (wrap64 (z4.2.2.2.2.2.2.1+1)) z4.2.2.2.2.2.2.2.1 z4.2.2.2.2.2.2.2.2.1 z4.2.2.2.2.2.2.2.2.2 else none else none else some (b1_0,b1_1,b1_2,o2,v5,v26,v27,v28)
noncomputable def Zif:Spec:=Spec.mk [.ro,O2,O1,O1] [(1,.at (.ptr 1 0)),(3,.at (.sl 2)),(5,.at (.int .i64)),(8,.at (.sl 3)),(9,.at (.int .i64)),(26,.at (.snap 0 P6)),(27,.at (.int .i64)),(28,.at (.int .i64))]
noncomputable def ZGa:Spec:=Spec.mk [.ro,O2,O1] [(1,.at (.ptr 1 0)),(3,.at (.sl 2)),(5,.at (.int .i64)),(26,.at (.snap 0 P6)),(27,.at (.int .i64)),(28,.at (.int .i64))]
noncomputable def Z6H:LoopDef (Tup Z4m×OutD):= .plain Zif ZGa (Int×Int×List (Int×Int)×List Int×Int×List (Int×Int)×Int×Int) (fun k x=>Z5z k x.1.2.1.1 x.1.2.1.2.1 x.1.2.1.2.2.1 x.1.2.2.1 x.1.2.2.2.1 x.2.2.2.1 x.2.2.2.2.2.1 x.2.2.2.2.2.2.1 x.2.2.2.2.2.2.2.1 x.2.2.2.2.2.2.2.2.1) (fun z=>(((),(z.1,z.2.1,z.2.2.1,()),z.2.2.2.1,()),((),(),z.2.2.2.2.1,z.2.2.2.2.2.1,z.2.2.2.2.2.2.1,z.2.2.2.2.2.2.2,()))) (fun y=>(y.1.2.1.1,y.1.2.1.2.1,y.1.2.1.2.2.1,y.1.2.2.1,y.2.2.2.1,y.2.2.2.2.1,y.2.2.2.2.2.1,y.2.2.2.2.2.2.1)) (fun _=>rfl)
noncomputable def Z37:Nat→Int→Int→List (Int×Int)→List Int→Int→List (Int×Int)→Int→Int→Option (List Int)
 |0,_,_,_,_,_,_,_,_=>none
 |k+1,b1_0,b1_1,b1_2,o2,v5,v26,v27,v28=>
  if decide (v28<v27)=true then if (0:Int)≤v28 then if v28<(↑(List.length v26):Int) then Option.bind (ZgN k (Prod.fst (List.getD v26 (Int.toNat v28) ((0:Int),(0:Int))),Prod.snd (List.getD v26 (Int.toNat v28) ((0:Int),(0:Int))))) fun z1=>if (!z1)=true then Z37 k b1_0 b1_1 b1_2 o2 v5 v26 v27 (wrap64 (v28+1)) else if (0:Int)≤v28 then if v28<(↑(List.length o2):Int) then if decide (List.getD o2 (Int.toNat v28) (0:Int)≥0)=true then Z37 k b1_0 b1_1 b1_2 o2 v5 v26 v27 (wrap64 (v28+1)) else if (0:Int)≤v28 then if v28<(↑(List.length o2):Int) then Option.bind (Z5z k b1_0 b1_1 b1_2 (List.set o2 (Int.toNat v28) v5) [v28] v5 (0:Int) v26 v27 v28) fun z5=>Z37 k z5.1 z5.2.1 z5.2.2.1 z5.2.2.2.1 (wrap64 (z5.2.2.2.2.1+1)) z5.2.2.2.2.2.1 z5.2.2.2.2.2.2.1 (wrap64 (z5.2.2.2.2.2.2.2+1)) else none else none else none else none else none else none else some o2
noncomputable def ZhN:Spec:=Spec.mk [.ro,O2,O1] [(1,.at (.ptr 1 0)),(3,.at (.sl 2)),(5,.at (.int .i64)),(26,.at (.snap 0 P6)),(27,.at (.int .i64)),(28,.at (.int .i64))]
noncomputable def ZE9:Spec:=Spec.mk [.ro,O1] [(3,.at (.sl 1))]
noncomputable def Z6B:LoopDef (Tup Z4m×OutD):= .plain ZhN ZE9 (List Int) (fun k x=>Z37 k x.1.2.1.1 x.1.2.1.2.1 x.1.2.1.2.2.1 x.1.2.2.1 x.2.2.2.1 x.2.2.2.2.1 x.2.2.2.2.2.1 x.2.2.2.2.2.2.1) (fun z=>(((),z,()),((),()))) (fun y=>(y.1.2.1)) (fun _=>rfl)
noncomputable def Z1C:Nat→Int×Int×List (Int×Int)→Option (List Int)
 |0,_=>none
 |k+1,p0=>
  if Int.toNat (↑(List.length p0.2.2):Int)*(8:Nat)≤(281474976710656:Nat) then Option.bind (Z7O k p0.1 p0.2.1 p0.2.2 (List.replicate (Int.toNat (↑(List.length p0.2.2):Int)) (0:Int)) (↑(List.length (List.replicate (Int.toNat (↑(List.length p0.2.2):Int)) (0:Int))):Int) (0:Int)) fun z0=>Option.bind (Z37 k z0.1 z0.2.1 z0.2.2.1 z0.2.2.2 (0:Int) z0.2.2.1 (↑(List.length z0.2.2.1):Int) (0:Int)) fun z6=>some z6 else none
noncomputable def Z4l:FnDef:= .of ZuI Z4m (List Int) (fun k x=>Z1C k x.1) ZsR ZsJ ZDg
noncomputable def Z7p:Code:=Tryz.f125.body.getD .skip
noncomputable def ZL:Ctx (Tup Z4m×OutD):={T:=T,G:=[(136,Z81.E),(137,Z7W.E)],mvs:=[],no:=0,n:=92,res:=resOf T ZuI Z4m Tryz.f125.results.toList,loops:=[(0,Z6O.E),(6,Z6x.E),(4,Z6H.E),(2,Z6B.E)],regs:=[],conds:=[],cuts:=[]}
theorem ZdW(k:Nat):EnvOK Tryz.prog k ZL.G:=(EnvOK.cons (ZQy k) (EnvOK.cons (ZQL k) (EnvOK.nil mixed)))
noncomputable def ZdE:Code:=(findLoop 0 Z7p).getD .skip
theorem ZF7(k:Nat)(x:Zip.D):Z6O.lp (k+1) x=loopK ZL Z6O 0 ZdE k x:=by kernel_rfl
theorem ZGl(k:Nat):LOK Tryz.prog ZL k ZdE:=LOK.by [] (by kernel_rfl) AllOK.nil
theorem ZFP(x:Zip.D):Z6O.lp 0 x=none:=by kernel_rfl
theorem ZDM(k:Nat):EOK Tryz.prog ZL k Z6O.E (.block 0 (.loop ZdE)):=Zd T_ok ZdW ZFP ZF7 ZGl k
noncomputable def Zdz:Code:=(findLoop 6 Z7p).getD .skip
theorem ZFH(k:Nat)(x:Zil.D):Z6x.lp (k+1) x=loopK ZL Z6x 6 Zdz k x:=by kernel_rfl
theorem ZFT(k:Nat):LOK Tryz.prog ZL k Zdz:=LOK.by [] (by kernel_rfl) AllOK.nil
theorem ZGf(x:Zil.D):Z6x.lp 0 x=none:=by kernel_rfl
theorem ZDp(k:Nat):EOK Tryz.prog ZL k Z6x.E (.block 6 (.loop Zdz)):=Zd T_ok ZdW ZGf ZFH ZFT k
noncomputable def ZdV:Code:=(findLoop 4 Z7p).getD .skip
theorem ZFi(k:Nat)(x:Zif.D):Z6H.lp (k+1) x=loopK ZL Z6H 4 ZdV k x:=by kernel_rfl
theorem ZEH(k:Nat):LOK Tryz.prog ZL k ZdV:=LOK.by [(Z6x.E,.block 6 (.loop Zdz))] (by kernel_rfl) (AllOK.cons (ZDp k) AllOK.nil)
theorem ZGn(x:Zif.D):Z6H.lp 0 x=none:=by kernel_rfl
theorem ZCo(k:Nat):EOK Tryz.prog ZL k Z6H.E (.block 4 (.loop ZdV)):=Zd T_ok ZdW ZGn ZFi ZEH k
noncomputable def Zdu:Code:=(findLoop 2 Z7p).getD .skip
theorem ZGb(k:Nat)(x:ZhN.D):Z6B.lp (k+1) x=loopK ZL Z6B 2 Zdu k x:=by kernel_rfl
theorem ZE7(k:Nat):LOK Tryz.prog ZL k Zdu:=LOK.by [(Z6H.E,.block 4 (.loop ZdV))] (by kernel_rfl) (AllOK.cons (ZCo k) AllOK.nil)
theorem ZFq(x:ZhN.D):Z6B.lp 0 x=none:=by kernel_rfl
theorem ZDU(k:Nat):EOK Tryz.prog ZL k Z6B.E (.block 2 (.loop Zdu)):=Zd T_ok ZdW ZFq ZGb ZE7 k
theorem ZLI(k:Nat)(x:Tup Z4l.ps):Z4l.f (k+1) x=fnK Z4l ZL Z7p k x:=by kernel_rfl
theorem ZLZ(x:Tup Z4l.ps):Z4l.f 0 x=none:=by kernel_rfl
theorem ZM1(k:Nat):LOK Tryz.prog ZL k Z7p:=LOK.by [(Z6O.E,.block 0 (.loop ZdE)),(Z6B.E,.block 2 (.loop Zdu))] (by kernel_rfl) (AllOK.cons (ZDM k) (AllOK.cons (ZDU k) AllOK.nil))
theorem Zv3(k:Nat):SoundAt Tryz.prog k 125 Z4l.E:= @Z5 Tryz.prog Z4l ZL 125 Tryz.f125 Z7p (by kernel_rfl) (by kernel_rfl) (by kernel_rfl) Tryz.func125 (by kernel_rfl) (by kernel_rfl) (by kernel_rfl) T_ok ZdW ZM1 ZLZ ZLI k
noncomputable def Zde:List PK:=[]
noncomputable def ZBz:List PK:=[PK.mk (.pair I6 (.pair I6 (.slice 76 P6))) true (some (2,76,.pair I6 I6)) false none,PK.mk (.slice 3 I6) false none false none,PK.mk I6 false none false none]
noncomputable def ZxI(r:List (Int×Int)):Tup Zde×OutD:=((()),some ⟨Ty.pair (Ty.int .i64) (Ty.int .i64),r⟩)
noncomputable def Zoa:Tup Zde×OutD→Option (List (Int×Int))
 |(a,some ⟨u,ys⟩)=>if h:u=Ty.pair (Ty.int .i64) (Ty.int .i64) then some (castU h ys) else none
 |_=>none
theorem ZHK: ∀b r,Zoa b=some r→ZxI r=b:=by
 rintro ⟨a,o⟩ r h
 cases o with
 |none=>cases h
 |some s=>
  obtain ⟨u,ys⟩:=s
  simp only[Zoa]at h
  split at h
  ·rename_i hu;subst hu;injection h with h;subst h;rfl
  ·cases h
noncomputable def Z4p:Nat→List (Int×Int)→Int→Int→List Int→Int→Int→Int→Option (List (Int×Int))
 |0,_,_,_,_,_,_,_=>none
 |k+1,o1,b2_0,b2_1,v1,v2,v28,v29=>
  if decide (v29<v28)=true then if (0:Int)≤v29 then if v29<(↑(List.length o1):Int) then if decide (Prod.fst (List.getD o1 (Int.toNat v29) ((0:Int),(0:Int)))=6)=true then if (0:Int)≤v29 then if v29<(↑(List.length v1):Int) then if (0:Int)≤v2 then if v2<(↑(List.length v1):Int) then if decide (List.getD v1 (Int.toNat v29) (0:Int)=List.getD v1 (Int.toNat v2) (0:Int))=true then Option.bind (ZgB k (Prod.fst (List.getD o1 (Int.toNat v29) ((0:Int),(0:Int))),Prod.snd (List.getD o1 (Int.toNat v29) ((0:Int),(0:Int))))) fun z1=>if (0:Int)≤v29 then if v29<(↑(List.length o1):Int) then Z4p k (List.set o1 (Int.toNat v29) (z1.1,z1.2)) b2_0 b2_1 v1 v2 v28 (wrap64 (v29+1)) else none else none else Z4p k o1 b2_0 b2_1 v1 v2 v28 (wrap64 (v29+1)) else none else none else none else none else Z4p k o1 b2_0 b2_1 v1 v2 v28 (wrap64 (v29+1)) else none else none else some o1
noncomputable def ZkJ:Spec:=Spec.mk [.ro,Oi,Of] [(1,.at (.snap 0 I6)),(2,.at (.int .i64)),(3,.at (.ptr 2 0)),(27,.at (.sl 1)),(28,.at (.int .i64)),(29,.at (.int .i64))]
noncomputable def ZKf:Spec:=Spec.mk [.ro,Oi] []
noncomputable def Z9k:LoopDef (Tup Zde×OutD):= .plain ZkJ ZKf (List (Int×Int)) (fun k x=>Z4p k x.1.2.1 x.1.2.2.1.1 x.1.2.2.1.2.1 x.2.1 x.2.2.1 x.2.2.2.2.2.1 x.2.2.2.2.2.2.1) (fun z=>(((),z,()),(()))) (fun y=>(y.1.2.1)) (fun _=>rfl)
noncomputable def Zdi:Nat→Int×Int×List (Int×Int)→List Int→Int→Option (List (Int×Int))
 |0,_,_,_=>none
 |k+1,p0,p1,p2=>
  if (0:Int)≤p2 then if p2<(↑(List.length p0.2.2):Int) then if decide (Prod.fst (List.getD p0.2.2 (Int.toNat p2) ((0:Int),(0:Int)))=3)=true then Option.bind (ZgB k (Prod.fst (List.getD p0.2.2 (Int.toNat p2) ((0:Int),(0:Int))),Prod.snd (List.getD p0.2.2 (Int.toNat p2) ((0:Int),(0:Int))))) fun z0=>if (0:Int)≤p2 then if p2<(↑(List.length p0.2.2):Int) then some (List.set p0.2.2 (Int.toNat p2) (z0.1,z0.2)) else none else none else if decide (Prod.fst (List.getD p0.2.2 (Int.toNat p2) ((0:Int),(0:Int)))=6)=true then Option.bind (Z4p k p0.2.2 p0.1 p0.2.1 p1 p2 (↑(List.length p0.2.2):Int) (0:Int)) fun z2=>some z2 else some p0.2.2 else none else none
noncomputable def Z68:FnDef:= .of ZBz Zde (List (Int×Int)) (fun k x=>Zdi k x.1 x.2.1 x.2.2.1) ZxI Zoa ZHK
noncomputable def Zke:Code:=Tryz.f135.body.getD .skip
noncomputable def Zb4:Ctx (Tup Zde×OutD):={T:=T,G:=[(139,Z7S.E)],mvs:=[],no:=1,n:=55,res:=resOf T ZBz Zde Tryz.f135.results.toList,loops:=[(1,Z9k.E)],regs:=[],conds:=[],cuts:=[]}
theorem ZBG(k:Nat):EnvOK Tryz.prog k Zb4.G:=(EnvOK.cons (ZQB k) (EnvOK.nil mixed))
noncomputable def Zg1:Code:=(findLoop 1 Zke).getD .skip
theorem ZJN(k:Nat)(x:ZkJ.D):Z9k.lp (k+1) x=loopK Zb4 Z9k 1 Zg1 k x:=by kernel_rfl
theorem ZKP(k:Nat):LOK Tryz.prog Zb4 k Zg1:=LOK.by [] (by kernel_rfl) AllOK.nil
theorem ZJA(x:ZkJ.D):Z9k.lp 0 x=none:=by kernel_rfl
theorem ZGT(k:Nat):EOK Tryz.prog Zb4 k Z9k.E (.block 1 (.loop Zg1)):=Zd T_ok ZBG ZJA ZJN ZKP k
theorem ZQ6(k:Nat)(x:Tup Z68.ps):Z68.f (k+1) x=fnK Z68 Zb4 Zke k x:=by kernel_rfl
theorem ZRc(x:Tup Z68.ps):Z68.f 0 x=none:=by kernel_rfl
theorem ZQ2(k:Nat):LOK Tryz.prog Zb4 k Zke:=LOK.by [(Z9k.E,.block 1 (.loop Zg1))] (by kernel_rfl) (AllOK.cons (ZGT k) AllOK.nil)
theorem ZBp(k:Nat):SoundAt Tryz.prog k 135 Z68.E:= @Z5 Tryz.prog Z68 Zb4 135 Tryz.f135 Zke (by kernel_rfl) (by kernel_rfl) (by kernel_rfl) Tryz.func135 (by kernel_rfl) (by kernel_rfl) (by kernel_rfl) T_ok ZBG ZQ2 ZRc ZQ6 k
end
end Go.Proofs.YtmhfhiofcoggbaaGreat.Vs
