/- The proof, part 10. -/
import Derived.Test.YtmhfhiofcoggbaaGreatqT2m8
set_option maxRecDepth 100000
set_option maxHeartbeats 2000000
set_option linter.unusedVariables false
set_option linter.unusedSimpArgs false
namespace Go.Proofs.YtmhfhiofcoggbaaGreat.Vs
open Go.RowKit
noncomputable section
noncomputable def Z8o:List PK:=[PK.mk .bool false none false none,PK.mk .bool false none false none]
noncomputable def Znl:List PK:=[PK.mk (.pair I6 (.pair I6 (.slice 76 P6))) true none false none,PK.mk (.slice 58 T6) false none false none,PK.mk (.slice 3 I6) false none false none,PK.mk (.slice 40 T6) false none false none]
noncomputable def Zmp(r:Bool×Bool):Tup Z8o×OutD:=((r.1,r.2,()),none)
noncomputable def Zmt:Tup Z8o×OutD→Option (Bool×Bool)
 |(a,none)=>some (a.1,a.2.1)
 |_=>none
theorem Zuw: ∀b r,Zmt b=some r→Zmp r=b:=by
 rintro ⟨a,_|_⟩ r h<;>cases h;rfl
noncomputable def Zcw:Nat→Int×Int×List (Int×Int)→List (Int×Int×Int)→List Int→List (Int×Int×Int)→Option (Bool×Bool)
 |0,_,_,_,_=>none
 |k+1,p0,p1,p2,p3=>
  Option.bind (ZgQ k (p0.1,p0.2.1,p0.2.2) p2 p3) fun z0=>if (!z0)=true then some (false,false) else Option.bind (Zcj k (p0.1,p0.2.1,p0.2.2) p1) fun z1=>if (!z1)=true then some (false,false) else Option.bind (Z8h k (p0.1,p0.2.1,p0.2.2) p1 p2 p3) fun z2=>some (z2,true)
noncomputable def Z30:FnDef:= .of Znl Z8o (Bool×Bool) (fun k x=>Zcw k x.1 x.2.1 x.2.2.1 x.2.2.2.1) Zmp Zmt Zuw
noncomputable def Zh1:Code:=Tryz.f24.body.getD .skip
noncomputable def ZcU:Ctx (Tup Z8o×OutD):={T:=T,G:=[(52,Z6g.E),(56,Z3F.E),(57,Z26.E)],mvs:=[],no:=0,n:=26,res:=resOf T Znl Z8o Tryz.f24.results.toList,loops:=[],regs:=[],conds:=[],cuts:=[]}
theorem ZDv(k:Nat):EnvOK Tryz.prog k ZcU.G:=(EnvOK.cons (ZBf k) (EnvOK.cons (ZrR k) (EnvOK.cons (Znn k) (EnvOK.nil mixed))))
theorem ZD1(k:Nat)(x:Tup Z30.ps):Z30.f (k+1) x=fnK Z30 ZcU Zh1 k x:=by kernel_rfl
theorem ZCD(x:Tup Z30.ps):Z30.f 0 x=none:=by kernel_rfl
theorem ZDI(k:Nat):LOK Tryz.prog ZcU k Zh1:=LOK.by [] (by kernel_rfl) AllOK.nil
theorem ZDH(k:Nat):SoundAt Tryz.prog k 24 Z30.E:= @Z5 Tryz.prog Z30 ZcU 24 Tryz.f24 Zh1 (by kernel_rfl) (by kernel_rfl) (by kernel_rfl) Tryz.func24 (by kernel_rfl) (by kernel_rfl) (by kernel_rfl) T_ok ZDv ZDI ZCD ZD1 k
noncomputable def Z9Z:List PK:=[PK.mk (.slice 40 T6) false none false none,PK.mk (.pair I6 (.pair I6 (.slice 76 P6))) true none false none,PK.mk .bool false none false none]
noncomputable def Zpe:List PK:=[PK.mk (.pair I6 (.pair I6 (.slice 76 P6))) true none false none,PK.mk (.slice 58 T6) false none false none,PK.mk (.slice 3 I6) false none false none]
noncomputable def ZnE(r:List (Int×Int×Int)×(Int×Int×List (Int×Int))×Bool):Tup Z9Z×OutD:=((r.1,r.2.1,r.2.2,()),none)
noncomputable def Znz:Tup Z9Z×OutD→Option (List (Int×Int×Int)×(Int×Int×List (Int×Int))×Bool)
 |(a,none)=>some (a.1,a.2.1,a.2.2.1)
 |_=>none
theorem Zx4: ∀b r,Znz b=some r→ZnE r=b:=by
 rintro ⟨a,_|_⟩ r h<;>cases h;rfl
noncomputable def ZdM:Nat→Int×Int×List (Int×Int)→List (Int×Int×Int)→List Int→Option (List (Int×Int×Int)×(Int×Int×List (Int×Int))×Bool)
 |0,_,_,_=>none
 |k+1,p0,p1,p2=>
  Option.bind (Z8w k (p0.1,p0.2.1,p0.2.2) p2) fun z0=>if (!z0)=true then some ([],((0:Int),(0:Int),[]),false) else Option.bind (Zcj k (p0.1,p0.2.1,p0.2.2) p1) fun z1=>if (!z1)=true then some ([],((0:Int),(0:Int),[]),false) else Option.bind (Z9V k (p0.1,p0.2.1,p0.2.2) p1 p2) fun z2=>some (z2.1,(z2.2.1,z2.2.2.1,z2.2.2.2),true)
noncomputable def Z3x:FnDef:= .of Zpe Z9Z (List (Int×Int×Int)×(Int×Int×List (Int×Int))×Bool) (fun k x=>ZdM k x.1 x.2.1 x.2.2.1) ZnE Znz Zx4
noncomputable def Zi8:Code:=Tryz.f25.body.getD .skip
noncomputable def Zds:Ctx (Tup Z9Z×OutD):={T:=T,G:=[(58,Z25.E),(56,Z3F.E),(59,Z2B.E)],mvs:=[],no:=0,n:=31,res:=resOf T Zpe Z9Z Tryz.f25.results.toList,loops:=[],regs:=[],conds:=[],cuts:=[]}
theorem ZGj(k:Nat):EnvOK Tryz.prog k Zds.G:=(EnvOK.cons (ZnC k) (EnvOK.cons (ZrR k) (EnvOK.cons (Zp8 k) (EnvOK.nil mixed))))
theorem ZE9(k:Nat)(x:Tup Z3x.ps):Z3x.f (k+1) x=fnK Z3x Zds Zi8 k x:=by kernel_rfl
theorem ZF5(x:Tup Z3x.ps):Z3x.f 0 x=none:=by kernel_rfl
theorem ZF3(k:Nat):LOK Tryz.prog Zds k Zi8:=LOK.by [] (by kernel_rfl) AllOK.nil
theorem ZEX(k:Nat):SoundAt Tryz.prog k 25 Z3x.E:= @Z5 Tryz.prog Z3x Zds 25 Tryz.f25 Zi8 (by kernel_rfl) (by kernel_rfl) (by kernel_rfl) Tryz.func25 (by kernel_rfl) (by kernel_rfl) (by kernel_rfl) T_ok ZGj ZF3 ZF5 ZE9 k
noncomputable def ZbW:List PK:=[PK.mk (.slice 3 I6) false none false none,PK.mk I6 false none false none,PK.mk I6 false none false none]
noncomputable def Zzm:List PK:=[PK.mk (.pair I6 (.pair I6 (.pair (.slice 76 P6) (.pair (.slice 3 I6) (.slice 3 I6))))) true none false none]
noncomputable def ZvK(r:List Int×Int×Int):Tup ZbW×OutD:=((r.1,r.2.1,r.2.2,()),none)
noncomputable def Zvp:Tup ZbW×OutD→Option (List Int×Int×Int)
 |(a,none)=>some (a.1,a.2.1,a.2.2.1)
 |_=>none
theorem ZEb: ∀b r,Zvp b=some r→ZvK r=b:=by
 rintro ⟨a,_|_⟩ r h<;>cases h;rfl
noncomputable def Z1k:Nat→Int→Int→List (Int×Int)→List Int→List Int→List Int→Int→Int→Int→Int→Option (List Int×Int×Int)
 |0,_,_,_,_,_,_,_,_,_,_=>none
 |k+1,b1_0,b1_1,b1_2,b1_3,b1_4,o2,v6,v7,v8,v9=>
  Option.bind (Z2s k (b1_0,b1_1,b1_2,b1_3,b1_4)) fun z0=>if decide (v9<z0)=true then Option.bind (Zi k (b1_0,b1_1,b1_2,b1_3,b1_4) v9) fun z1=>Option.bind (ZiG k (b1_0,b1_1,b1_2,b1_3,b1_4) (z1.1,z1.2.1,z1.2.2)) fun z2=>if (!z2)=true then Z1k k b1_0 b1_1 b1_2 b1_3 b1_4 o2 v6 v7 v8 (wrap64 (v9+1)) else Option.bind (Zkw k (z1.1,z1.2.1,z1.2.2)) fun z3=>if (0:Int)≤z3 then if z3<(↑(List.length o2):Int) then if (0:Int)≤z3 then if z3<(↑(List.length o2):Int) then if decide (v6<0)=true then if decide (v7<0)=true then Z1k k b1_0 b1_1 b1_2 b1_3 b1_4 (List.set o2 (Int.toNat z3) (wrap64 (List.getD o2 (Int.toNat z3) (0:Int)+1))) v9 v9 z3 (wrap64 (v9+1)) else if decide (z3<v8)=true then Z1k k b1_0 b1_1 b1_2 b1_3 b1_4 (List.set o2 (Int.toNat z3) (wrap64 (List.getD o2 (Int.toNat z3) (0:Int)+1))) v9 v9 z3 (wrap64 (v9+1)) else Z1k k b1_0 b1_1 b1_2 b1_3 b1_4 (List.set o2 (Int.toNat z3) (wrap64 (List.getD o2 (Int.toNat z3) (0:Int)+1))) v9 v7 v8 (wrap64 (v9+1)) else if decide (v7<0)=true then Z1k k b1_0 b1_1 b1_2 b1_3 b1_4 (List.set o2 (Int.toNat z3) (wrap64 (List.getD o2 (Int.toNat z3) (0:Int)+1))) v6 v9 z3 (wrap64 (v9+1)) else if decide (z3<v8)=true then Z1k k b1_0 b1_1 b1_2 b1_3 b1_4 (List.set o2 (Int.toNat z3) (wrap64 (List.getD o2 (Int.toNat z3) (0:Int)+1))) v6 v9 z3 (wrap64 (v9+1)) else Z1k k b1_0 b1_1 b1_2 b1_3 b1_4 (List.set o2 (Int.toNat z3) (wrap64 (List.getD o2 (Int.toNat z3) (0:Int)+1))) v6 v7 v8 (wrap64 (v9+1)) else none else none else none else none else some (o2,v6,v7)
noncomputable def Zjq:Spec:=Spec.mk [.ro,O4,O1] [(1,.at (.ptr 1 0)),(5,.at (.sl 2)),(6,.at (.int .i64)),(7,.at (.int .i64)),(8,.at (.int .i64)),(9,.at (.int .i64))]
noncomputable def ZHi:Spec:=Spec.mk [.ro,O1] [(5,.at (.sl 1)),(6,.at (.int .i64)),(7,.at (.int .i64))]
noncomputable def Z7z:LoopDef (Tup ZbW×OutD):= .plain Zjq ZHi (List Int×Int×Int) (fun k x=>Z1k k x.1.2.1.1 x.1.2.1.2.1 x.1.2.1.2.2.1 x.1.2.1.2.2.2.1 x.1.2.1.2.2.2.2.1 x.1.2.2.1 x.2.2.2.1 x.2.2.2.2.1 x.2.2.2.2.2.1 x.2.2.2.2.2.2.1) (fun z=>(((),z.1,()),((),z.2.1,z.2.2,()))) (fun y=>(y.1.2.1,y.2.2.1,y.2.2.2.1)) (fun _=>rfl)
noncomputable def Zfn:Nat→Int×Int×List (Int×Int)×List Int×List Int→Option (List Int×Int×Int)
 |0,_=>none
 |k+1,p0=>
  if (0:Int)≤wrap64 (wrap64 (p0.1*p0.2.1)+1) then if Int.toNat (wrap64 (wrap64 (p0.1*p0.2.1)+1))*(8:Nat)≤(281474976710656:Nat) then Option.bind (Z1k k p0.1 p0.2.1 p0.2.2.1 p0.2.2.2.1 p0.2.2.2.2 (List.replicate (Int.toNat (wrap64 (wrap64 (p0.1*p0.2.1)+1))) (0:Int)) (-1:Int) (-1:Int) (0:Int) (0:Int)) fun z4=>some (z4.1,z4.2.1,z4.2.2) else none else none
noncomputable def Z5h:FnDef:= .of Zzm ZbW (List Int×Int×Int) (fun k x=>Zfn k x.1) ZvK Zvp ZEb
noncomputable def ZiZ:Code:=Tryz.f46.body.getD .skip
noncomputable def Z8Q:Ctx (Tup ZbW×OutD):={T:=T,G:=[(78,Z3Y.E),(47,Z3W.E),(79,Z6z.E),(80,Z81.E)],mvs:=[],no:=0,n:=55,res:=resOf T Zzm ZbW Tryz.f46.results.toList,loops:=[(0,Z7z.E)],regs:=[],conds:=[],cuts:=[]}
theorem Zzx(k:Nat):EnvOK Tryz.prog k Z8Q.G:=(EnvOK.cons (ZoK k) (EnvOK.cons (Zoy k) (EnvOK.cons (ZOR k) (EnvOK.cons (ZQh k) (EnvOK.nil mixed)))))
noncomputable def Zeu:Code:=(findLoop 0 ZiZ).getD .skip
theorem ZHw(k:Nat)(x:Zjq.D):Z7z.lp (k+1) x=loopK Z8Q Z7z 0 Zeu k x:=by kernel_rfl
theorem ZHe(k:Nat):LOK Tryz.prog Z8Q k Zeu:=LOK.by [] (by kernel_rfl) AllOK.nil
theorem ZI4(x:Zjq.D):Z7z.lp 0 x=none:=by kernel_rfl
theorem ZEQ(k:Nat):EOK Tryz.prog Z8Q k Z7z.E (.block 0 (.loop Zeu)):=Zd T_ok Zzx ZI4 ZHw ZHe k
theorem ZOs(k:Nat)(x:Tup Z5h.ps):Z5h.f (k+1) x=fnK Z5h Z8Q ZiZ k x:=by kernel_rfl
theorem ZOp(x:Tup Z5h.ps):Z5h.f 0 x=none:=by kernel_rfl
theorem ZOi(k:Nat):LOK Tryz.prog Z8Q k ZiZ:=LOK.by [(Z7z.E,.block 0 (.loop Zeu))] (by kernel_rfl) (AllOK.cons (ZEQ k) AllOK.nil)
theorem Zzj(k:Nat):SoundAt Tryz.prog k 46 Z5h.E:= @Z5 Tryz.prog Z5h Z8Q 46 Tryz.f46 ZiZ (by kernel_rfl) (by kernel_rfl) (by kernel_rfl) Tryz.func46 (by kernel_rfl) (by kernel_rfl) (by kernel_rfl) T_ok Zzx ZOi ZOp ZOs k
noncomputable def Z5P:List PK:=[PK.mk (.slice 58 T6) false none false none]
noncomputable def ZnL:List PK:=[PK.mk (.pair I6 (.pair I6 (.slice 76 P6))) true none false none,PK.mk (.slice 3 I6) false none false none,PK.mk (.slice 40 T6) false none false none]
noncomputable def ZlR(r:List (Int×Int×Int)):Tup Z5P×OutD:=((r,()),none)
noncomputable def ZmZ:Tup Z5P×OutD→Option (List (Int×Int×Int))
 |(a,none)=>some (a.1)
 |_=>none
theorem ZtO: ∀b r,ZmZ b=some r→ZlR r=b:=by
 rintro ⟨a,_|_⟩ r h<;>cases h;rfl
noncomputable def Z3p:Nat→Int→Int→List (Int×Int)→List (Int×Int×Int)→List (Int×Int×Int)→List Int→List (Int×Int×Int)→Int→Int→Option (List (Int×Int×Int))
 |0,_,_,_,_,_,_,_,_,_=>none
 |k+1,b1_0,b1_1,b1_2,o2,o3,v1,v2,v13,v14=>
  if decide (v14<v13)=true then if (0:Int)≤v14 then if v14<(↑(List.length o3):Int) then Option.bind (Z8h k (b1_0,b1_1,b1_2) [(Prod.fst (List.getD o3 (Int.toNat v14) ((0:Int),(0:Int),(0:Int))),Prod.fst (Prod.snd (List.getD o3 (Int.toNat v14) ((0:Int),(0:Int),(0:Int)))),Prod.snd (Prod.snd (List.getD o3 (Int.toNat v14) ((0:Int),(0:Int),(0:Int)))))] v1 v2) fun z1=>if z1=true then if List.length o2+List.length [(Prod.fst (List.getD o3 (Int.toNat v14) ((0:Int),(0:Int),(0:Int))),Prod.fst (Prod.snd (List.getD o3 (Int.toNat v14) ((0:Int),(0:Int),(0:Int)))),Prod.snd (Prod.snd (List.getD o3 (Int.toNat v14) ((0:Int),(0:Int),(0:Int)))))]≤(140737488355328/24:Nat) then Z3p k b1_0 b1_1 b1_2 (o2++[(Prod.fst (List.getD o3 (Int.toNat v14) ((0:Int),(0:Int),(0:Int))),Prod.fst (Prod.snd (List.getD o3 (Int.toNat v14) ((0:Int),(0:Int),(0:Int)))),Prod.snd (Prod.snd (List.getD o3 (Int.toNat v14) ((0:Int),(0:Int),(0:Int)))))]) o3 v1 v2 v13 (wrap64 (v14+1)) else none else Z3p k b1_0 b1_1 b1_2 o2 o3 v1 v2 v13 (wrap64 (v14+1)) else none else none else some o2
noncomputable def Ze2:Spec:=Spec.mk [.ro,O2,Og,Og] [(1,.at (.snap 0 I6)),(2,.at (.snap 0 T6)),(3,.at (.ptr 1 0)),(7,.at (.sl 2)),(12,.at (.sl 3)),(13,.at (.int .i64)),(14,.at (.int .i64))]
noncomputable def ZwK:Spec:=Spec.mk [.ro,Og] [(7,.at (.sl 1))]
noncomputable def Z3Q:LoopDef (Tup Z5P×OutD):= .plain Ze2 ZwK (List (Int×Int×Int)) (fun k x=>Z3p k x.1.2.1.1 x.1.2.1.2.1 x.1.2.1.2.2.1 x.1.2.2.1 x.1.2.2.2.1 x.2.1 x.2.2.1 x.2.2.2.2.2.2.1 x.2.2.2.2.2.2.2.1) (fun z=>(((),z,()),((),()))) (fun y=>(y.1.2.1)) (fun _=>rfl)
noncomputable def ZcO:Nat→Int×Int×List (Int×Int)→List Int→List (Int×Int×Int)→Option (List (Int×Int×Int))
 |0,_,_,_=>none
 |k+1,p0,p1,p2=>
  Option.bind (Zaj k (p0.1,p0.2.1,p0.2.2)) fun z0=>Option.bind (Z3p k p0.1 p0.2.1 p0.2.2 [] z0 p1 p2 (↑(List.length z0):Int) (0:Int)) fun z2=>some z2
noncomputable def Z2Q:FnDef:= .of ZnL Z5P (List (Int×Int×Int)) (fun k x=>ZcO k x.1 x.2.1 x.2.2.1) ZlR ZmZ ZtO
noncomputable def ZcM:Code:=Tryz.f53.body.getD .skip
noncomputable def Z4j:Ctx (Tup Z5P×OutD):={T:=T,G:=[(86,Z2d.E),(57,Z26.E)],mvs:=[],no:=0,n:=30,res:=resOf T ZnL Z5P Tryz.f53.results.toList,loops:=[(0,Z3Q.E)],regs:=[],conds:=[],cuts:=[]}
theorem ZnM(k:Nat):EnvOK Tryz.prog k Z4j.G:=(EnvOK.cons (Zzo k) (EnvOK.cons (Znn k) (EnvOK.nil mixed)))
noncomputable def Z9G:Code:=(findLoop 0 ZcM).getD .skip
theorem Zw8(k:Nat)(x:Ze2.D):Z3Q.lp (k+1) x=loopK Z4j Z3Q 0 Z9G k x:=by kernel_rfl
theorem ZvT(k:Nat):LOK Tryz.prog Z4j k Z9G:=LOK.by [] (by kernel_rfl) AllOK.nil
theorem Zww(x:Ze2.D):Z3Q.lp 0 x=none:=by kernel_rfl
theorem Zut(k:Nat):EOK Tryz.prog Z4j k Z3Q.E (.block 0 (.loop Z9G)):=Zd T_ok ZnM Zww Zw8 ZvT k
theorem ZCG(k:Nat)(x:Tup Z2Q.ps):Z2Q.f (k+1) x=fnK Z2Q Z4j ZcM k x:=by kernel_rfl
theorem ZDM(x:Tup Z2Q.ps):Z2Q.f 0 x=none:=by kernel_rfl
theorem ZCV(k:Nat):LOK Tryz.prog Z4j k ZcM:=LOK.by [(Z3Q.E,.block 0 (.loop Z9G))] (by kernel_rfl) (AllOK.cons (Zut k) AllOK.nil)
theorem ZDC(k:Nat):SoundAt Tryz.prog k 53 Z2Q.E:= @Z5 Tryz.prog Z2Q Z4j 53 Tryz.f53 ZcM (by kernel_rfl) (by kernel_rfl) (by kernel_rfl) Tryz.func53 (by kernel_rfl) (by kernel_rfl) (by kernel_rfl) T_ok ZnM ZCV ZDM ZCG k
noncomputable def Zaw:List PK:=[PK.mk (.slice 58 T6) false none false none]
noncomputable def Zvz:List PK:=[PK.mk (.pair I6 (.pair I6 (.slice 76 P6))) true none false none,PK.mk (.slice 3 I6) false none false none,PK.mk (.slice 40 T6) false none false none]
noncomputable def ZsS(r:List (Int×Int×Int)):Tup Zaw×OutD:=((r,()),none)
noncomputable def ZsV:Tup Zaw×OutD→Option (List (Int×Int×Int))
 |(a,none)=>some (a.1)
 |_=>none
theorem ZCQ: ∀b r,ZsV b=some r→ZsS r=b:=by
 rintro ⟨a,_|_⟩ r h<;>cases h;rfl
noncomputable def Z5A:Nat→Int→Int→List (Int×Int)→List (Int×Int×Int)→List (Int×Int×Int)→List Int→List (Int×Int×Int)→Int→Int→Option (List (Int×Int×Int))
 |0,_,_,_,_,_,_,_,_,_=>none
 |k+1,b1_0,b1_1,b1_2,o2,o3,v1,v2,v12,v13=>
  if decide (v13<v12)=true then if (0:Int)≤v13 then if v13<(↑(List.length o3):Int) then Option.bind (ZeC k (b1_0,b1_1,b1_2) [(Prod.fst (List.getD o3 (Int.toNat v13) ((0:Int),(0:Int),(0:Int))),Prod.fst (Prod.snd (List.getD o3 (Int.toNat v13) ((0:Int),(0:Int),(0:Int)))),Prod.snd (Prod.snd (List.getD o3 (Int.toNat v13) ((0:Int),(0:Int),(0:Int)))))] v1 v2) fun z1=>if z1=true then if List.length o2+List.length [(Prod.fst (List.getD o3 (Int.toNat v13) ((0:Int),(0:Int),(0:Int))),Prod.fst (Prod.snd (List.getD o3 (Int.toNat v13) ((0:Int),(0:Int),(0:Int)))),Prod.snd (Prod.snd (List.getD o3 (Int.toNat v13) ((0:Int),(0:Int),(0:Int)))))]≤(140737488355328/24:Nat) then Z5A k b1_0 b1_1 b1_2 (o2++[(Prod.fst (List.getD o3 (Int.toNat v13) ((0:Int),(0:Int),(0:Int))),Prod.fst (Prod.snd (List.getD o3 (Int.toNat v13) ((0:Int),(0:Int),(0:Int)))),Prod.snd (Prod.snd (List.getD o3 (Int.toNat v13) ((0:Int),(0:Int),(0:Int)))))]) o3 v1 v2 v12 (wrap64 (v13+1)) else none else Z5A k b1_0 b1_1 b1_2 o2 o3 v1 v2 v12 (wrap64 (v13+1)) else none else none else some o2
noncomputable def Zi1:Spec:=Spec.mk [.ro,O2,Og,Og] [(1,.at (.snap 0 I6)),(2,.at (.snap 0 T6)),(3,.at (.ptr 1 0)),(7,.at (.sl 2)),(11,.at (.sl 3)),(12,.at (.int .i64)),(13,.at (.int .i64))]
noncomputable def ZGu:Spec:=Spec.mk [.ro,Og] [(7,.at (.sl 1))]
noncomputable def Z6F:LoopDef (Tup Zaw×OutD):= .plain Zi1 ZGu (List (Int×Int×Int)) (fun k x=>Z5A k x.1.2.1.1 x.1.2.1.2.1 x.1.2.1.2.2.1 x.1.2.2.1 x.1.2.2.2.1 x.2.1 x.2.2.1 x.2.2.2.2.2.2.1 x.2.2.2.2.2.2.2.1) (fun z=>(((),z,()),((),()))) (fun y=>(y.1.2.1)) (fun _=>rfl)
noncomputable def Zhh:Nat→Int×Int×List (Int×Int)→List Int→List (Int×Int×Int)→Option (List (Int×Int×Int))
 |0,_,_,_=>none
 |k+1,p0,p1,p2=>
  Option.bind (Zbc k (p0.1,p0.2.1,p0.2.2)) fun z0=>Option.bind (Z5A k p0.1 p0.2.1 p0.2.2 [] z0 p1 p2 (↑(List.length z0):Int) (0:Int)) fun z2=>some z2
noncomputable def Z5H:FnDef:= .of Zvz Zaw (List (Int×Int×Int)) (fun k x=>Zhh k x.1 x.2.1 x.2.2.1) ZsS ZsV ZCQ
noncomputable def Zhm:Code:=Tryz.f55.body.getD .skip
noncomputable def Z75:Ctx (Tup Zaw×OutD):={T:=T,G:=[(88,Z33.E),(89,Z46.E)],mvs:=[],no:=0,n:=29,res:=resOf T Zvz Zaw Tryz.f55.results.toList,loops:=[(0,Z6F.E)],regs:=[],conds:=[],cuts:=[]}
theorem ZuI(k:Nat):EnvOK Tryz.prog k Z75.G:=(EnvOK.cons (ZqN k) (EnvOK.cons (ZI5 k) (EnvOK.nil mixed)))
noncomputable def ZdE:Code:=(findLoop 0 Zhm).getD .skip
theorem ZFO(k:Nat)(x:Zi1.D):Z6F.lp (k+1) x=loopK Z75 Z6F 0 ZdE k x:=by kernel_rfl
theorem ZF6(k:Nat):LOK Tryz.prog Z75 k ZdE:=LOK.by [] (by kernel_rfl) AllOK.nil
theorem ZEl(x:Zi1.D):Z6F.lp 0 x=none:=by kernel_rfl
theorem ZDw(k:Nat):EOK Tryz.prog Z75 k Z6F.E (.block 0 (.loop ZdE)):=Zd T_ok ZuI ZEl ZFO ZF6 k
theorem ZMH(k:Nat)(x:Tup Z5H.ps):Z5H.f (k+1) x=fnK Z5H Z75 Zhm k x:=by kernel_rfl
theorem ZME(x:Tup Z5H.ps):Z5H.f 0 x=none:=by kernel_rfl
theorem ZML(k:Nat):LOK Tryz.prog Z75 k Zhm:=LOK.by [(Z6F.E,.block 0 (.loop ZdE))] (by kernel_rfl) (AllOK.cons (ZDw k) AllOK.nil)
theorem ZM2(k:Nat):SoundAt Tryz.prog k 55 Z5H.E:= @Z5 Tryz.prog Z5H Z75 55 Tryz.f55 Zhm (by kernel_rfl) (by kernel_rfl) (by kernel_rfl) Tryz.func55 (by kernel_rfl) (by kernel_rfl) (by kernel_rfl) T_ok ZuI ZML ZME ZMH k
noncomputable def Z8n:List PK:=[PK.mk I6 false none false none]
noncomputable def ZnT:List PK:=[PK.mk (.pair I6 (.pair I6 (.slice 76 P6))) true none false none,PK.mk I6 false none false none,PK.mk I6 false none false none]
noncomputable def ZlP(r:Int):Tup Z8n×OutD:=((r,()),none)
noncomputable def Zmf:Tup Z8n×OutD→Option (Int)
 |(a,none)=>some (a.1)
 |_=>none
theorem Zuv: ∀b r,Zmf b=some r→ZlP r=b:=by
 rintro ⟨a,_|_⟩ r h<;>cases h;rfl
noncomputable def ZcE:Nat→Int×Int×List (Int×Int)→Int→Int→Option Int
 |0,_,_,_=>none
 |k+1,p0,p1,p2=>
  Option.bind (ZgF k (p0.1,p0.2.1,p0.2.2) p2) fun z0=>if decide (z0.1.1≠1)=true then some (-1:Int) else if decide (z0.1.2.2≥p1)=true then some (1:Int) else some (0:Int)
noncomputable def Z2O:FnDef:= .of ZnT Z8n (Int) (fun k x=>ZcE k x.1 x.2.1 x.2.2.1) ZlP Zmf Zuv
noncomputable def Zh9:Code:=Tryz.f68.body.getD .skip
noncomputable def Zcx:Ctx (Tup Z8n×OutD):={T:=T,G:=[(11,Z67.E)],mvs:=[],no:=0,n:=24,res:=resOf T ZnT Z8n Tryz.f68.results.toList,loops:=[],regs:=[],conds:=[],cuts:=[]}
theorem ZCU(k:Nat):EnvOK Tryz.prog k Zcx.G:=(EnvOK.cons (ZBr k) (EnvOK.nil mixed))
theorem ZDb(k:Nat)(x:Tup Z2O.ps):Z2O.f (k+1) x=fnK Z2O Zcx Zh9 k x:=by kernel_rfl
theorem ZDf(x:Tup Z2O.ps):Z2O.f 0 x=none:=by kernel_rfl
theorem ZD9(k:Nat):LOK Tryz.prog Zcx k Zh9:=LOK.by [] (by kernel_rfl) AllOK.nil
theorem ZCx(k:Nat):SoundAt Tryz.prog k 68 Z2O.E:= @Z5 Tryz.prog Z2O Zcx 68 Tryz.f68 Zh9 (by kernel_rfl) (by kernel_rfl) (by kernel_rfl) Tryz.func68 (by kernel_rfl) (by kernel_rfl) (by kernel_rfl) T_ok ZCU ZD9 ZDf ZDb k
noncomputable def Z4I:List PK:=[PK.mk (.pair I6 (.slice 3 I6)) true none false none]
noncomputable def ZlA:List PK:=[PK.mk (.pair (.slice 5 (.int .u8)) (.pair I6 (.int .u64))) false none false (some 105)]
noncomputable def ZjW(r:(Int×List Int)×Int×Int):Tup Z4I×OutD:=((r.1,()),some ⟨Ty.pair (Ty.slice (5:Nat) (Ty.int .u8)) (Ty.pair (Ty.int .i64) (Ty.int .u64)),[([],r.2)]⟩)
noncomputable def Ze8:Tup Z4I×OutD→Option ((Int×List Int)×Int×Int)
 |(a,some ⟨u,ys⟩)=>if h:u=Ty.pair (Ty.slice (5:Nat) (Ty.int .u8)) (Ty.pair (Ty.int .i64) (Ty.int .u64)) then (match castU h ys with
  |[([],y)]=>some (a.1,y)
  |_=>none) else none
 |_=>none
theorem Zrf: ∀b r,Ze8 b=some r→ZjW r=b:=by
 rintro ⟨a,o⟩ r h
 cases o with
 |none=>cases h
 |some s=>
  obtain ⟨u,ys⟩:=s
  simp only[Ze8]at h
  split at h
  ·rename_i hu
   subst hu
   match ys,h with
   |[],h=>cases (show (none:Option _)=some r from h)
   |[([],y)],h=>injection (show some _=some r from h) with h;subst h;rfl
   |[(_::_,y)],h=>cases (show (none:Option _)=some r from h)
   |(h1,_)::_::_,h=>cases h1<;>cases (show (none:Option _)=some r from h)
  ·cases h
noncomputable def Z3s:Nat→Int→Int→List Int→Int→List Int→Int→List Int→Option (Int×Int×List Int×Int×List Int×Int×List Int):=fun k b1_1 b1_2 o2 b3_0 o4 b5_0 o6=>
  Option.bind (Z1 k (o2,b1_1,b1_2) (↑(List.length o6):Int)) fun z3=>Option.bind (Zb k (o2,z3.2.1,z3.2.2) [(-1:Int),(2:Int)]) fun z4=>if (0:Int)≤z3.1 then if z3.1<(↑(List.length o6):Int) then some (z4.2.1,z4.2.2,o2,b3_0,o4,b5_0,List.set o6 (Int.toNat z3.1) z4.1) else none else none
noncomputable def Z6V:Nat→Int→Int→List Int→Int→List Int→Int→List Int→Option (List (Int×Int×List Int×Int×List Int×Int×List Int)):=fun k b1_1 b1_2 o2 b3_0 o4 b5_0 o6=>
  joinL (joinL (Option.bind (Z1 k (o2,b1_1,b1_2) (↑(List.length o6):Int)) fun z5=>Option.bind (Zb k (o2,z5.2.1,z5.2.2) [(-1:Int),(2:Int)]) fun z6=>if (0:Int)≤z5.1 then if z5.1<(↑(List.length o6):Int) then some [(z6.2.1,z6.2.2,o2,b3_0,o4,b5_0,List.set o6 (Int.toNat z5.1) z6.1)] else none else none) (Option.bind (Z1 k (o2,b1_1,b1_2) (↑(List.length o6):Int)) fun z7=>Option.bind (Zb k (o2,z7.2.1,z7.2.2) [(-1:Int),(2:Int)]) fun z8=>if (0:Int)≤z7.1 then if z7.1<(↑(List.length o6):Int) then some [(z8.2.1,z8.2.2,o2,b3_0,o4,b5_0,List.set o6 (Int.toNat z7.1) z8.1)] else none else none)) (joinL (Option.bind (Z1 k (o2,b1_1,b1_2) (↑(List.length o6):Int)) fun z9=>joinL (Option.bind (Zb k (o2,z9.2.1,z9.2.2) [(-1:Int),(2:Int)]) fun z10=>if (0:Int)≤z9.1 then if z9.1<(↑(List.length o6):Int) then some [(z10.2.1,z10.2.2,o2,b3_0,o4,b5_0,List.set o6 (Int.toNat z9.1) z10.1)] else none else none) (joinL (Option.bind (Zb k (o2,z9.2.1,z9.2.2) [(-1:Int),(2:Int)]) fun z11=>if (0:Int)≤z9.1 then if z9.1<(↑(List.length o6):Int) then some [(z11.2.1,z11.2.2,o2,b3_0,o4,b5_0,List.set o6 (Int.toNat z9.1) z11.1)] else none else none) (Option.bind (Zb k (o2,z9.2.1,z9.2.2) [(-1:Int),(2:Int)]) fun z12=>if (0:Int)≤z9.1 then if z9.1<(↑(List.length o6):Int) then some [(z12.2.1,z12.2.2,o2,b3_0,o4,b5_0,List.set o6 (Int.toNat z9.1) z12.1)] else none else none))) (joinL (Option.bind (Z1 k (o2,b1_1,b1_2) (↑(List.length o6):Int)) fun z13=>Option.bind (Zb k (o2,z13.2.1,z13.2.2) [(-1:Int),(2:Int)]) fun z14=>if (0:Int)≤z13.1 then if z13.1<(↑(List.length o6):Int) then some [(z14.2.1,z14.2.2,o2,b3_0,o4,b5_0,List.set o6 (Int.toNat z13.1) z14.1)] else none else none) (Option.bind (Z1 k (o2,b1_1,b1_2) (↑(List.length o6):Int)) fun z15=>joinL (Option.bind (Zb k (o2,z15.2.1,z15.2.2) [(-1:Int),(2:Int)]) fun z16=>if (0:Int)≤z15.1 then if z15.1<(↑(List.length o6):Int) then some [(z16.2.1,z16.2.2,o2,b3_0,o4,b5_0,List.set o6 (Int.toNat z15.1) z16.1)] else none else none) (Option.bind (Zb k (o2,z15.2.1,z15.2.2) [(-1:Int),(2:Int)]) fun z17=>if (0:Int)≤z15.1 then if z15.1<(↑(List.length o6):Int) then some [(z17.2.1,z17.2.2,o2,b3_0,o4,b5_0,List.set o6 (Int.toNat z15.1) z17.1)] else none else none))))
noncomputable def Zhv:Spec:=Spec.mk [.ro,O3,Oc,Oj,O1,Ok,O1] [(0,.at (.ptr 1 0)),(2,.at (.ptr 3 0)),(3,.at (.ptr 5 0))]
noncomputable def Zre:Spec:=Spec.mk [.ro,O3,Oc,Oj,O1,Ok,O1] [(2,.at (.ptr 3 0)),(3,.at (.ptr 5 0))]
noncomputable def Z2L:LoopDef (Tup Z4I×OutD):= .plain Zhv Zre (Int×Int×List Int×Int×List Int×Int×List Int) (fun k x=>Z3s k x.1.2.1.2.1 x.1.2.1.2.2.1 x.1.2.2.1 x.1.2.2.2.1.1 x.1.2.2.2.2.1 x.1.2.2.2.2.2.1.1 x.1.2.2.2.2.2.2.1) (fun z=>(((),((),z.1,z.2.1,()),z.2.2.1,(z.2.2.2.1,(),()),z.2.2.2.2.1,(z.2.2.2.2.2.1,(),()),z.2.2.2.2.2.2,()),((),(),()))) (fun y=>(y.1.2.1.2.1,y.1.2.1.2.2.1,y.1.2.2.1,y.1.2.2.2.1.1,y.1.2.2.2.2.1,y.1.2.2.2.2.2.1.1,y.1.2.2.2.2.2.2.1)) (fun _=>rfl)
theorem Zr5(k:Nat)(b1_1:Int)(b1_2:Int)(o2:List Int)(b3_0:Int)(o4:List Int)(b5_0:Int)(o6:List Int):Z6V k b1_1 b1_2 o2 b3_0 o4 b5_0 o6=repl 8 (Z3s k b1_1 b1_2 o2 b3_0 o4 b5_0 o6):=by
 first
 |(simp only[Z6V,Z3s,Z9,Zc,Z6,Z8,Z7,Z3,if_true];done)
 |(simp only[Z6V,Z3s,Z9,Zc,Z6,Z8,Z7,Z3,if_true];simp only[Z1g,Z1i,Z2p,Z3];simp only[Z3E];exact Z1F ⟨fun h=>by simp only[h,and_self],fun h=>by simp only[h,and_self]⟩)
noncomputable def Zat:Nat→List Int×Int×Int→Option ((Int×List Int)×Int×Int)
 |0,_=>none
 |k+1,p0=>
  Option.bind (ZdV k (p0.1,p0.2.1,p0.2.2)) fun z0=>Option.bind (Z1 k (p0.1,z0.2.1,z0.2.2) (30:Int)) fun z1=>if decide (z1.1=0)=true then Option.bind (Zb k (p0.1,z1.2.1,z1.2.2) [(-1:Int),wrap64 (z0.1.1+1)]) fun z2=>some ((z2.1,z0.1.2),z2.2.1,z2.2.2) else if decide (z1.1=1)=true then Option.bind (Z3s k z1.2.1 z1.2.2 p0.1 (0:Int) [] z0.1.1 z0.1.2) fun z18=>some ((z18.2.2.2.2.2.1,z18.2.2.2.2.2.2),z18.1,z18.2.1) else if decide (z1.1=2)=true then if (1:Int)≤(↑(List.length z0.1.2):Int) then if (↑(List.length z0.1.2):Int)≤(↑(List.length z0.1.2):Int) then some ((z0.1.1,List.drop (Int.toNat (1:Int)) z0.1.2),z1.2.1,z1.2.2) else none else none else if decide (z1.1=3)=true then some (((5:Int),List.replicate (Int.toNat (32:Int)) (0:Int)),z1.2.1,z1.2.2) else some ((z0.1.1,z0.1.2),z1.2.1,z1.2.2)
noncomputable def Z29:FnDef:= .of ZlA Z4I ((Int×List Int)×Int×Int) (fun k x=>Zat k x.1) ZjW Ze8 Zrf
noncomputable def Zae:Code:=Tryz.f96.body.getD .skip
noncomputable def Z1e:Ctx (Tup Z4I×OutD):={T:=T,G:=[(117,Z3w.E),(116,Zq.E),(98,Zp.E)],mvs:=[34],no:=2,n:=41,res:=resOf T ZlA Z4I Tryz.f96.results.toList,loops:=[],regs:=[(6,Z2L.E)],conds:=[],cuts:=[]}
theorem ZlB(k:Nat):EnvOK Tryz.prog k Z1e.G:=(EnvOK.cons (ZEE k) (EnvOK.cons (Z1I k) (EnvOK.cons (Z1S k) (EnvOK.nil mixed))))
noncomputable def Zbv:Array Oper:=(findReg 6 Zae).getD #[]
theorem Zrp(k:Nat)(x:Zhv.D):execD Z1e.T Z1e.G Z1e.mvs k Zbv (Z2L.inp.st Z1e.n x) (outK Z1e Z2L)=Z6V k x.1.2.1.2.1 x.1.2.1.2.2.1 x.1.2.2.1 x.1.2.2.2.1.1 x.1.2.2.2.2.1 x.1.2.2.2.2.2.1.1 x.1.2.2.2.2.2.2.1:=by kernel_rfl
theorem ZpX(k:Nat):EOK Tryz.prog Z1e k Z2L.E (.region 6 Zbv true):=Z4m (D:=Z2L) (m:=8) T_ok (ZlB k) (fun x=>(Zrp k x).trans (Zr5 k x.1.2.1.2.1 x.1.2.1.2.2.1 x.1.2.2.1 x.1.2.2.2.1.1 x.1.2.2.2.2.1 x.1.2.2.2.2.2.1.1 x.1.2.2.2.2.2.2.1))
theorem Zy1(k:Nat)(x:Tup Z29.ps):Z29.f (k+1) x=fnK Z29 Z1e Zae k x:=by kernel_rfl
theorem Zyd(x:Tup Z29.ps):Z29.f 0 x=none:=by kernel_rfl
theorem Zzn(k:Nat):LOK Tryz.prog Z1e k Zae:=LOK.by [(Z2L.E,.region 6 Zbv true)] (by kernel_rfl) (AllOK.cons (ZpX k) AllOK.nil)
theorem Zxv(k:Nat):SoundAt Tryz.prog k 96 Z29.E:= @Z5 Tryz.prog Z29 Z1e 96 Tryz.f96 Zae (by kernel_rfl) (by kernel_rfl) (by kernel_rfl) Tryz.func96 (by kernel_rfl) (by kernel_rfl) (by kernel_rfl) T_ok ZlB Zzn Zyd Zy1 k
noncomputable def ZP:List PK:=[PK.mk (.pair I6 (.pair I6 (.pair (.slice 76 P6) (.pair (.slice 3 I6) (.slice 3 I6))))) true none false none]
noncomputable def Zhr:List PK:=[PK.mk (.pair (.slice 5 (.int .u8)) (.pair I6 (.int .u64))) false none false (some 105)]
noncomputable def ZgD(r:(Int×Int×List (Int×Int)×List Int×List Int)×Int×Int):Tup ZP×OutD:=((r.1,()),some ⟨Ty.pair (Ty.slice (5:Nat) (Ty.int .u8)) (Ty.pair (Ty.int .i64) (Ty.int .u64)),[([],r.2)]⟩)
noncomputable def ZaQ:Tup ZP×OutD→Option ((Int×Int×List (Int×Int)×List Int×List Int)×Int×Int)
 |(a,some ⟨u,ys⟩)=>if h:u=Ty.pair (Ty.slice (5:Nat) (Ty.int .u8)) (Ty.pair (Ty.int .i64) (Ty.int .u64)) then (match castU h ys with
  |[([],y)]=>some (a.1,y)
  |_=>none) else none
 |_=>none
theorem Zng: ∀b r,ZaQ b=some r→ZgD r=b:=by
 rintro ⟨a,o⟩ r h
 cases o with
 |none=>cases h
 |some s=>
  obtain ⟨u,ys⟩:=s
  simp only[ZaQ]at h
  split at h
  ·rename_i hu
   subst hu
   match ys,h with
   |[],h=>cases (show (none:Option _)=some r from h)
   |[([],y)],h=>injection (show some _=some r from h) with h;subst h;rfl
   |[(_::_,y)],h=>cases (show (none:Option _)=some r from h)
   |(h1,_)::_::_,h=>cases h1<;>cases (show (none:Option _)=some r from h)
  ·cases h
noncomputable def Z1L:Nat→Int→Int→List Int→Int→Int→List (Int×Int)→List Int→List Int→Int→Int→List (Int×Int)→List Int→List Int→Option (Int×Int×List Int×Int×Int×List (Int×Int)×List Int×List Int×Int×Int×List (Int×Int)×List Int×List Int):=fun k b1_1 b1_2 o2 b3_0 b3_1 o4 o5 o6 b7_0 b7_1 o8 o9 o10=>
  Option.bind (Zb k (o2,b1_1,b1_2) [(-1:Int),b7_1]) fun z4=>if (0:Int)<(↑(List.length o9):Int) then some (z4.2.1,z4.2.2,o2,b3_0,b3_1,o4,o5,o6,b7_0,b7_1,o8,List.set o9 (Int.toNat (0:Int)) z4.1,o10) else none
noncomputable def Z4r:Nat→Int→Int→List Int→Int→Int→List (Int×Int)→List Int→List Int→Int→Int→List (Int×Int)→List Int→List Int→Option (List (Int×Int×List Int×Int×Int×List (Int×Int)×List Int×List Int×Int×Int×List (Int×Int)×List Int×List Int)):=fun k b1_1 b1_2 o2 b3_0 b3_1 o4 o5 o6 b7_0 b7_1 o8 o9 o10=>
  joinL (Option.bind (Zb k (o2,b1_1,b1_2) [(-1:Int),b7_1]) fun z5=>if (0:Int)<(↑(List.length o9):Int) then some [(z5.2.1,z5.2.2,o2,b3_0,b3_1,o4,o5,o6,b7_0,b7_1,o8,List.set o9 (Int.toNat (0:Int)) z5.1,o10)] else none) (joinL (Option.bind (Zb k (o2,b1_1,b1_2) [(-1:Int),b7_1]) fun z6=>if (0:Int)<(↑(List.length o9):Int) then some [(z6.2.1,z6.2.2,o2,b3_0,b3_1,o4,o5,o6,b7_0,b7_1,o8,List.set o9 (Int.toNat (0:Int)) z6.1,o10)] else none) (Option.bind (Zb k (o2,b1_1,b1_2) [(-1:Int),b7_1]) fun z7=>if (0:Int)<(↑(List.length o9):Int) then some [(z7.2.1,z7.2.2,o2,b3_0,b3_1,o4,o5,o6,b7_0,b7_1,o8,List.set o9 (Int.toNat (0:Int)) z7.1,o10)] else none))
noncomputable def ZdF:Spec:=Spec.mk [.ro,O3,Oc,O9,O0,O1,O1,O8,O0,O1,O1] [(0,.at (.ptr 1 0)),(2,.at (.ptr 3 0)),(3,.at (.ptr 7 0))]
noncomputable def Zmz:Spec:=Spec.mk [.ro,O3,Oc,O9,O0,O1,O1,O8,O0,O1,O1] [(2,.at (.ptr 3 0)),(3,.at (.ptr 7 0))]
noncomputable def Z1u:LoopDef (Tup ZP×OutD):= .plain ZdF Zmz (Int×Int×List Int×Int×Int×List (Int×Int)×List Int×List Int×Int×Int×List (Int×Int)×List Int×List Int) (fun k x=>Z1L k x.1.2.1.2.1 x.1.2.1.2.2.1 x.1.2.2.1 x.1.2.2.2.1.1 x.1.2.2.2.1.2.1 x.1.2.2.2.2.1 x.1.2.2.2.2.2.1 x.1.2.2.2.2.2.2.1 x.1.2.2.2.2.2.2.2.1.1 x.1.2.2.2.2.2.2.2.1.2.1 x.1.2.2.2.2.2.2.2.2.1 x.1.2.2.2.2.2.2.2.2.2.1 x.1.2.2.2.2.2.2.2.2.2.2.1) (fun z=>(((),((),z.1,z.2.1,()),z.2.2.1,(z.2.2.2.1,z.2.2.2.2.1,(),(),(),()),z.2.2.2.2.2.1,z.2.2.2.2.2.2.1,z.2.2.2.2.2.2.2.1,(z.2.2.2.2.2.2.2.2.1,z.2.2.2.2.2.2.2.2.2.1,(),(),(),()),z.2.2.2.2.2.2.2.2.2.2.1,z.2.2.2.2.2.2.2.2.2.2.2.1,z.2.2.2.2.2.2.2.2.2.2.2.2,()),((),(),()))) (fun y=>(y.1.2.1.2.1,y.1.2.1.2.2.1,y.1.2.2.1,y.1.2.2.2.1.1,y.1.2.2.2.1.2.1,y.1.2.2.2.2.1,y.1.2.2.2.2.2.1,y.1.2.2.2.2.2.2.1,y.1.2.2.2.2.2.2.2.1.1,y.1.2.2.2.2.2.2.2.1.2.1,y.1.2.2.2.2.2.2.2.2.1,y.1.2.2.2.2.2.2.2.2.2.1,y.1.2.2.2.2.2.2.2.2.2.2.1)) (fun _=>rfl)
theorem Zn3(k:Nat)(b1_1:Int)(b1_2:Int)(o2:List Int)(b3_0:Int)(b3_1:Int)(o4:List (Int×Int))(o5:List Int)(o6:List Int)(b7_0:Int)(b7_1:Int)(o8:List (Int×Int))(o9:List Int)(o10:List Int):Z4r k b1_1 b1_2 o2 b3_0 b3_1 o4 o5 o6 b7_0 b7_1 o8 o9 o10=repl 3 (Z1L k b1_1 b1_2 o2 b3_0 b3_1 o4 o5 o6 b7_0 b7_1 o8 o9 o10):=by
 first
 |(simp only[Z4r,Z1L,Z9,Zc,Z6,Z8,Z7,Z3,if_true];done)
 |(simp only[Z4r,Z1L,Z9,Zc,Z6,Z8,Z7,Z3,if_true];simp only[Z1g,Z1i,Z2p,Z3];simp only[Z3E];exact Z1F ⟨fun h=>by simp only[h,and_self],fun h=>by simp only[h,and_self]⟩)
noncomputable def Z1K:Nat→Int→Int→List Int→Int→Int→List (Int×Int)→List Int→List Int→Int→Int→List (Int×Int)→List Int→List Int→Option (Int×Int×List Int×Int×Int×List (Int×Int)×List Int×List Int×Int×Int×List (Int×Int)×List Int×List Int):=fun k b1_1 b1_2 o2 b3_0 b3_1 o4 o5 o6 b7_0 b7_1 o8 o9 o10=>
  Option.bind (Zb k (o2,b1_1,b1_2) [(-1:Int),wrap64 (b7_1+2)]) fun z9=>if (0:Int)<(↑(List.length o10):Int) then some (z9.2.1,z9.2.2,o2,b3_0,b3_1,o4,o5,o6,b7_0,b7_1,o8,o9,List.set o10 (Int.toNat (0:Int)) z9.1) else none
noncomputable def Z4l:Nat→Int→Int→List Int→Int→Int→List (Int×Int)→List Int→List Int→Int→Int→List (Int×Int)→List Int→List Int→Option (List (Int×Int×List Int×Int×Int×List (Int×Int)×List Int×List Int×Int×Int×List (Int×Int)×List Int×List Int)):=fun k b1_1 b1_2 o2 b3_0 b3_1 o4 o5 o6 b7_0 b7_1 o8 o9 o10=>
  joinL (Option.bind (Zb k (o2,b1_1,b1_2) [(-1:Int),wrap64 (b7_1+2)]) fun z10=>if (0:Int)<(↑(List.length o10):Int) then some [(z10.2.1,z10.2.2,o2,b3_0,b3_1,o4,o5,o6,b7_0,b7_1,o8,o9,List.set o10 (Int.toNat (0:Int)) z10.1)] else none) (joinL (Option.bind (Zb k (o2,b1_1,b1_2) [(-1:Int),wrap64 (b7_1+2)]) fun z11=>if (0:Int)<(↑(List.length o10):Int) then some [(z11.2.1,z11.2.2,o2,b3_0,b3_1,o4,o5,o6,b7_0,b7_1,o8,o9,List.set o10 (Int.toNat (0:Int)) z11.1)] else none) (Option.bind (Zb k (o2,b1_1,b1_2) [(-1:Int),wrap64 (b7_1+2)]) fun z12=>if (0:Int)<(↑(List.length o10):Int) then some [(z12.2.1,z12.2.2,o2,b3_0,b3_1,o4,o5,o6,b7_0,b7_1,o8,o9,List.set o10 (Int.toNat (0:Int)) z12.1)] else none))
noncomputable def ZdJ:Spec:=Spec.mk [.ro,O3,Oc,O9,O0,O1,O1,O8,O0,O1,O1] [(0,.at (.ptr 1 0)),(2,.at (.ptr 3 0)),(3,.at (.ptr 7 0))]
noncomputable def Zme:Spec:=Spec.mk [.ro,O3,Oc,O9,O0,O1,O1,O8,O0,O1,O1] [(2,.at (.ptr 3 0)),(3,.at (.ptr 7 0))]
noncomputable def Z1y:LoopDef (Tup ZP×OutD):= .plain ZdJ Zme (Int×Int×List Int×Int×Int×List (Int×Int)×List Int×List Int×Int×Int×List (Int×Int)×List Int×List Int) (fun k x=>Z1K k x.1.2.1.2.1 x.1.2.1.2.2.1 x.1.2.2.1 x.1.2.2.2.1.1 x.1.2.2.2.1.2.1 x.1.2.2.2.2.1 x.1.2.2.2.2.2.1 x.1.2.2.2.2.2.2.1 x.1.2.2.2.2.2.2.2.1.1 x.1.2.2.2.2.2.2.2.1.2.1 x.1.2.2.2.2.2.2.2.2.1 x.1.2.2.2.2.2.2.2.2.2.1 x.1.2.2.2.2.2.2.2.2.2.2.1) (fun z=>(((),((),z.1,z.2.1,()),z.2.2.1,(z.2.2.2.1,z.2.2.2.2.1,(),(),(),()),z.2.2.2.2.2.1,z.2.2.2.2.2.2.1,z.2.2.2.2.2.2.2.1,(z.2.2.2.2.2.2.2.2.1,z.2.2.2.2.2.2.2.2.2.1,(),(),(),()),z.2.2.2.2.2.2.2.2.2.2.1,z.2.2.2.2.2.2.2.2.2.2.2.1,z.2.2.2.2.2.2.2.2.2.2.2.2,()),((),(),()))) (fun y=>(y.1.2.1.2.1,y.1.2.1.2.2.1,y.1.2.2.1,y.1.2.2.2.1.1,y.1.2.2.2.1.2.1,y.1.2.2.2.2.1,y.1.2.2.2.2.2.1,y.1.2.2.2.2.2.2.1,y.1.2.2.2.2.2.2.2.1.1,y.1.2.2.2.2.2.2.2.1.2.1,y.1.2.2.2.2.2.2.2.2.1,y.1.2.2.2.2.2.2.2.2.2.1,y.1.2.2.2.2.2.2.2.2.2.2.1)) (fun _=>rfl)
theorem Zm4(k:Nat)(b1_1:Int)(b1_2:Int)(o2:List Int)(b3_0:Int)(b3_1:Int)(o4:List (Int×Int))(o5:List Int)(o6:List Int)(b7_0:Int)(b7_1:Int)(o8:List (Int×Int))(o9:List Int)(o10:List Int):Z4l k b1_1 b1_2 o2 b3_0 b3_1 o4 o5 o6 b7_0 b7_1 o8 o9 o10=repl 3 (Z1K k b1_1 b1_2 o2 b3_0 b3_1 o4 o5 o6 b7_0 b7_1 o8 o9 o10):=by
 first
 |(simp only[Z4l,Z1K,Z9,Zc,Z6,Z8,Z7,Z3,if_true];done)
 |(simp only[Z4l,Z1K,Z9,Zc,Z6,Z8,Z7,Z3,if_true];simp only[Z1g,Z1i,Z2p,Z3];simp only[Z3E];exact Z1F ⟨fun h=>by simp only[h,and_self],fun h=>by simp only[h,and_self]⟩)
noncomputable def Z28:Nat→Int→Int→List Int→Int→Int→List (Int×Int)→List Int→List Int→Int→Int→List (Int×Int)→List Int→List Int→Int→Option (Int×Int×List Int×Int×Int×List (Int×Int)×List Int×List Int×Int×Int×List (Int×Int)×List Int×List Int)
 |0,_,_,_,_,_,_,_,_,_,_,_,_,_,_=>none
 |k+1,b1_1,b1_2,o2,b3_0,b3_1,o4,o5,o6,b7_0,b7_1,o8,o9,o10,v4=>
  if decide ((↑(List.length o9):Int)<v4)=true then if List.length o9+List.length [(0:Int)]≤(140737488355328/8:Nat) then if List.length o10+List.length [(0:Int)]≤(140737488355328/8:Nat) then Z28 k b1_1 b1_2 o2 b3_0 b3_1 o4 o5 o6 b7_0 b7_1 o8 (o9++[(0:Int)]) (o10++[(0:Int)]) v4 else none else none else some (b1_1,b1_2,o2,b3_0,b3_1,o4,o5,o6,b7_0,b7_1,o8,o9,o10)
noncomputable def Z8F:Spec:=Spec.mk [.ro,O3,Oc,O9,O0,O1,O1,O8,O0,O1,O1] [(2,.at (.ptr 3 0)),(3,.at (.ptr 7 0)),(4,.at (.int .i64))]
noncomputable def Zom:Spec:=Spec.mk [.ro,O3,Oc,O9,O0,O1,O1,O8,O0,O1,O1] [(2,.at (.ptr 3 0)),(3,.at (.ptr 7 0))]
noncomputable def Z1X:LoopDef (Tup ZP×OutD):= .plain Z8F Zom (Int×Int×List Int×Int×Int×List (Int×Int)×List Int×List Int×Int×Int×List (Int×Int)×List Int×List Int) (fun k x=>Z28 k x.1.2.1.2.1 x.1.2.1.2.2.1 x.1.2.2.1 x.1.2.2.2.1.1 x.1.2.2.2.1.2.1 x.1.2.2.2.2.1 x.1.2.2.2.2.2.1 x.1.2.2.2.2.2.2.1 x.1.2.2.2.2.2.2.2.1.1 x.1.2.2.2.2.2.2.2.1.2.1 x.1.2.2.2.2.2.2.2.2.1 x.1.2.2.2.2.2.2.2.2.2.1 x.1.2.2.2.2.2.2.2.2.2.2.1 x.2.2.2.1) (fun z=>(((),((),z.1,z.2.1,()),z.2.2.1,(z.2.2.2.1,z.2.2.2.2.1,(),(),(),()),z.2.2.2.2.2.1,z.2.2.2.2.2.2.1,z.2.2.2.2.2.2.2.1,(z.2.2.2.2.2.2.2.2.1,z.2.2.2.2.2.2.2.2.2.1,(),(),(),()),z.2.2.2.2.2.2.2.2.2.2.1,z.2.2.2.2.2.2.2.2.2.2.2.1,z.2.2.2.2.2.2.2.2.2.2.2.2,()),((),(),()))) (fun y=>(y.1.2.1.2.1,y.1.2.1.2.2.1,y.1.2.2.1,y.1.2.2.2.1.1,y.1.2.2.2.1.2.1,y.1.2.2.2.2.1,y.1.2.2.2.2.2.1,y.1.2.2.2.2.2.2.1,y.1.2.2.2.2.2.2.2.1.1,y.1.2.2.2.2.2.2.2.1.2.1,y.1.2.2.2.2.2.2.2.2.1,y.1.2.2.2.2.2.2.2.2.2.1,y.1.2.2.2.2.2.2.2.2.2.2.1)) (fun _=>rfl)
noncomputable def Z2c:Nat→Int→Int→List Int→Int→Int→List (Int×Int)→List Int→List Int→Int→Int→List (Int×Int)→List Int→List Int→Int→Option (Int×Int×List Int×Int×Int×List (Int×Int)×List Int×List Int×Int×Int×List (Int×Int)×List Int×List Int)
 |0,_,_,_,_,_,_,_,_,_,_,_,_,_,_=>none
 |k+1,b1_1,b1_2,o2,b3_0,b3_1,o4,o5,o6,b7_0,b7_1,o8,o9,o10,v5=>
  if decide ((↑(List.length o8):Int)<v5)=true then Option.bind (Zcf k) fun z17=>if (0:Int)≤addS (1:Int) (↑(List.length o8):Int) then if addS (1:Int) (↑(List.length o8):Int)<(↑(List.length z17):Int) then if List.length o8+List.length [(Prod.fst (List.getD z17 (Int.toNat (addS (1:Int) (↑(List.length o8):Int))) ((0:Int),(0:Int))),Prod.snd (List.getD z17 (Int.toNat (addS (1:Int) (↑(List.length o8):Int))) ((0:Int),(0:Int))))]≤(140737488355328/16:Nat) then Z2c k b1_1 b1_2 o2 b3_0 b3_1 o4 o5 o6 b7_0 b7_1 (o8++[(Prod.fst (List.getD z17 (Int.toNat (addS (1:Int) (↑(List.length o8):Int))) ((0:Int),(0:Int))),Prod.snd (List.getD z17 (Int.toNat (addS (1:Int) (↑(List.length o8):Int))) ((0:Int),(0:Int))))]) o9 o10 v5 else none else none else none else some (b1_1,b1_2,o2,b3_0,b3_1,o4,o5,o6,b7_0,b7_1,o8,o9,o10)
noncomputable def Z8M:Spec:=Spec.mk [.ro,O3,Oc,O9,O0,O1,O1,O8,O0,O1,O1] [(2,.at (.ptr 3 0)),(3,.at (.ptr 7 0)),(5,.at (.int .i64))]
noncomputable def Zok:Spec:=Spec.mk [.ro,O3,Oc,O9,O0,O1,O1,O8,O0,O1,O1] [(2,.at (.ptr 3 0)),(3,.at (.ptr 7 0))]
noncomputable def Z1Z:LoopDef (Tup ZP×OutD):= .plain Z8M Zok (Int×Int×List Int×Int×Int×List (Int×Int)×List Int×List Int×Int×Int×List (Int×Int)×List Int×List Int) (fun k x=>Z2c k x.1.2.1.2.1 x.1.2.1.2.2.1 x.1.2.2.1 x.1.2.2.2.1.1 x.1.2.2.2.1.2.1 x.1.2.2.2.2.1 x.1.2.2.2.2.2.1 x.1.2.2.2.2.2.2.1 x.1.2.2.2.2.2.2.2.1.1 x.1.2.2.2.2.2.2.2.1.2.1 x.1.2.2.2.2.2.2.2.2.1 x.1.2.2.2.2.2.2.2.2.2.1 x.1.2.2.2.2.2.2.2.2.2.2.1 x.2.2.2.1) (fun z=>(((),((),z.1,z.2.1,()),z.2.2.1,(z.2.2.2.1,z.2.2.2.2.1,(),(),(),()),z.2.2.2.2.2.1,z.2.2.2.2.2.2.1,z.2.2.2.2.2.2.2.1,(z.2.2.2.2.2.2.2.2.1,z.2.2.2.2.2.2.2.2.2.1,(),(),(),()),z.2.2.2.2.2.2.2.2.2.2.1,z.2.2.2.2.2.2.2.2.2.2.2.1,z.2.2.2.2.2.2.2.2.2.2.2.2,()),((),(),()))) (fun y=>(y.1.2.1.2.1,y.1.2.1.2.2.1,y.1.2.2.1,y.1.2.2.2.1.1,y.1.2.2.2.1.2.1,y.1.2.2.2.2.1,y.1.2.2.2.2.2.1,y.1.2.2.2.2.2.2.1,y.1.2.2.2.2.2.2.2.1.1,y.1.2.2.2.2.2.2.2.1.2.1,y.1.2.2.2.2.2.2.2.2.1,y.1.2.2.2.2.2.2.2.2.2.1,y.1.2.2.2.2.2.2.2.2.2.2.1)) (fun _=>rfl)
noncomputable def Z6X:Nat→List Int×Int×Int→Option ((Int×Int×List (Int×Int)×List Int×List Int)×Int×Int)
 |0,_=>none
 |k+1,p0=>
  Option.bind (Z9x k (p0.1,p0.2.1,p0.2.2)) fun z0=>Option.bind (Z1 k (p0.1,z0.2.1,z0.2.2) (36:Int)) fun z1=>if decide (z1.1=0)=true then Option.bind (Zb k (p0.1,z1.2.1,z1.2.2) [(0:Int),(4:Int),(5:Int)]) fun z2=>some ((z2.1,z0.1.2.1,z0.1.2.2.1,z0.1.2.2.2.1,z0.1.2.2.2.2),z2.2.1,z2.2.2) else if decide (z1.1=1)=true then Option.bind (Zb k (p0.1,z1.2.1,z1.2.2) [(0:Int),(4:Int),(5:Int)]) fun z3=>some ((z0.1.1,z3.1,z0.1.2.2.1,z0.1.2.2.2.1,z0.1.2.2.2.2),z3.2.1,z3.2.2) else if decide (z1.1=2)=true then if (0:Int)<(↑(List.length z0.1.2.2.1):Int) then if List.length z0.1.2.2.1+List.length [(Prod.fst (List.getD z0.1.2.2.1 (Int.toNat (0:Int)) ((0:Int),(0:Int))),Prod.snd (List.getD z0.1.2.2.1 (Int.toNat (0:Int)) ((0:Int),(0:Int))))]≤(140737488355328/16:Nat) then some ((z0.1.1,z0.1.2.1,z0.1.2.2.1++[(Prod.fst (List.getD z0.1.2.2.1 (Int.toNat (0:Int)) ((0:Int),(0:Int))),Prod.snd (List.getD z0.1.2.2.1 (Int.toNat (0:Int)) ((0:Int),(0:Int))))],z0.1.2.2.2.1,z0.1.2.2.2.2),z1.2.1,z1.2.2) else none else none else if decide (z1.1=3)=true then if List.length z0.1.2.2.1+List.length [((0:Int),(0:Int))]≤(140737488355328/16:Nat) then some ((z0.1.1,z0.1.2.1,z0.1.2.2.1++[((0:Int),(0:Int))],z0.1.2.2.2.1,z0.1.2.2.2.2),z1.2.1,z1.2.2) else none else if decide (z1.1=4)=true then some ((z0.1.1,z0.1.2.1,[],z0.1.2.2.2.1,z0.1.2.2.2.2),z1.2.1,z1.2.2) else if decide (z1.1=5)=true then Option.bind (Z1L k z1.2.1 z1.2.2 p0.1 (0:Int) (0:Int) [] [] [] z0.1.1 z0.1.2.1 z0.1.2.2.1 z0.1.2.2.2.1 z0.1.2.2.2.2) fun z8=>some ((z8.2.2.2.2.2.2.2.2.1,z8.2.2.2.2.2.2.2.2.2.1,z8.2.2.2.2.2.2.2.2.2.2.1,z8.2.2.2.2.2.2.2.2.2.2.2.1,z8.2.2.2.2.2.2.2.2.2.2.2.2),z8.1,z8.2.1) else if decide (z1.1=6)=true then Option.bind (Z1K k z1.2.1 z1.2.2 p0.1 (0:Int) (0:Int) [] [] [] z0.1.1 z0.1.2.1 z0.1.2.2.1 z0.1.2.2.2.1 z0.1.2.2.2.2) fun z13=>some ((z13.2.2.2.2.2.2.2.2.1,z13.2.2.2.2.2.2.2.2.2.1,z13.2.2.2.2.2.2.2.2.2.2.1,z13.2.2.2.2.2.2.2.2.2.2.2.1,z13.2.2.2.2.2.2.2.2.2.2.2.2),z13.1,z13.2.1) else if decide (z1.1=7)=true then Option.bind (Z1 k (p0.1,z1.2.1,z1.2.2) (2:Int)) fun z14=>Option.bind (Z28 k z14.2.1 z14.2.2 p0.1 (0:Int) (0:Int) [] [] [] z0.1.1 z0.1.2.1 z0.1.2.2.1 z0.1.2.2.2.1 z0.1.2.2.2.2 (wrap64 ((8:Int)+z14.1))) fun z15=>some ((z15.2.2.2.2.2.2.2.2.1,z15.2.2.2.2.2.2.2.2.2.1,z15.2.2.2.2.2.2.2.2.2.2.1,z15.2.2.2.2.2.2.2.2.2.2.2.1,z15.2.2.2.2.2.2.2.2.2.2.2.2),z15.1,z15.2.1) else if decide (z1.1=8)=true then Option.bind (Z1 k (p0.1,z1.2.1,z1.2.2) (2:Int)) fun z16=>Option.bind (Z2c k z16.2.1 z16.2.2 p0.1 (0:Int) (0:Int) [] [] [] (1:Int) (1:Int) [] [(0:Int)] [(0:Int)] (wrap64 ((6:Int)+z16.1))) fun z18=>some ((z18.2.2.2.2.2.2.2.2.1,z18.2.2.2.2.2.2.2.2.2.1,z18.2.2.2.2.2.2.2.2.2.2.1,z18.2.2.2.2.2.2.2.2.2.2.2.1,z18.2.2.2.2.2.2.2.2.2.2.2.2),z18.1,z18.2.1) else if decide (z1.1=9)=true then Option.bind (ZK k (p0.1,z1.2.1,z1.2.2) (2:Int)) fun z19=>if z19.1=true then some (((2:Int),(4:Int),[((3:Int),(0:Int)),((2:Int),(0:Int))]++[((1:Int),(0:Int))],[(0:Int),(1:Int)],[(1:Int),(1:Int)]),z19.2.1,z19.2.2) else some (((2:Int),(4:Int),[((3:Int),(0:Int)),((2:Int),(0:Int))],[(0:Int),(1:Int)],[(1:Int),(1:Int)]),z19.2.1,z19.2.2) else some ((z0.1.1,z0.1.2.1,z0.1.2.2.1,z0.1.2.2.2.1,z0.1.2.2.2.2),z1.2.1,z1.2.2)
noncomputable def Z1j:FnDef:= .of Zhr ZP ((Int×Int×List (Int×Int)×List Int×List Int)×Int×Int) (fun k x=>Z6X k x.1) ZgD ZaQ Zng
noncomputable def Z1M:Code:=Tryz.f99.body.getD .skip
noncomputable def Zf:Ctx (Tup ZP×OutD):={T:=T,G:=[(119,Z1V.E),(116,Zq.E),(98,Zp.E),(120,Z7d.E),(95,ZU.E)],mvs:=[200104],no:=2,n:=127,res:=resOf T Zhr ZP Tryz.f99.results.toList,loops:=[(1,Z1X.E),(3,Z1Z.E)],regs:=[(14,Z1u.E),(16,Z1y.E)],conds:=[],cuts:=[]}
theorem Z4p(k:Nat):EnvOK Tryz.prog k Zf.G:=(EnvOK.cons (ZvN k) (EnvOK.cons (Z1I k) (EnvOK.cons (Z1S k) (EnvOK.cons (ZEF k) (EnvOK.cons (Z6l k) (EnvOK.nil mixed))))))
noncomputable def Z73:Array Oper:=(findReg 14 Z1M).getD #[]
theorem ZmX(k:Nat)(x:ZdF.D):execD Zf.T Zf.G Zf.mvs k Z73 (Z1u.inp.st Zf.n x) (outK Zf Z1u)=Z4r k x.1.2.1.2.1 x.1.2.1.2.2.1 x.1.2.2.1 x.1.2.2.2.1.1 x.1.2.2.2.1.2.1 x.1.2.2.2.2.1 x.1.2.2.2.2.2.1 x.1.2.2.2.2.2.2.1 x.1.2.2.2.2.2.2.2.1.1 x.1.2.2.2.2.2.2.2.1.2.1 x.1.2.2.2.2.2.2.2.2.1 x.1.2.2.2.2.2.2.2.2.2.1 x.1.2.2.2.2.2.2.2.2.2.2.1:=by kernel_rfl
theorem ZlN(k:Nat):EOK Tryz.prog Zf k Z1u.E (.region 14 Z73 true):=Z4m (D:=Z1u) (m:=3) T_ok (Z4p k) (fun x=>(ZmX k x).trans (Zn3 k x.1.2.1.2.1 x.1.2.1.2.2.1 x.1.2.2.1 x.1.2.2.2.1.1 x.1.2.2.2.1.2.1 x.1.2.2.2.2.1 x.1.2.2.2.2.2.1 x.1.2.2.2.2.2.2.1 x.1.2.2.2.2.2.2.2.1.1 x.1.2.2.2.2.2.2.2.1.2.1 x.1.2.2.2.2.2.2.2.2.1 x.1.2.2.2.2.2.2.2.2.2.1 x.1.2.2.2.2.2.2.2.2.2.2.1))
noncomputable def Z7m:Array Oper:=(findReg 16 Z1M).getD #[]
theorem Znd(k:Nat)(x:ZdJ.D):execD Zf.T Zf.G Zf.mvs k Z7m (Z1y.inp.st Zf.n x) (outK Zf Z1y)=Z4l k x.1.2.1.2.1 x.1.2.1.2.2.1 x.1.2.2.1 x.1.2.2.2.1.1 x.1.2.2.2.1.2.1 x.1.2.2.2.2.1 x.1.2.2.2.2.2.1 x.1.2.2.2.2.2.2.1 x.1.2.2.2.2.2.2.2.1.1 x.1.2.2.2.2.2.2.2.1.2.1 x.1.2.2.2.2.2.2.2.2.1 x.1.2.2.2.2.2.2.2.2.2.1 x.1.2.2.2.2.2.2.2.2.2.2.1:=by kernel_rfl
theorem ZlO(k:Nat):EOK Tryz.prog Zf k Z1y.E (.region 16 Z7m true):=Z4m (D:=Z1y) (m:=3) T_ok (Z4p k) (fun x=>(Znd k x).trans (Zm4 k x.1.2.1.2.1 x.1.2.1.2.2.1 x.1.2.2.1 x.1.2.2.2.1.1 x.1.2.2.2.1.2.1 x.1.2.2.2.2.1 x.1.2.2.2.2.2.1 x.1.2.2.2.2.2.2.1 x.1.2.2.2.2.2.2.2.1.1 x.1.2.2.2.2.2.2.2.1.2.1 x.1.2.2.2.2.2.2.2.2.1 x.1.2.2.2.2.2.2.2.2.2.1 x.1.2.2.2.2.2.2.2.2.2.2.1))
noncomputable def Z5d:Code:=(findLoop 1 Z1M).getD .skip
theorem Zos(k:Nat)(x:Z8F.D):Z1X.lp (k+1) x=loopK Zf Z1X 1 Z5d k x:=by kernel_rfl
theorem Zow(k:Nat):LOK Tryz.prog Zf k Z5d:=LOK.by [] (by kernel_rfl) AllOK.nil
theorem Zo5(x:Z8F.D):Z1X.lp 0 x=none:=by kernel_rfl
theorem Znf(k:Nat):EOK Tryz.prog Zf k Z1X.E (.block 1 (.loop Z5d)):=Zd T_ok Z4p Zo5 Zos Zow k
noncomputable def Z52:Code:=(findLoop 3 Z1M).getD .skip
theorem ZoD(k:Nat)(x:Z8M.D):Z1Z.lp (k+1) x=loopK Zf Z1Z 3 Z52 k x:=by kernel_rfl
theorem ZoE(k:Nat):LOK Tryz.prog Zf k Z52:=LOK.by [] (by kernel_rfl) AllOK.nil
theorem Zo0(x:Z8M.D):Z1Z.lp 0 x=none:=by kernel_rfl
theorem Zne(k:Nat):EOK Tryz.prog Zf k Z1Z.E (.block 3 (.loop Z52)):=Zd T_ok Z4p Zo0 ZoD ZoE k
theorem Zrb(k:Nat)(x:Tup Z1j.ps):Z1j.f (k+1) x=fnK Z1j Zf Z1M k x:=by kernel_rfl
theorem ZqY(x:Tup Z1j.ps):Z1j.f 0 x=none:=by kernel_rfl
theorem ZrB(k:Nat):LOK Tryz.prog Zf k Z1M:=LOK.by [(Z1u.E,.region 14 Z73 true),(Z1y.E,.region 16 Z7m true),(Z1X.E,.block 1 (.loop Z5d)),(Z1Z.E,.block 3 (.loop Z52))] (by kernel_rfl) (AllOK.cons (ZlN k) (AllOK.cons (ZlO k) (AllOK.cons (Znf k) (AllOK.cons (Zne k) AllOK.nil))))
theorem Zr8(k:Nat):SoundAt Tryz.prog k 99 Z1j.E:= @Z5 Tryz.prog Z1j Zf 99 Tryz.f99 Z1M (by kernel_rfl) (by kernel_rfl) (by kernel_rfl) Tryz.func99 (by kernel_rfl) (by kernel_rfl) (by kernel_rfl) T_ok Z4p ZrB ZqY Zrb k
noncomputable def Z4v:List PK:=[PK.mk (.pair I6 (.pair I6 (.slice 76 P6))) true none false none]
noncomputable def Zlv:List PK:=[PK.mk (.pair (.slice 5 (.int .u8)) (.pair I6 (.int .u64))) false none false (some 105)]
noncomputable def ZjZ(r:(Int×Int×List (Int×Int))×Int×Int):Tup Z4v×OutD:=((r.1,()),some ⟨Ty.pair (Ty.slice (5:Nat) (Ty.int .u8)) (Ty.pair (Ty.int .i64) (Ty.int .u64)),[([],r.2)]⟩)
noncomputable def Zee:Tup Z4v×OutD→Option ((Int×Int×List (Int×Int))×Int×Int)
 |(a,some ⟨u,ys⟩)=>if h:u=Ty.pair (Ty.slice (5:Nat) (Ty.int .u8)) (Ty.pair (Ty.int .i64) (Ty.int .u64)) then (match castU h ys with
  |[([],y)]=>some (a.1,y)
  |_=>none) else none
 |_=>none
theorem Zrl: ∀b r,Zee b=some r→ZjZ r=b:=by
 rintro ⟨a,o⟩ r h
 cases o with
 |none=>cases h
 |some s=>
  obtain ⟨u,ys⟩:=s
  simp only[Zee]at h
  split at h
  ·rename_i hu
   subst hu
   match ys,h with
   |[],h=>cases (show (none:Option _)=some r from h)
   |[([],y)],h=>injection (show some _=some r from h) with h;subst h;rfl
   |[(_::_,y)],h=>cases (show (none:Option _)=some r from h)
   |(h1,_)::_::_,h=>cases h1<;>cases (show (none:Option _)=some r from h)
  ·cases h
noncomputable def Z21:Nat→Int→Int→List Int→Int→Int→List (Int×Int)→Int→Int→List (Int×Int)→Option (Int×Int×List Int×Int×Int×List (Int×Int)×Int×Int×List (Int×Int)):=fun k b1_1 b1_2 o2 b3_0 b3_1 o4 b5_0 b5_1 o6=>
  Option.bind (Z1 k (o2,b1_1,b1_2) (↑(List.length o6):Int)) fun z4=>Option.bind (Z1O k (o2,z4.2.1,z4.2.2)) fun z5=>if (0:Int)≤z4.1 then if z4.1<(↑(List.length o6):Int) then some (z5.2.1,z5.2.2,o2,b3_0,b3_1,o4,b5_0,b5_1,List.set o6 (Int.toNat z4.1) (z5.1.1,z5.1.2)) else none else none
noncomputable def Z6T:Nat→Int→Int→List Int→Int→Int→List (Int×Int)→Int→Int→List (Int×Int)→Option (List (Int×Int×List Int×Int×Int×List (Int×Int)×Int×Int×List (Int×Int))):=fun k b1_1 b1_2 o2 b3_0 b3_1 o4 b5_0 b5_1 o6=>
  joinL (Option.bind (Z1 k (o2,b1_1,b1_2) (↑(List.length o6):Int)) fun z6=>Option.bind (Z1O k (o2,z6.2.1,z6.2.2)) fun z7=>if (0:Int)≤z6.1 then if z6.1<(↑(List.length o6):Int) then some [(z7.2.1,z7.2.2,o2,b3_0,b3_1,o4,b5_0,b5_1,List.set o6 (Int.toNat z6.1) (z7.1.1,z7.1.2))] else none else none) (Option.bind (Z1 k (o2,b1_1,b1_2) (↑(List.length o6):Int)) fun z8=>joinL (Option.bind (Z1O k (o2,z8.2.1,z8.2.2)) fun z9=>if (0:Int)≤z8.1 then if z8.1<(↑(List.length o6):Int) then some [(z9.2.1,z9.2.2,o2,b3_0,b3_1,o4,b5_0,b5_1,List.set o6 (Int.toNat z8.1) (z9.1.1,z9.1.2))] else none else none) (Option.bind (Z1O k (o2,z8.2.1,z8.2.2)) fun z10=>if (0:Int)≤z8.1 then if z8.1<(↑(List.length o6):Int) then some [(z10.2.1,z10.2.2,o2,b3_0,b3_1,o4,b5_0,b5_1,List.set o6 (Int.toNat z8.1) (z10.1.1,z10.1.2))] else none else none))
noncomputable def Zhd:Spec:=Spec.mk [.ro,O3,Oc,O6,O0,O7,O0] [(0,.at (.ptr 1 0)),(2,.at (.ptr 3 0)),(3,.at (.ptr 5 0))]
noncomputable def Zrs:Spec:=Spec.mk [.ro,O3,Oc,O6,O0,O7,O0] [(2,.at (.ptr 3 0)),(3,.at (.ptr 5 0))]
noncomputable def Z2N:LoopDef (Tup Z4v×OutD):= .plain Zhd Zrs (Int×Int×List Int×Int×Int×List (Int×Int)×Int×Int×List (Int×Int)) (fun k x=>Z21 k x.1.2.1.2.1 x.1.2.1.2.2.1 x.1.2.2.1 x.1.2.2.2.1.1 x.1.2.2.2.1.2.1 x.1.2.2.2.2.1 x.1.2.2.2.2.2.1.1 x.1.2.2.2.2.2.1.2.1 x.1.2.2.2.2.2.2.1) (fun z=>(((),((),z.1,z.2.1,()),z.2.2.1,(z.2.2.2.1,z.2.2.2.2.1,(),()),z.2.2.2.2.2.1,(z.2.2.2.2.2.2.1,z.2.2.2.2.2.2.2.1,(),()),z.2.2.2.2.2.2.2.2,()),((),(),()))) (fun y=>(y.1.2.1.2.1,y.1.2.1.2.2.1,y.1.2.2.1,y.1.2.2.2.1.1,y.1.2.2.2.1.2.1,y.1.2.2.2.2.1,y.1.2.2.2.2.2.1.1,y.1.2.2.2.2.2.1.2.1,y.1.2.2.2.2.2.2.1)) (fun _=>rfl)
theorem Zrd(k:Nat)(b1_1:Int)(b1_2:Int)(o2:List Int)(b3_0:Int)(b3_1:Int)(o4:List (Int×Int))(b5_0:Int)(b5_1:Int)(o6:List (Int×Int)):Z6T k b1_1 b1_2 o2 b3_0 b3_1 o4 b5_0 b5_1 o6=repl 3 (Z21 k b1_1 b1_2 o2 b3_0 b3_1 o4 b5_0 b5_1 o6):=by
 first
 |(simp only[Z6T,Z21,Z9,Zc,Z6,Z8,Z7,Z3,if_true];done)
 |(simp only[Z6T,Z21,Z9,Zc,Z6,Z8,Z7,Z3,if_true];simp only[Z1g,Z1i,Z2p,Z3];simp only[Z3E];exact Z1F ⟨fun h=>by simp only[h,and_self],fun h=>by simp only[h,and_self]⟩)
noncomputable def ZM:Nat→List Int×Int×Int→Option ((Int×Int×List (Int×Int))×Int×Int)
 |0,_=>none
 |k+1,p0=>
  Option.bind (Za4 k (p0.1,p0.2.1,p0.2.2)) fun z0=>Option.bind (Z1 k (p0.1,z0.2.1,z0.2.2) (36:Int)) fun z1=>if decide (z1.1=0)=true then Option.bind (Zb k (p0.1,z1.2.1,z1.2.2) [(0:Int),wrap64 (z0.1.1+1),(10:Int),(11:Int)]) fun z2=>some ((z2.1,z0.1.2.1,z0.1.2.2),z2.2.1,z2.2.2) else if decide (z1.1=1)=true then Option.bind (Zb k (p0.1,z1.2.1,z1.2.2) [(0:Int),wrap64 (z0.1.2.1+1),(9:Int),(10:Int)]) fun z3=>some ((z0.1.1,z3.1,z0.1.2.2),z3.2.1,z3.2.2) else if decide (z1.1=2)=true then Option.bind (Z21 k z1.2.1 z1.2.2 p0.1 (0:Int) (0:Int) [] z0.1.1 z0.1.2.1 z0.1.2.2) fun z11=>some ((z11.2.2.2.2.2.2.1,z11.2.2.2.2.2.2.2.1,z11.2.2.2.2.2.2.2.2),z11.1,z11.2.1) else if decide (z1.1=3)=true then if (1:Int)≤(↑(List.length z0.1.2.2):Int) then if (↑(List.length z0.1.2.2):Int)≤(↑(List.length z0.1.2.2):Int) then some ((z0.1.1,z0.1.2.1,List.drop (Int.toNat (1:Int)) z0.1.2.2),z1.2.1,z1.2.2) else none else none else if decide (z1.1=4)=true then some (((11:Int),(2:Int),List.replicate (Int.toNat (22:Int)) ((0:Int),(0:Int))),z1.2.1,z1.2.2) else if decide (z1.1=5)=true then some (((2:Int),(10:Int),List.replicate (Int.toNat (20:Int)) ((0:Int),(0:Int))),z1.2.1,z1.2.2) else some ((z0.1.1,z0.1.2.1,z0.1.2.2),z1.2.1,z1.2.2)
noncomputable def Z2h:FnDef:= .of Zlv Z4v ((Int×Int×List (Int×Int))×Int×Int) (fun k x=>ZM k x.1) ZjZ Zee Zrl
noncomputable def Zah:Code:=Tryz.f122.body.getD .skip
noncomputable def Z1c:Ctx (Tup Z4v×OutD):={T:=T,G:=[(131,Z3u.E),(116,Zq.E),(98,Zp.E),(132,Z2C.E)],mvs:=[42],no:=2,n:=53,res:=resOf T Zlv Z4v Tryz.f122.results.toList,loops:=[],regs:=[(8,Z2N.E)],conds:=[],cuts:=[]}
theorem ZlH(k:Nat):EnvOK Tryz.prog k Z1c.G:=(EnvOK.cons (ZFn k) (EnvOK.cons (Z1I k) (EnvOK.cons (Z1S k) (EnvOK.cons (ZAT k) (EnvOK.nil mixed)))))
noncomputable def Zbi:Array Oper:=(findReg 8 Zah).getD #[]
theorem Zr6(k:Nat)(x:Zhd.D):execD Z1c.T Z1c.G Z1c.mvs k Zbi (Z2N.inp.st Z1c.n x) (outK Z1c Z2N)=Z6T k x.1.2.1.2.1 x.1.2.1.2.2.1 x.1.2.2.1 x.1.2.2.2.1.1 x.1.2.2.2.1.2.1 x.1.2.2.2.2.1 x.1.2.2.2.2.2.1.1 x.1.2.2.2.2.2.1.2.1 x.1.2.2.2.2.2.2.1:=by kernel_rfl
theorem ZpS(k:Nat):EOK Tryz.prog Z1c k Z2N.E (.region 8 Zbi true):=Z4m (D:=Z2N) (m:=3) T_ok (ZlH k) (fun x=>(Zr6 k x).trans (Zrd k x.1.2.1.2.1 x.1.2.1.2.2.1 x.1.2.2.1 x.1.2.2.2.1.1 x.1.2.2.2.1.2.1 x.1.2.2.2.2.1 x.1.2.2.2.2.2.1.1 x.1.2.2.2.2.2.1.2.1 x.1.2.2.2.2.2.2.1))
theorem ZyX(k:Nat)(x:Tup Z2h.ps):Z2h.f (k+1) x=fnK Z2h Z1c Zah k x:=by kernel_rfl
theorem Zyg(x:Tup Z2h.ps):Z2h.f 0 x=none:=by kernel_rfl
theorem Zyn(k:Nat):LOK Tryz.prog Z1c k Zah:=LOK.by [(Z2N.E,.region 8 Zbi true)] (by kernel_rfl) (AllOK.cons (ZpS k) AllOK.nil)
theorem Zzv(k:Nat):SoundAt Tryz.prog k 122 Z2h.E:= @Z5 Tryz.prog Z2h Z1c 122 Tryz.f122 Zah (by kernel_rfl) (by kernel_rfl) (by kernel_rfl) Tryz.func122 (by kernel_rfl) (by kernel_rfl) (by kernel_rfl) T_ok ZlH Zyn Zyg ZyX k
end
end Go.Proofs.YtmhfhiofcoggbaaGreat.Vs
