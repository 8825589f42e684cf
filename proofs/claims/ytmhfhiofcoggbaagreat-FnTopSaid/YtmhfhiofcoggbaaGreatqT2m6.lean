/- The proof, part 7. -/
import Derived.Test.YtmhfhiofcoggbaaGreatqT2m5
set_option maxRecDepth 100000
set_option maxHeartbeats 2000000
set_option linter.unusedVariables false
set_option linter.unusedSimpArgs false
namespace Go.Proofs.YtmhfhiofcoggbaaGreat.Vs
open Go.RowKit
noncomputable section
noncomputable def Z8j:List PK:=[PK.mk (.pair I6 (.pair I6 (.slice 76 P6))) true none false none,PK.mk I6 false none false none,PK.mk .bool false none false none]
noncomputable def ZnQ:List PK:=[PK.mk (.pair I6 (.slice 3 I6)) true none false none]
noncomputable def Zmb(r:(Int×Int×List (Int×Int))×Int×Bool):Tup Z8j×OutD:=((r.1,r.2.1,r.2.2,()),none)
noncomputable def Zn7:Tup Z8j×OutD→Option ((Int×Int×List (Int×Int))×Int×Bool)
 |(a,none)=>some (a.1,a.2.1,a.2.2.1)
 |_=>none
theorem ZtK: ∀b r,Zn7 b=some r→Zmb r=b:=by
 rintro ⟨a,_|_⟩ r h<;>cases h;rfl
noncomputable def ZcI:Nat→Int×List Int→Option ((Int×Int×List (Int×Int))×Int×Bool)
 |0,_=>none
 |k+1,p0=>
  Option.bind (Zf1 k (p0.1,p0.2)) fun z0=>if (!z0)=true then some (((0:Int),(0:Int),[]),(0:Int),false) else if decide (p0.1>3)=true then some (((0:Int),(0:Int),[]),(0:Int),false) else Option.bind (Z5R k (p0.1,p0.2)) fun z1=>some ((z1.1.1,z1.1.2.1,z1.1.2.2),z1.2.1,true)
noncomputable def Z2V:FnDef:= .of ZnQ Z8j ((Int×Int×List (Int×Int))×Int×Bool) (fun k x=>ZcI k x.1) Zmb Zn7 ZtK
noncomputable def Zh4:Code:=Tryz.f5.body.getD .skip
noncomputable def ZcR:Ctx (Tup Z8j×OutD):={T:=T,G:=[(30,Z5a.E),(31,Z2X.E)],mvs:=[],no:=0,n:=25,res:=resOf T ZnQ Z8j Tryz.f5.results.toList,loops:=[],regs:=[],conds:=[],cuts:=[]}
theorem ZCt(k:Nat):EnvOK Tryz.prog k ZcR.G:=(EnvOK.cons (Zy5 k) (EnvOK.cons (ZDk k) (EnvOK.nil mixed)))
theorem ZCK(k:Nat)(x:Tup Z2V.ps):Z2V.f (k+1) x=fnK Z2V ZcR Zh4 k x:=by kernel_rfl
theorem ZDG(x:Tup Z2V.ps):Z2V.f 0 x=none:=by kernel_rfl
theorem ZD6(k:Nat):LOK Tryz.prog ZcR k Zh4:=LOK.by [] (by kernel_rfl) AllOK.nil
theorem ZCT(k:Nat):SoundAt Tryz.prog k 5 Z2V.E:= @Z5 Tryz.prog Z2V ZcR 5 Tryz.f5 Zh4 (by kernel_rfl) (by kernel_rfl) (by kernel_rfl) Tryz.func5 (by kernel_rfl) (by kernel_rfl) (by kernel_rfl) T_ok ZCt ZD6 ZDG ZCK k
noncomputable def ZeT:List PK:=[PK.mk (.pair I6 (.pair I6 (.slice 76 P6))) true none false none]
noncomputable def Zxq:List PK:=[PK.mk (.pair I6 (.slice 3 I6)) true none false none]
noncomputable def Zvn(r:Int×Int×List (Int×Int)):Tup ZeT×OutD:=((r,()),none)
noncomputable def ZuQ:Tup ZeT×OutD→Option (Int×Int×List (Int×Int))
 |(a,none)=>some (a.1)
 |_=>none
theorem ZED: ∀b r,ZuQ b=some r→Zvn r=b:=by
 rintro ⟨a,_|_⟩ r h<;>cases h;rfl
noncomputable def Zfe:Nat→Int×List Int→Option (Int×Int×List (Int×Int))
 |0,_=>none
 |k+1,p0=>
  Option.bind (PDef.f Z68 k ((p0.1,p0.2),())) fun z0=>some (z0.2.2.2.1,(↑(List.length p0.2):Int),z0.2.2.1)
noncomputable def Z6u:FnDef:= .of Zxq ZeT (Int×Int×List (Int×Int)) (fun k x=>Zfe k x.1) Zvn ZuQ ZED
noncomputable def Zoo:Code:=Tryz.f33.body.getD .skip
noncomputable def Ziy:Ctx (Tup ZeT×OutD):={T:=T,G:=[(66,cloE Z68.E)],mvs:=[],no:=0,n:=18,res:=resOf T Zxq ZeT Tryz.f33.results.toList,loops:=[],regs:=[],conds:=[],cuts:=[]}
theorem ZO7(k:Nat):EnvOK Tryz.prog k Ziy.G:=(EnvOK.consC (ZQm k) (EnvOK.nil mixed))
theorem ZOk(k:Nat)(x:Tup Z6u.ps):Z6u.f (k+1) x=fnK Z6u Ziy Zoo k x:=by kernel_rfl
theorem ZOU(x:Tup Z6u.ps):Z6u.f 0 x=none:=by kernel_rfl
theorem ZOF(k:Nat):LOK Tryz.prog Ziy k Zoo:=LOK.by [] (by kernel_rfl) AllOK.nil
theorem ZNp(k:Nat):SoundAt Tryz.prog k 33 Z6u.E:= @Z5 Tryz.prog Z6u Ziy 33 Tryz.f33 Zoo (by kernel_rfl) (by kernel_rfl) (by kernel_rfl) Tryz.func33 (by kernel_rfl) (by kernel_rfl) (by kernel_rfl) T_ok ZO7 ZOF ZOU ZOk k
noncomputable def Zf0:List PK:=[PK.mk .bool false none false none]
noncomputable def Zyj:List PK:=[PK.mk (.pair I6 (.pair I6 (.slice 76 P6))) true none false none]
noncomputable def ZuD(r:Bool):Tup Zf0×OutD:=((r,()),none)
noncomputable def ZuY:Tup Zf0×OutD→Option (Bool)
 |(a,none)=>some (a.1)
 |_=>none
theorem ZF7: ∀b r,ZuY b=some r→ZuD r=b:=by
 rintro ⟨a,_|_⟩ r h<;>cases h;rfl
noncomputable def Z3U:Nat→Int×Int×List (Int×Int)→Option Bool
 |0,_=>none
 |k+1,p0=>
  if decide (p0.1≥1)=true then if decide (p0.1≤10)=true then if decide (p0.2.1≥1)=true then if decide (p0.2.1≤9)=true then if decide ((↑(List.length p0.2.2):Int)=wrap64 (p0.1*p0.2.1))=true then Option.bind (ZeH k p0.2.2) fun z0=>some z0 else some false else some false else some false else some false else some false
noncomputable def Z1A:FnDef:= .of Zyj Zf0 (Bool) (fun k x=>Z3U k x.1) ZuD ZuY ZF7
noncomputable def Zot:Code:=Tryz.f38.body.getD .skip
noncomputable def Zj5:Ctx (Tup Zf0×OutD):={T:=T,G:=[(69,Z4d.E)],mvs:=[],no:=0,n:=37,res:=resOf T Zyj Zf0 Tryz.f38.results.toList,loops:=[],regs:=[],conds:=[],cuts:=[]}
theorem ZNw(k:Nat):EnvOK Tryz.prog k Zj5.G:=(EnvOK.cons (ZGQ k) (EnvOK.nil mixed))
theorem ZNf(k:Nat)(x:Tup Z1A.ps):Z1A.f (k+1) x=fnK Z1A Zj5 Zot k x:=by kernel_rfl
theorem ZP1(x:Tup Z1A.ps):Z1A.f 0 x=none:=by kernel_rfl
theorem ZOt(k:Nat):LOK Tryz.prog Zj5 k Zot:=LOK.by [] (by kernel_rfl) AllOK.nil
theorem Z90(k:Nat):SoundAt Tryz.prog k 38 Z1A.E:= @Z5 Tryz.prog Z1A Zj5 38 Tryz.f38 Zot (by kernel_rfl) (by kernel_rfl) (by kernel_rfl) Tryz.func38 (by kernel_rfl) (by kernel_rfl) (by kernel_rfl) T_ok ZNw ZOt ZP1 ZNf k
noncomputable def ZgT:List PK:=[PK.mk T6 true none false none,PK.mk (.slice 3 I6) false none false none]
noncomputable def ZJ8:List PK:=[PK.mk (.pair I6 (.pair I6 (.slice 76 P6))) true (some (2,76,.pair I6 I6)) false none,PK.mk (.slice 3 I6) false none false none,PK.mk I6 false none false none]
noncomputable def Zsu(r:(Int×Int×Int)×List Int×List (Int×Int)):Tup ZgT×OutD:=((r.1,r.2.1,()),some ⟨Ty.pair (Ty.int .i64) (Ty.int .i64),r.2.2⟩)
noncomputable def Zmi:Tup ZgT×OutD→Option ((Int×Int×Int)×List Int×List (Int×Int))
 |(a,some ⟨u,ys⟩)=>if h:u=Ty.pair (Ty.int .i64) (Ty.int .i64) then some (a.1,a.2.1,castU h ys) else none
 |_=>none
theorem ZvA: ∀b r,Zmi b=some r→Zsu r=b:=by
 rintro ⟨a,o⟩ r h
 cases o with
 |none=>cases h
 |some s=>
  obtain ⟨u,ys⟩:=s
  simp only[Zmi]at h
  split at h
  ·rename_i hu;subst hu;injection h with h;subst h;rfl
  ·cases h
noncomputable def Z3L:Nat→List (Int×Int)→Int→Int→Int→Int→Int→List Int→List Int→Int→Int→Int→Option (LR (List (Int×Int)×Int×Int×Int×Int×Int×List Int×Int) ((Int×Int×Int)×List Int×List (Int×Int)))
 |0,_,_,_,_,_,_,_,_,_,_,_=>none
 |k+1,o1,b2_0,b2_1,b3_0,b3_1,b3_2,o4,v1,v2,v9,v10=>
  if decide (v10<b2_0)=true then if List.length o4+List.length [wrap64 (wrap64 (v10*b2_1)+v2)]≤(140737488355328/8:Nat) then if (0:Int)≤wrap64 (wrap64 (v10*b2_1)+v2) then if wrap64 (wrap64 (v10*b2_1)+v2)<(↑(List.length o1):Int) then Option.bind (Zgw k (Prod.fst (List.getD o1 (Int.toNat (wrap64 (wrap64 (v10*b2_1)+v2))) ((0:Int),(0:Int))),Prod.snd (List.getD o1 (Int.toNat (wrap64 (wrap64 (v10*b2_1)+v2))) ((0:Int),(0:Int)))) v9) fun z0=>if (!z0.2)=true then some (LR.ret (((2:Int),v10,v2),o4++[wrap64 (wrap64 (v10*b2_1)+v2)],o1)) else if decide (Prod.fst (List.getD o1 (Int.toNat (wrap64 (wrap64 (v10*b2_1)+v2))) ((0:Int),(0:Int)))=3)=true then if (0:Int)≤wrap64 (wrap64 (v10*b2_1)+v2) then if wrap64 (wrap64 (v10*b2_1)+v2)<(↑(List.length o1):Int) then if decide (Prod.fst (List.getD o1 (Int.toNat (wrap64 (wrap64 (v10*b2_1)+v2))) ((0:Int),(0:Int)))=6)=true then Option.bind (Zc9 k (b2_0,b2_1,List.set o1 (Int.toNat (wrap64 (wrap64 (v10*b2_1)+v2))) (Prod.fst (List.getD o1 (Int.toNat (wrap64 (wrap64 (v10*b2_1)+v2))) ((0:Int),(0:Int))),wrap64 ((1:Int)-Prod.snd (List.getD o1 (Int.toNat (wrap64 (wrap64 (v10*b2_1)+v2))) ((0:Int),(0:Int)))))) v1 (wrap64 (wrap64 (v10*b2_1)+v2))) fun z1=>if decide (wrap64 (v2+z0.1)<0)=true then some (LR.ret (((3:Int),v10,wrap64 (v2+z0.1)),o4++[wrap64 (wrap64 (v10*b2_1)+v2)],z1)) else if decide (wrap64 (v2+z0.1)≥b2_1)=true then some (LR.ret (((3:Int),v10,wrap64 (v2+z0.1)),o4++[wrap64 (wrap64 (v10*b2_1)+v2)],z1)) else Z3L k z1 b2_0 b2_1 b3_0 b3_1 b3_2 (o4++[wrap64 (wrap64 (v10*b2_1)+v2)]) v1 (wrap64 (v2+z0.1)) (wrap64 ((0:Int)-z0.1)) (wrap64 (v10+1)) else if decide (wrap64 (v2+z0.1)<0)=true then some (LR.ret (((3:Int),v10,wrap64 (v2+z0.1)),o4++[wrap64 (wrap64 (v10*b2_1)+v2)],List.set o1 (Int.toNat (wrap64 (wrap64 (v10*b2_1)+v2))) (Prod.fst (List.getD o1 (Int.toNat (wrap64 (wrap64 (v10*b2_1)+v2))) ((0:Int),(0:Int))),wrap64 ((1:Int)-Prod.snd (List.getD o1 (Int.toNat (wrap64 (wrap64 (v10*b2_1)+v2))) ((0:Int),(0:Int))))))) else if decide (wrap64 (v2+z0.1)≥b2_1)=true then some (LR.ret (((3:Int),v10,wrap64 (v2+z0.1)),o4++[wrap64 (wrap64 (v10*b2_1)+v2)],List.set o1 (Int.toNat (wrap64 (wrap64 (v10*b2_1)+v2))) (Prod.fst (List.getD o1 (Int.toNat (wrap64 (wrap64 (v10*b2_1)+v2))) ((0:Int),(0:Int))),wrap64 ((1:Int)-Prod.snd (List.getD o1 (Int.toNat (wrap64 (wrap64 (v10*b2_1)+v2))) ((0:Int),(0:Int))))))) else Z3L k (List.set o1 (Int.toNat (wrap64 (wrap64 (v10*b2_1)+v2))) (Prod.fst (List.getD o1 (Int.toNat (wrap64 (wrap64 (v10*b2_1)+v2))) ((0:Int),(0:Int))),wrap64 ((1:Int)-Prod.snd (List.getD o1 (Int.toNat (wrap64 (wrap64 (v10*b2_1)+v2))) ((0:Int),(0:Int)))))) b2_0 b2_1 b3_0 b3_1 b3_2 (o4++[wrap64 (wrap64 (v10*b2_1)+v2)]) v1 (wrap64 (v2+z0.1)) (wrap64 ((0:Int)-z0.1)) (wrap64 (v10+1)) else none else none else if decide (Prod.fst (List.getD o1 (Int.toNat (wrap64 (wrap64 (v10*b2_1)+v2))) ((0:Int),(0:Int)))=6)=true then Option.bind (Zc9 k (b2_0,b2_1,o1) v1 (wrap64 (wrap64 (v10*b2_1)+v2))) fun z2=>if decide (wrap64 (v2+z0.1)<0)=true then some (LR.ret (((3:Int),v10,wrap64 (v2+z0.1)),o4++[wrap64 (wrap64 (v10*b2_1)+v2)],z2)) else if decide (wrap64 (v2+z0.1)≥b2_1)=true then some (LR.ret (((3:Int),v10,wrap64 (v2+z0.1)),o4++[wrap64 (wrap64 (v10*b2_1)+v2)],z2)) else Z3L k z2 b2_0 b2_1 b3_0 b3_1 b3_2 (o4++[wrap64 (wrap64 (v10*b2_1)+v2)]) v1 (wrap64 (v2+z0.1)) (wrap64 ((0:Int)-z0.1)) (wrap64 (v10+1)) else if decide (wrap64 (v2+z0.1)<0)=true then some (LR.ret (((3:Int),v10,wrap64 (v2+z0.1)),o4++[wrap64 (wrap64 (v10*b2_1)+v2)],o1)) else if decide (wrap64 (v2+z0.1)≥b2_1)=true then some (LR.ret (((3:Int),v10,wrap64 (v2+z0.1)),o4++[wrap64 (wrap64 (v10*b2_1)+v2)],o1)) else Z3L k o1 b2_0 b2_1 b3_0 b3_1 b3_2 (o4++[wrap64 (wrap64 (v10*b2_1)+v2)]) v1 (wrap64 (v2+z0.1)) (wrap64 ((0:Int)-z0.1)) (wrap64 (v10+1)) else none else none else none else some (LR.go (o1,b2_0,b2_1,b3_0,b3_1,b3_2,o4,v2))
noncomputable def Zo8:Spec:=Spec.mk [.ro,Oi,Of,O5,O1] [(1,.at (.snap 0 I6)),(2,.at (.int .i64)),(3,.at (.ptr 2 0)),(6,.at (.ptr 3 0)),(8,.at (.sl 4)),(9,.at (.int .i64)),(10,.at (.int .i64))]
noncomputable def ZOe:Spec:=Spec.mk [.ro,Oi,Of,O5,O1] [(2,.at (.int .i64)),(3,.at (.ptr 2 0)),(6,.at (.ptr 3 0)),(8,.at (.sl 4))]
noncomputable def ZbO:LoopDef (Tup ZgT×OutD):= .rets Zo8 ZOe (List (Int×Int)×Int×Int×Int×Int×Int×List Int×Int) ((Int×Int×Int)×List Int×List (Int×Int)) (fun k x=>Z3L k x.1.2.1 x.1.2.2.1.1 x.1.2.2.1.2.1 x.1.2.2.2.1.1 x.1.2.2.2.1.2.1 x.1.2.2.2.1.2.2.1 x.1.2.2.2.2.1 x.2.1 x.2.2.1 x.2.2.2.2.2.2.1 x.2.2.2.2.2.2.2.1) (fun z=>(((),z.1,(z.2.1,z.2.2.1,(),()),(z.2.2.2.1,z.2.2.2.2.1,z.2.2.2.2.2.1,()),z.2.2.2.2.2.2.1,()),(z.2.2.2.2.2.2.2,(),(),(),()))) (fun y=>(y.1.2.1,y.1.2.2.1.1,y.1.2.2.1.2.1,y.1.2.2.2.1.1,y.1.2.2.2.1.2.1,y.1.2.2.2.1.2.2.1,y.1.2.2.2.2.1,y.2.1)) (fun _=>rfl) Zsu Zmi ZvA
noncomputable def Z9Q:Nat→Int×Int×List (Int×Int)→List Int→Int→Option ((Int×Int×Int)×List Int×List (Int×Int))
 |0,_,_,_=>none
 |k+1,p0,p1,p2=>
  Option.bind (Z3L k p0.2.2 p0.1 p0.2.1 (0:Int) (0:Int) (0:Int) [] p1 p2 (0:Int) (0:Int)) fun z3=>LR.on z3 (fun y3=>some (((1:Int),y3.2.1,y3.2.2.2.2.2.2.2),y3.2.2.2.2.2.2.1,y3.1)) fun r3=>some r3
noncomputable def Z9v:FnDef:= .of ZJ8 ZgT ((Int×Int×Int)×List Int×List (Int×Int)) (fun k x=>Z9Q k x.1 x.2.1 x.2.2.1) Zsu Zmi ZvA
noncomputable def ZoP:Code:=Tryz.f40.body.getD .skip
noncomputable def Zeh:Ctx (Tup ZgT×OutD):={T:=T,G:=[(70,Z6e.E),(71,Z4U.E)],mvs:=[],no:=1,n:=89,res:=resOf T ZJ8 ZgT Tryz.f40.results.toList,loops:=[(0,ZbO.E)],regs:=[],conds:=[],cuts:=[]}
theorem ZJ2(k:Nat):EnvOK Tryz.prog k Zeh.G:=(EnvOK.cons (ZB9 k) (EnvOK.cons (ZKC k) (EnvOK.nil mixed)))
noncomputable def Zj4:Code:=(findLoop 0 ZoP).getD .skip
theorem ZNh(k:Nat)(x:Zo8.D):ZbO.lp (k+1) x=loopK Zeh ZbO 0 Zj4 k x:=by kernel_rfl
theorem ZOu(k:Nat):LOK Tryz.prog Zeh k Zj4:=LOK.by [] (by kernel_rfl) AllOK.nil
theorem ZO4(x:Zo8.D):ZbO.lp 0 x=none:=by kernel_rfl
theorem ZN5(k:Nat):EOK Tryz.prog Zeh k ZbO.E (.block 0 (.loop Zj4)):=Zd T_ok ZJ2 ZO4 ZNh ZOu k
theorem ZSY(k:Nat)(x:Tup Z9v.ps):Z9v.f (k+1) x=fnK Z9v Zeh ZoP k x:=by kernel_rfl
theorem ZSU(x:Tup Z9v.ps):Z9v.f 0 x=none:=by kernel_rfl
theorem ZTn(k:Nat):LOK Tryz.prog Zeh k ZoP:=LOK.by [(ZbO.E,.block 0 (.loop Zj4))] (by kernel_rfl) (AllOK.cons (ZN5 k) AllOK.nil)
theorem ZJh(k:Nat):SoundAt Tryz.prog k 40 Z9v.E:= @Z5 Tryz.prog Z9v Zeh 40 Tryz.f40 ZoP (by kernel_rfl) (by kernel_rfl) (by kernel_rfl) Tryz.func40 (by kernel_rfl) (by kernel_rfl) (by kernel_rfl) T_ok ZJ2 ZTn ZSU ZSY k
noncomputable def Z3z:List PK:=[PK.mk .bool false none false none]
noncomputable def ZpF:List PK:=[PK.mk (.pair I6 (.pair I6 (.pair (.slice 76 P6) (.pair (.slice 3 I6) (.slice 3 I6))))) true none false none]
noncomputable def Z8p(r:Bool):Tup Z3z×OutD:=((r,()),none)
noncomputable def Z8t:Tup Z3z×OutD→Option (Bool)
 |(a,none)=>some (a.1)
 |_=>none
theorem Z9B: ∀b r,Z8t b=some r→Z8p r=b:=by
 rintro ⟨a,_|_⟩ r h<;>cases h;rfl
noncomputable def Z5c:Nat→Int→Int→List (Int×Int)→List Int→List Int→List (Int×Int)→Int→Int→Option (LR (Int×Int×List (Int×Int)×List Int×List Int) Bool)
 |0,_,_,_,_,_,_,_,_=>none
 |k+1,b1_0,b1_1,b1_2,b1_3,b1_4,v61,v62,v63=>
  if decide (v63<v62)=true then if (0:Int)≤v63 then if v63<(↑(List.length v61):Int) then Option.bind (ZaT k (Prod.fst (List.getD v61 (Int.toNat v63) ((0:Int),(0:Int))),Prod.snd (List.getD v61 (Int.toNat v63) ((0:Int),(0:Int))))) fun z0=>if (!z0)=true then some (LR.ret false) else if decide (Prod.fst (List.getD v61 (Int.toNat v63) ((0:Int),(0:Int)))=0)=true then some (LR.ret false) else if (0:Int)≤v63 then if v63≤(↑(List.length b1_2):Int) then Option.bind (Z1n k (List.take (Int.toNat v63-Int.toNat (0:Int)) (List.drop (Int.toNat (0:Int)) b1_2)) (Prod.fst (List.getD v61 (Int.toNat v63) ((0:Int),(0:Int))),Prod.snd (List.getD v61 (Int.toNat v63) ((0:Int),(0:Int))))) fun z1=>if z1=true then some (LR.ret false) else Z5c k b1_0 b1_1 b1_2 b1_3 b1_4 v61 v62 (wrap64 (v63+1)) else none else none else none else none else some (LR.go (b1_0,b1_1,b1_2,b1_3,b1_4))
noncomputable def Zf7:Spec:=Spec.mk [.ro,O4] [(1,.at (.ptr 1 0)),(61,.at (.snap 0 P6)),(62,.at (.int .i64)),(63,.at (.int .i64))]
noncomputable def Zz2:Spec:=Spec.mk [.ro,O4] [(1,.at (.ptr 1 0))]
noncomputable def Z4A:LoopDef (Tup Z3z×OutD):= .rets Zf7 Zz2 (Int×Int×List (Int×Int)×List Int×List Int) (Bool) (fun k x=>Z5c k x.1.2.1.1 x.1.2.1.2.1 x.1.2.1.2.2.1 x.1.2.1.2.2.2.1 x.1.2.1.2.2.2.2.1 x.2.2.1 x.2.2.2.1 x.2.2.2.2.1) (fun z=>(((),(z.1,z.2.1,z.2.2.1,z.2.2.2.1,z.2.2.2.2,()),()),((),()))) (fun y=>(y.1.2.1.1,y.1.2.1.2.1,y.1.2.1.2.2.1,y.1.2.1.2.2.2.1,y.1.2.1.2.2.2.2.1)) (fun _=>rfl) Z8p Z8t Z9B
noncomputable def Z5f:Nat→Int→Int→List (Int×Int)→List Int→List Int→List Int→Int→Int→Option (LR (Int×Int×List (Int×Int)×List Int×List Int) Bool)
 |0,_,_,_,_,_,_,_,_=>none
 |k+1,b1_0,b1_1,b1_2,b1_3,b1_4,v86,v87,v88=>
  if decide (v88<v87)=true then if (0:Int)≤v88 then if v88<(↑(List.length v86):Int) then if decide (List.getD v86 (Int.toNat v88) (0:Int)<0)=true then some (LR.ret false) else if decide (List.getD v86 (Int.toNat v88) (0:Int)≥b1_1)=true then some (LR.ret false) else if (0:Int)≤v88 then if v88<(↑(List.length b1_4):Int) then if decide (List.getD b1_4 (Int.toNat v88) (0:Int)<0)=true then some (LR.ret false) else if (0:Int)≤v88 then if v88<(↑(List.length b1_4):Int) then if decide (List.getD b1_4 (Int.toNat v88) (0:Int)>wrap64 (b1_1+1))=true then some (LR.ret false) else Z5f k b1_0 b1_1 b1_2 b1_3 b1_4 v86 v87 (wrap64 (v88+1)) else none else none else none else none else none else none else some (LR.go (b1_0,b1_1,b1_2,b1_3,b1_4))
noncomputable def Zf8:Spec:=Spec.mk [.ro,O4] [(1,.at (.ptr 1 0)),(86,.at (.snap 0 I6)),(87,.at (.int .i64)),(88,.at (.int .i64))]
noncomputable def ZxC:Spec:=Spec.mk [.ro,O4] [(1,.at (.ptr 1 0))]
noncomputable def Z4G:LoopDef (Tup Z3z×OutD):= .rets Zf8 ZxC (Int×Int×List (Int×Int)×List Int×List Int) (Bool) (fun k x=>Z5f k x.1.2.1.1 x.1.2.1.2.1 x.1.2.1.2.2.1 x.1.2.1.2.2.2.1 x.1.2.1.2.2.2.2.1 x.2.2.1 x.2.2.2.1 x.2.2.2.2.1) (fun z=>(((),(z.1,z.2.1,z.2.2.1,z.2.2.2.1,z.2.2.2.2,()),()),((),()))) (fun y=>(y.1.2.1.1,y.1.2.1.2.1,y.1.2.1.2.2.1,y.1.2.1.2.2.2.1,y.1.2.1.2.2.2.2.1)) (fun _=>rfl) Z8p Z8t Z9B
noncomputable def Z5o:Nat→Int→Int→List (Int×Int)→List Int→List Int→Int→Int→Option (LR Unit Bool)
 |0,_,_,_,_,_,_,_=>none
 |k+1,b1_0,b1_1,b1_2,b1_3,b1_4,v7,v8=>
  if decide (v8<wrap64 (b1_0*b1_1))=true then if decide (wrap64 (v7*wrap64 ((↑(List.length b1_2):Int)+1))>7000)=true then some (LR.ret false) else Z5o k b1_0 b1_1 b1_2 b1_3 b1_4 (wrap64 (v7*wrap64 ((↑(List.length b1_2):Int)+1))) (wrap64 (v8+1)) else some (LR.go ())
noncomputable def Zfk:Spec:=Spec.mk [.ro,O4] [(1,.at (.ptr 1 0)),(7,.at (.int .i64)),(8,.at (.int .i64))]
noncomputable def ZyW:Spec:=Spec.mk [.ro] []
noncomputable def Z4E:LoopDef (Tup Z3z×OutD):= .rets Zfk ZyW (Unit) (Bool) (fun k x=>Z5o k x.1.2.1.1 x.1.2.1.2.1 x.1.2.1.2.2.1 x.1.2.1.2.2.2.1 x.1.2.1.2.2.2.2.1 x.2.2.1 x.2.2.2.1) (fun z=>(((),()),(()))) (fun y=>()) (fun _=>rfl) Z8p Z8t Z9B
noncomputable def Z4Q:Nat→Int×Int×List (Int×Int)×List Int×List Int→Option Bool
 |0,_=>none
 |k+1,p0=>
  if decide (p0.1<1)=true then some false else if decide (p0.1>4)=true then some false else if decide (p0.2.1<1)=true then some false else if decide (p0.2.1>4)=true then some false else if decide ((↑(List.length p0.2.2.1):Int)<1)=true then some false else if decide ((↑(List.length p0.2.2.1):Int)>6)=true then some false else if decide ((↑(List.length p0.2.2.2.1):Int)<1)=true then some false else if decide ((↑(List.length p0.2.2.2.1):Int)>8)=true then some false else if decide ((↑(List.length p0.2.2.2.2):Int)≠(↑(List.length p0.2.2.2.1):Int))=true then some false else Option.bind (Z5c k p0.1 p0.2.1 p0.2.2.1 p0.2.2.2.1 p0.2.2.2.2 p0.2.2.1 (↑(List.length p0.2.2.1):Int) (0:Int)) fun z2=>LR.on z2 (fun y2=>Option.bind (Z5f k y2.1 y2.2.1 y2.2.2.1 y2.2.2.2.1 y2.2.2.2.2 y2.2.2.2.1 (↑(List.length y2.2.2.2.1):Int) (0:Int)) fun z3=>LR.on z3 (fun y3=>Option.bind (Z5o k y3.1 y3.2.1 y3.2.2.1 y3.2.2.2.1 y3.2.2.2.2 (1:Int) (0:Int)) fun z4=>LR.on z4 (fun y4=>some true) fun r4=>some r4) fun r3=>some r3) fun r2=>some r2
noncomputable def Z1s:FnDef:= .of ZpF Z3z (Bool) (fun k x=>Z4Q k x.1) Z8p Z8t Z9B
noncomputable def Z6r:Code:=Tryz.f43.body.getD .skip
noncomputable def ZN:Ctx (Tup Z3z×OutD):={T:=T,G:=[(74,Z3O.E),(48,Zm.E)],mvs:=[],no:=0,n:=138,res:=resOf T ZpF Z3z Tryz.f43.results.toList,loops:=[(0,Z4A.E),(2,Z4G.E),(4,Z4E.E)],regs:=[],conds:=[],cuts:=[]}
theorem Zdv(k:Nat):EnvOK Tryz.prog k ZN.G:=(EnvOK.cons (Zkt k) (EnvOK.cons (Z9n k) (EnvOK.nil mixed)))
noncomputable def Zal:Code:=(findLoop 0 Z6r).getD .skip
theorem Zyv(k:Nat)(x:Zf7.D):Z4A.lp (k+1) x=loopK ZN Z4A 0 Zal k x:=by kernel_rfl
theorem Zzb(k:Nat):LOK Tryz.prog ZN k Zal:=LOK.by [] (by kernel_rfl) AllOK.nil
theorem Zym(x:Zf7.D):Z4A.lp 0 x=none:=by kernel_rfl
theorem Zxi(k:Nat):EOK Tryz.prog ZN k Z4A.E (.block 0 (.loop Zal)):=Zd T_ok Zdv Zym Zyv Zzb k
noncomputable def ZaI:Code:=(findLoop 2 Z6r).getD .skip
theorem Zy3(k:Nat)(x:Zf8.D):Z4G.lp (k+1) x=loopK ZN Z4G 2 ZaI k x:=by kernel_rfl
theorem ZxU(k:Nat):LOK Tryz.prog ZN k ZaI:=LOK.by [] (by kernel_rfl) AllOK.nil
theorem Zyl(x:Zf8.D):Z4G.lp 0 x=none:=by kernel_rfl
theorem ZvM(k:Nat):EOK Tryz.prog ZN k Z4G.E (.block 2 (.loop ZaI)):=Zd T_ok Zdv Zyl Zy3 ZxU k
noncomputable def Zaf:Code:=(findLoop 4 Z6r).getD .skip
theorem ZxA(k:Nat)(x:Zfk.D):Z4E.lp (k+1) x=loopK ZN Z4E 4 Zaf k x:=by kernel_rfl
theorem Zxp(k:Nat):LOK Tryz.prog ZN k Zaf:=LOK.by [] (by kernel_rfl) AllOK.nil
theorem ZxO(x:Zfk.D):Z4E.lp 0 x=none:=by kernel_rfl
theorem Zxl(k:Nat):EOK Tryz.prog ZN k Z4E.E (.block 4 (.loop Zaf)):=Zd T_ok Zdv ZxO ZxA Zxp k
theorem ZEm(k:Nat)(x:Tup Z1s.ps):Z1s.f (k+1) x=fnK Z1s ZN Z6r k x:=by kernel_rfl
theorem ZFD(x:Tup Z1s.ps):Z1s.f 0 x=none:=by kernel_rfl
theorem ZGd(k:Nat):LOK Tryz.prog ZN k Z6r:=LOK.by [(Z4A.E,.block 0 (.loop Zal)),(Z4G.E,.block 2 (.loop ZaI)),(Z4E.E,.block 4 (.loop Zaf))] (by kernel_rfl) (AllOK.cons (Zxi k) (AllOK.cons (ZvM k) (AllOK.cons (Zxl k) AllOK.nil)))
theorem ZdO(k:Nat):SoundAt Tryz.prog k 43 Z1s.E:= @Z5 Tryz.prog Z1s ZN 43 Tryz.f43 Z6r (by kernel_rfl) (by kernel_rfl) (by kernel_rfl) Tryz.func43 (by kernel_rfl) (by kernel_rfl) (by kernel_rfl) T_ok Zdv ZGd ZFD ZEm k
noncomputable def ZaV:List PK:=[PK.mk .bool false none false none]
noncomputable def ZBu:List PK:=[PK.mk (.pair I6 (.pair I6 (.pair (.slice 76 P6) (.pair (.slice 3 I6) (.slice 3 I6))))) true none false none]
noncomputable def Zj6(r:Bool):Tup ZaV×OutD:=((r,()),none)
noncomputable def ZiC:Tup ZaV×OutD→Option (Bool)
 |(a,none)=>some (a.1)
 |_=>none
theorem ZjB: ∀b r,ZiC b=some r→Zj6 r=b:=by
 rintro ⟨a,_|_⟩ r h<;>cases h;rfl
noncomputable def Zaa:Nat→Int→Int→List (Int×Int)→List Int→List Int→Int→Int→List (Int×Int)→Int→Int→List (Int×Int)→Int→Int→Option (LR (Int×Int×List (Int×Int)×List Int×List Int×List (Int×Int)×Int×Int) Bool)
 |0,_,_,_,_,_,_,_,_,_,_,_,_,_=>none
 |k+1,b1_0,b1_1,b1_2,b1_3,b1_4,b2_0,b2_1,v8,v9,v10,v26,v27,v28=>
  if decide (v28<v27)=true then if (0:Int)≤v28 then if v28<(↑(List.length v26):Int) then if (decide (b2_0=Prod.fst (List.getD v26 (Int.toNat v28) ((0:Int),(0:Int))))&&(decide (b2_1=Prod.snd (List.getD v26 (Int.toNat v28) ((0:Int),(0:Int))))&&true))=true then some (LR.ret false) else Zaa k b1_0 b1_1 b1_2 b1_3 b1_4 b2_0 b2_1 v8 v9 v10 v26 v27 (wrap64 (v28+1)) else none else none else some (LR.go (b1_0,b1_1,b1_2,b1_3,b1_4,v8,v9,v10))
noncomputable def Zl2:Spec:=Spec.mk [.ro,O4,Ol] [(1,.at (.ptr 1 0)),(4,.at (.ptr 2 0)),(8,.at (.snap 0 P6)),(9,.at (.int .i64)),(10,.at (.int .i64)),(26,.at (.snap 0 P6)),(27,.at (.int .i64)),(28,.at (.int .i64))]
noncomputable def ZJA:Spec:=Spec.mk [.ro,O4] [(1,.at (.ptr 1 0)),(8,.at (.snap 0 P6)),(9,.at (.int .i64)),(10,.at (.int .i64))]
noncomputable def Z9c:LoopDef (Tup ZaV×OutD):= .rets Zl2 ZJA (Int×Int×List (Int×Int)×List Int×List Int×List (Int×Int)×Int×Int) (Bool) (fun k x=>Zaa k x.1.2.1.1 x.1.2.1.2.1 x.1.2.1.2.2.1 x.1.2.1.2.2.2.1 x.1.2.1.2.2.2.2.1 x.1.2.2.1.1 x.1.2.2.1.2.1 x.2.2.2.1 x.2.2.2.2.1 x.2.2.2.2.2.1 x.2.2.2.2.2.2.1 x.2.2.2.2.2.2.2.1 x.2.2.2.2.2.2.2.2.1) (fun z=>(((),(z.1,z.2.1,z.2.2.1,z.2.2.2.1,z.2.2.2.2.1,()),()),((),z.2.2.2.2.2.1,z.2.2.2.2.2.2.1,z.2.2.2.2.2.2.2,()))) (fun y=>(y.1.2.1.1,y.1.2.1.2.1,y.1.2.1.2.2.1,y.1.2.1.2.2.2.1,y.1.2.1.2.2.2.2.1,y.2.2.1,y.2.2.2.1,y.2.2.2.2.1)) (fun _=>rfl) Zj6 ZiC ZjB
noncomputable def ZaH:Nat→Int→Int→List (Int×Int)→List Int→List Int→List (Int×Int)→Int→Int→Option (LR (Int×Int×List (Int×Int)×List Int×List Int) Bool)
 |0,_,_,_,_,_,_,_,_=>none
 |k+1,b1_0,b1_1,b1_2,b1_3,b1_4,v8,v9,v10=>
  if decide (v10<v9)=true then if (0:Int)≤v10 then if v10<(↑(List.length v8):Int) then Option.bind (Zgr k (Prod.fst (List.getD v8 (Int.toNat v10) ((0:Int),(0:Int))),Prod.snd (List.getD v8 (Int.toNat v10) ((0:Int),(0:Int))))) fun z0=>if (!z0)=true then some (LR.ret false) else if decide (Prod.fst (List.getD v8 (Int.toNat v10) ((0:Int),(0:Int)))=0)=true then some (LR.ret false) else if (0:Int)≤v10 then if v10≤(↑(List.length b1_2):Int) then Option.bind (Zaa k b1_0 b1_1 b1_2 b1_3 b1_4 (Prod.fst (List.getD v8 (Int.toNat v10) ((0:Int),(0:Int)))) (Prod.snd (List.getD v8 (Int.toNat v10) ((0:Int),(0:Int)))) v8 v9 v10 (List.take (Int.toNat v10-Int.toNat (0:Int)) (List.drop (Int.toNat (0:Int)) b1_2)) (↑(List.length (List.take (Int.toNat v10-Int.toNat (0:Int)) (List.drop (Int.toNat (0:Int)) b1_2))):Int) (0:Int)) fun z1=>LR.on z1 (fun y1=>ZaH k y1.1 y1.2.1 y1.2.2.1 y1.2.2.2.1 y1.2.2.2.2.1 y1.2.2.2.2.2.1 y1.2.2.2.2.2.2.1 (wrap64 (y1.2.2.2.2.2.2.2+1))) fun r1=>some (LR.ret r1) else none else none else none else none else some (LR.go (b1_0,b1_1,b1_2,b1_3,b1_4))
noncomputable def ZkU:Spec:=Spec.mk [.ro,O4] [(1,.at (.ptr 1 0)),(8,.at (.snap 0 P6)),(9,.at (.int .i64)),(10,.at (.int .i64))]
noncomputable def ZLu:Spec:=Spec.mk [.ro,O4] [(1,.at (.ptr 1 0))]
noncomputable def Z9f:LoopDef (Tup ZaV×OutD):= .rets ZkU ZLu (Int×Int×List (Int×Int)×List Int×List Int) (Bool) (fun k x=>ZaH k x.1.2.1.1 x.1.2.1.2.1 x.1.2.1.2.2.1 x.1.2.1.2.2.2.1 x.1.2.1.2.2.2.2.1 x.2.2.1 x.2.2.2.1 x.2.2.2.2.1) (fun z=>(((),(z.1,z.2.1,z.2.2.1,z.2.2.2.1,z.2.2.2.2,()),()),((),()))) (fun y=>(y.1.2.1.1,y.1.2.1.2.1,y.1.2.1.2.2.1,y.1.2.1.2.2.2.1,y.1.2.1.2.2.2.2.1)) (fun _=>rfl) Zj6 ZiC ZjB
noncomputable def ZgL:Nat→Int×Int×List (Int×Int)×List Int×List Int→Option Bool
 |0,_=>none
 |k+1,p0=>
  Option.bind (ZaH k p0.1 p0.2.1 p0.2.2.1 p0.2.2.2.1 p0.2.2.2.2 p0.2.2.1 (↑(List.length p0.2.2.1):Int) (0:Int)) fun z2=>LR.on z2 (fun y2=>Option.bind (Z1f k y2.1 (1:Int) (4:Int)) fun z3=>if (!z3)=true then some false else Option.bind (Z1f k y2.2.1 (1:Int) (4:Int)) fun z4=>if (!z4)=true then some false else Option.bind (Z1f k (↑(List.length y2.2.2.1):Int) (1:Int) (6:Int)) fun z5=>if (!z5)=true then some false else Option.bind (Z1f k (↑(List.length y2.2.2.2.1):Int) (1:Int) (8:Int)) fun z6=>if (!z6)=true then some false else if decide ((↑(List.length y2.2.2.2.2):Int)≠(↑(List.length y2.2.2.2.1):Int))=true then some false else Option.bind (Zci k y2.2.2.2.1 (0:Int) (wrap64 (y2.2.1-1))) fun z7=>if z7=true then Option.bind (Zci k y2.2.2.2.2 (0:Int) (wrap64 (y2.2.1+1))) fun z8=>if z8=true then Option.bind (Z2s k (y2.1,y2.2.1,y2.2.2.1,y2.2.2.2.1,y2.2.2.2.2)) fun z9=>some (decide (z9≤7000)) else some false else some false) fun r2=>some r2
noncomputable def Z69:FnDef:= .of ZBu ZaV (Bool) (fun k x=>ZgL k x.1) Zj6 ZiC ZjB
noncomputable def ZgA:Code:=Tryz.f45.body.getD .skip
noncomputable def Z4Y:Ctx (Tup ZaV×OutD):={T:=T,G:=[(75,Z6b.E),(76,Z2j.E),(77,Z65.E),(78,Z3Y.E)],mvs:=[],no:=0,n:=89,res:=resOf T ZBu ZaV Tryz.f45.results.toList,loops:=[(2,Z9c.E),(0,Z9f.E)],regs:=[],conds:=[],cuts:=[]}
theorem ZpP(k:Nat):EnvOK Tryz.prog k Z4Y.G:=(EnvOK.cons (ZBO k) (EnvOK.cons (Z9L k) (EnvOK.cons (ZsZ k) (EnvOK.cons (ZoK k) (EnvOK.nil mixed)))))
noncomputable def Zg6:Code:=(findLoop 2 ZgA).getD .skip
theorem ZKi(k:Nat)(x:Zl2.D):Z9c.lp (k+1) x=loopK Z4Y Z9c 2 Zg6 k x:=by kernel_rfl
theorem ZKg(k:Nat):LOK Tryz.prog Z4Y k Zg6:=LOK.by [] (by kernel_rfl) AllOK.nil
theorem ZL3(x:Zl2.D):Z9c.lp 0 x=none:=by kernel_rfl
theorem ZGJ(k:Nat):EOK Tryz.prog Z4Y k Z9c.E (.block 2 (.loop Zg6)):=Zd T_ok ZpP ZL3 ZKi ZKg k
noncomputable def ZfH:Code:=(findLoop 0 ZgA).getD .skip
theorem ZKD(k:Nat)(x:ZkU.D):Z9f.lp (k+1) x=loopK Z4Y Z9f 0 ZfH k x:=by kernel_rfl
theorem ZJE(k:Nat):LOK Tryz.prog Z4Y k ZfH:=LOK.by [(Z9c.E,.block 2 (.loop Zg6))] (by kernel_rfl) (AllOK.cons (ZGJ k) AllOK.nil)
theorem ZJk(x:ZkU.D):Z9f.lp 0 x=none:=by kernel_rfl
theorem ZGO(k:Nat):EOK Tryz.prog Z4Y k Z9f.E (.block 0 (.loop ZfH)):=Zd T_ok ZpP ZJk ZKD ZJE k
theorem ZQR(k:Nat)(x:Tup Z69.ps):Z69.f (k+1) x=fnK Z69 Z4Y ZgA k x:=by kernel_rfl
theorem ZPV(x:Tup Z69.ps):Z69.f 0 x=none:=by kernel_rfl
theorem ZR0(k:Nat):LOK Tryz.prog Z4Y k ZgA:=LOK.by [(Z9f.E,.block 0 (.loop ZfH))] (by kernel_rfl) (AllOK.cons (ZGO k) AllOK.nil)
theorem ZB5(k:Nat):SoundAt Tryz.prog k 45 Z69.E:= @Z5 Tryz.prog Z69 Z4Y 45 Tryz.f45 ZgA (by kernel_rfl) (by kernel_rfl) (by kernel_rfl) Tryz.func45 (by kernel_rfl) (by kernel_rfl) (by kernel_rfl) T_ok ZpP ZR0 ZPV ZQR k
noncomputable def ZgH:List PK:=[PK.mk .bool false none false none]
noncomputable def ZCa:List PK:=[PK.mk (.pair I6 (.slice 3 I6)) true none false none]
noncomputable def Zz1(r:Bool):Tup ZgH×OutD:=((r,()),none)
noncomputable def Zzt:Tup ZgH×OutD→Option (Bool)
 |(a,none)=>some (a.1)
 |_=>none
theorem ZGK: ∀b r,Zzt b=some r→Zz1 r=b:=by
 rintro ⟨a,_|_⟩ r h<;>cases h;rfl
noncomputable def Zkl:Nat→Int×List Int→Option Bool
 |0,_=>none
 |k+1,p0=>
  Option.bind (Zhg k p0.1) fun z0=>if z0=true then if IntKind.wrap IntKind.u64 p0.1<0 then none else if decide ((↑(List.length p0.2):Int)=shlS (1:Int) (IntKind.wrap IntKind.u64 p0.1))=true then Option.bind (Zci k p0.2 (0:Int) (1:Int)) fun z1=>some z1 else some false else some false
noncomputable def Z7Y:FnDef:= .of ZCa ZgH (Bool) (fun k x=>Zkl k x.1) Zz1 Zzt ZGK
noncomputable def Zqd:Code:=Tryz.f65.body.getD .skip
noncomputable def ZkC:Ctx (Tup ZgH×OutD):={T:=T,G:=[(101,Z5K.E),(77,Z65.E)],mvs:=[],no:=0,n:=21,res:=resOf T ZCa ZgH Tryz.f65.results.toList,loops:=[],regs:=[],conds:=[],cuts:=[]}
theorem ZPF(k:Nat):EnvOK Tryz.prog k ZkC.G:=(EnvOK.cons (ZLV k) (EnvOK.cons (ZsZ k) (EnvOK.nil mixed)))
theorem ZPN(k:Nat)(x:Tup Z7Y.ps):Z7Y.f (k+1) x=fnK Z7Y ZkC Zqd k x:=by kernel_rfl
theorem ZQ0(x:Tup Z7Y.ps):Z7Y.f 0 x=none:=by kernel_rfl
theorem ZQb(k:Nat):LOK Tryz.prog ZkC k Zqd:=LOK.by [] (by kernel_rfl) AllOK.nil
theorem ZPB(k:Nat):SoundAt Tryz.prog k 65 Z7Y.E:= @Z5 Tryz.prog Z7Y ZkC 65 Tryz.f65 Zqd (by kernel_rfl) (by kernel_rfl) (by kernel_rfl) Tryz.func65 (by kernel_rfl) (by kernel_rfl) (by kernel_rfl) T_ok ZPF ZQb ZQ0 ZPN k
noncomputable def Z5y:List PK:=[PK.mk (.slice 58 T6) false none false none]
noncomputable def ZqE:List PK:=[PK.mk (.pair I6 (.pair I6 (.slice 76 P6))) true none false none]
noncomputable def Zpt(r:List (Int×Int×Int)):Tup Z5y×OutD:=((r,()),none)
noncomputable def Zpu:Tup Z5y×OutD→Option (List (Int×Int×Int))
 |(a,none)=>some (a.1)
 |_=>none
theorem Zyy: ∀b r,Zpu b=some r→Zpt r=b:=by
 rintro ⟨a,_|_⟩ r h<;>cases h;rfl
noncomputable def Z27:Nat→Int→Int→List (Int×Int)→List (Int×Int×Int)→Int→Int→Int→Int→List (Int×Int)→Int→Int→Option (Int×Int×List (Int×Int)×List (Int×Int×Int)×List (Int×Int)×Int×Int)
 |0,_,_,_,_,_,_,_,_,_,_,_=>none
 |k+1,b1_0,b1_1,b1_2,o2,b3_0,b3_1,v4,v6,v8,v9,v10=>
  if decide (v6≤3)=true then Option.bind (Zgx k (b3_0,b3_1) v6) fun z0=>if z0=true then if b1_1=0 then none else if b1_1=0 then none else if List.length o2+List.length [(v6,wrap64 (Int.tdiv v4 b1_1),Int.tmod v4 b1_1)]≤(140737488355328/24:Nat) then Z27 k b1_0 b1_1 b1_2 (o2++[(v6,wrap64 (Int.tdiv v4 b1_1),Int.tmod v4 b1_1)]) b3_0 b3_1 v4 (wrap64 (v6+1)) v8 v9 v10 else none else Z27 k b1_0 b1_1 b1_2 o2 b3_0 b3_1 v4 (wrap64 (v6+1)) v8 v9 v10 else some (b1_0,b1_1,b1_2,o2,v8,v9,v10)
noncomputable def Zgk:Spec:=Spec.mk [.ro,O2,Og,Ol] [(1,.at (.ptr 1 0)),(3,.at (.sl 2)),(4,.at (.int .i64)),(5,.at (.ptr 3 0)),(6,.at (.int .i64)),(8,.at (.snap 0 P6)),(9,.at (.int .i64)),(10,.at (.int .i64))]
noncomputable def ZAg:Spec:=Spec.mk [.ro,O2,Og] [(1,.at (.ptr 1 0)),(3,.at (.sl 2)),(8,.at (.snap 0 P6)),(9,.at (.int .i64)),(10,.at (.int .i64))]
noncomputable def Z5e:LoopDef (Tup Z5y×OutD):= .plain Zgk ZAg (Int×Int×List (Int×Int)×List (Int×Int×Int)×List (Int×Int)×Int×Int) (fun k x=>Z27 k x.1.2.1.1 x.1.2.1.2.1 x.1.2.1.2.2.1 x.1.2.2.1 x.1.2.2.2.1.1 x.1.2.2.2.1.2.1 x.2.2.2.1 x.2.2.2.2.2.1 x.2.2.2.2.2.2.1 x.2.2.2.2.2.2.2.1 x.2.2.2.2.2.2.2.2.1) (fun z=>(((),(z.1,z.2.1,z.2.2.1,()),z.2.2.2.1,()),((),(),z.2.2.2.2.1,z.2.2.2.2.2.1,z.2.2.2.2.2.2,()))) (fun y=>(y.1.2.1.1,y.1.2.1.2.1,y.1.2.1.2.2.1,y.1.2.2.1,y.2.2.2.1,y.2.2.2.2.1,y.2.2.2.2.2.1)) (fun _=>rfl)
noncomputable def Z4i:Nat→Int→Int→List (Int×Int)→List (Int×Int×Int)→List (Int×Int)→Int→Int→Option (List (Int×Int×Int))
 |0,_,_,_,_,_,_,_=>none
 |k+1,b1_0,b1_1,b1_2,o2,v8,v9,v10=>
  if decide (v10<v9)=true then if (0:Int)≤v10 then if v10<(↑(List.length v8):Int) then Option.bind (Z27 k b1_0 b1_1 b1_2 o2 (Prod.fst (List.getD v8 (Int.toNat v10) ((0:Int),(0:Int)))) (Prod.snd (List.getD v8 (Int.toNat v10) ((0:Int),(0:Int)))) v10 (1:Int) v8 v9 v10) fun z1=>Z4i k z1.1 z1.2.1 z1.2.2.1 z1.2.2.2.1 z1.2.2.2.2.1 z1.2.2.2.2.2.1 (wrap64 (z1.2.2.2.2.2.2+1)) else none else none else some o2
noncomputable def Zgj:Spec:=Spec.mk [.ro,O2,Og] [(1,.at (.ptr 1 0)),(3,.at (.sl 2)),(8,.at (.snap 0 P6)),(9,.at (.int .i64)),(10,.at (.int .i64))]
noncomputable def ZAd:Spec:=Spec.mk [.ro,Og] [(3,.at (.sl 1))]
noncomputable def Z5l:LoopDef (Tup Z5y×OutD):= .plain Zgj ZAd (List (Int×Int×Int)) (fun k x=>Z4i k x.1.2.1.1 x.1.2.1.2.1 x.1.2.1.2.2.1 x.1.2.2.1 x.2.2.2.1 x.2.2.2.2.1 x.2.2.2.2.2.1) (fun z=>(((),z,()),((),()))) (fun y=>(y.1.2.1)) (fun _=>rfl)
noncomputable def Zbc:Nat→Int×Int×List (Int×Int)→Option (List (Int×Int×Int))
 |0,_=>none
 |k+1,p0=>
  Option.bind (Z4i k p0.1 p0.2.1 p0.2.2 [] p0.2.2 (↑(List.length p0.2.2):Int) (0:Int)) fun z2=>some z2
noncomputable def Z33:FnDef:= .of ZqE Z5y (List (Int×Int×Int)) (fun k x=>Zbc k x.1) Zpt Zpu Zyy
noncomputable def Zbb:Code:=Tryz.f88.body.getD .skip
noncomputable def Z2i:Ctx (Tup Z5y×OutD):={T:=T,G:=[(111,Z6a.E)],mvs:=[],no:=0,n:=37,res:=resOf T ZqE Z5y Tryz.f88.results.toList,loops:=[(2,Z5e.E),(0,Z5l.E)],regs:=[],conds:=[],cuts:=[]}
theorem ZjN(k:Nat):EnvOK Tryz.prog k Z2i.G:=(EnvOK.cons (ZBa k) (EnvOK.nil mixed))
noncomputable def Zbp:Code:=(findLoop 2 Zbb).getD .skip
theorem ZAl(k:Nat)(x:Zgk.D):Z5e.lp (k+1) x=loopK Z2i Z5e 2 Zbp k x:=by kernel_rfl
theorem ZzM(k:Nat):LOK Tryz.prog Z2i k Zbp:=LOK.by [] (by kernel_rfl) AllOK.nil
theorem ZzG(x:Zgk.D):Z5e.lp 0 x=none:=by kernel_rfl
theorem ZyC(k:Nat):EOK Tryz.prog Z2i k Z5e.E (.block 2 (.loop Zbp)):=Zd T_ok ZjN ZzG ZAl ZzM k
noncomputable def Zbz:Code:=(findLoop 0 Zbb).getD .skip
theorem ZzX(k:Nat)(x:Zgj.D):Z5l.lp (k+1) x=loopK Z2i Z5l 0 Zbz k x:=by kernel_rfl
theorem ZAa(k:Nat):LOK Tryz.prog Z2i k Zbz:=LOK.by [(Z5e.E,.block 2 (.loop Zbp))] (by kernel_rfl) (AllOK.cons (ZyC k) AllOK.nil)
theorem ZAK(x:Zgj.D):Z5l.lp 0 x=none:=by kernel_rfl
theorem Zyk(k:Nat):EOK Tryz.prog Z2i k Z5l.E (.block 0 (.loop Zbz)):=Zd T_ok ZjN ZAK ZzX ZAa k
theorem ZIx(k:Nat)(x:Tup Z33.ps):Z33.f (k+1) x=fnK Z33 Z2i Zbb k x:=by kernel_rfl
theorem ZI3(x:Tup Z33.ps):Z33.f 0 x=none:=by kernel_rfl
theorem ZHr(k:Nat):LOK Tryz.prog Z2i k Zbb:=LOK.by [(Z5l.E,.block 0 (.loop Zbz))] (by kernel_rfl) (AllOK.cons (Zyk k) AllOK.nil)
theorem ZqN(k:Nat):SoundAt Tryz.prog k 88 Z33.E:= @Z5 Tryz.prog Z33 Z2i 88 Tryz.f88 Zbb (by kernel_rfl) (by kernel_rfl) (by kernel_rfl) Tryz.func88 (by kernel_rfl) (by kernel_rfl) (by kernel_rfl) T_ok ZjN ZHr ZI3 ZIx k
noncomputable def Zfc:List PK:=[PK.mk .bool false none false none]
noncomputable def Zyh:List PK:=[PK.mk P6 true none false none,PK.mk I6 false none false none]
noncomputable def Zvj(r:Bool):Tup Zfc×OutD:=((r,()),none)
noncomputable def ZvL:Tup Zfc×OutD→Option (Bool)
 |(a,none)=>some (a.1)
 |_=>none
theorem ZGr: ∀b r,ZvL b=some r→Zvj r=b:=by
 rintro ⟨a,_|_⟩ r h<;>cases h;rfl
noncomputable def ZeY:Nat→Int×Int→Int→Option Bool
 |0,_,_=>none
 |k+1,p0,p1=>
  if decide (p1=1)=true then Option.bind (Z3I k (p0.1,p0.2)) fun z0=>some z0 else if decide (p1=2)=true then some true else if decide (p1=3)=true then Option.bind (Z3I k (p0.1,p0.2)) fun z1=>if z1=true then some true else if decide (p0.1=1)=true then some true else some (decide (p0.1=2)) else some false
noncomputable def Z58:FnDef:= .of Zyh Zfc (Bool) (fun k x=>ZeY k x.1 x.2.1) Zvj ZvL ZGr
noncomputable def ZoJ:Code:=Tryz.f91.body.getD .skip
noncomputable def ZiR:Ctx (Tup Zfc×OutD):={T:=T,G:=[(114,Z3H.E)],mvs:=[],no:=0,n:=26,res:=resOf T Zyh Zfc Tryz.f91.results.toList,loops:=[],regs:=[],conds:=[],cuts:=[]}
theorem ZOG(k:Nat):EnvOK Tryz.prog k ZiR.G:=(EnvOK.cons (ZrY k) (EnvOK.nil mixed))
theorem ZNN(k:Nat)(x:Tup Z58.ps):Z58.f (k+1) x=fnK Z58 ZiR ZoJ k x:=by kernel_rfl
theorem ZOa(x:Tup Z58.ps):Z58.f 0 x=none:=by kernel_rfl
theorem ZP4(k:Nat):LOK Tryz.prog ZiR k ZoJ:=LOK.by [] (by kernel_rfl) AllOK.nil
theorem ZyR(k:Nat):SoundAt Tryz.prog k 91 Z58.E:= @Z5 Tryz.prog Z58 ZiR 91 Tryz.f91 ZoJ (by kernel_rfl) (by kernel_rfl) (by kernel_rfl) Tryz.func91 (by kernel_rfl) (by kernel_rfl) (by kernel_rfl) T_ok ZOG ZP4 ZOa ZNN k
noncomputable def Z7N:List PK:=[PK.mk T6 true none false none]
noncomputable def ZqM:List PK:=[PK.mk (.pair I6 (.pair I6 (.slice 76 P6))) true (some (2,76,.pair I6 I6)) false none,PK.mk (.slice 3 I6) false none false none,PK.mk (.slice 3 I6) false none false none,PK.mk I6 false none false none]
noncomputable def Zi3(r:(Int×Int×Int)×List (Int×Int)):Tup Z7N×OutD:=((r.1,()),some ⟨Ty.pair (Ty.int .i64) (Ty.int .i64),r.2⟩)
noncomputable def ZdB:Tup Z7N×OutD→Option ((Int×Int×Int)×List (Int×Int))
 |(a,some ⟨u,ys⟩)=>if h:u=Ty.pair (Ty.int .i64) (Ty.int .i64) then some (a.1,castU h ys) else none
 |_=>none
theorem ZlE: ∀b r,ZdB b=some r→Zi3 r=b:=by
 rintro ⟨a,o⟩ r h
 cases o with
 |none=>cases h
 |some s=>
  obtain ⟨u,ys⟩:=s
  simp only[ZdB]at h
  split at h
  ·rename_i hu;subst hu;injection h with h;subst h;rfl
  ·cases h
noncomputable def ZT:Nat→List (Int×Int)→Int→Int→Int→Int→Int→List Int→List Int→Int→Int→Int→Option (LR (List (Int×Int)×Int×Int×Int×Int×Int×Int) ((Int×Int×Int)×List (Int×Int)))
 |0,_,_,_,_,_,_,_,_,_,_,_=>none
 |k+1,o1,b2_0,b2_1,b3_0,b3_1,b3_2,v1,v2,v3,v9,v10=>
  if decide (v10<b2_0)=true then if (0:Int)≤wrap64 (wrap64 (v10*b2_1)+v3) then if wrap64 (wrap64 (v10*b2_1)+v3)<(↑(List.length v2):Int) then if decide (List.getD v2 (Int.toNat (wrap64 (wrap64 (v10*b2_1)+v3))) (0:Int)=2)=true then some (LR.ret (((3:Int),v10,v3),o1)) else if (0:Int)≤wrap64 (wrap64 (v10*b2_1)+v3) then if wrap64 (wrap64 (v10*b2_1)+v3)<(↑(List.length o1):Int) then Option.bind (Zgw k (Prod.fst (List.getD o1 (Int.toNat (wrap64 (wrap64 (v10*b2_1)+v3))) ((0:Int),(0:Int))),Prod.snd (List.getD o1 (Int.toNat (wrap64 (wrap64 (v10*b2_1)+v3))) ((0:Int),(0:Int)))) v9) fun z0=>if (!z0.2)=true then some (LR.ret (((2:Int),v10,v3),o1)) else if (0:Int)≤wrap64 (wrap64 (v10*b2_1)+v3) then if wrap64 (wrap64 (v10*b2_1)+v3)<(↑(List.length v2):Int) then if decide (List.getD v2 (Int.toNat (wrap64 (wrap64 (v10*b2_1)+v3))) (0:Int)=3)=true then if (0:Int)≤wrap64 (wrap64 (v10*b2_1)+v3) then if wrap64 (wrap64 (v10*b2_1)+v3)<(↑(List.length o1):Int) then Option.bind (Z3I k (Prod.fst (List.getD o1 (Int.toNat (wrap64 (wrap64 (v10*b2_1)+v3))) ((0:Int),(0:Int))),Prod.snd (List.getD o1 (Int.toNat (wrap64 (wrap64 (v10*b2_1)+v3))) ((0:Int),(0:Int))))) fun z1=>if z1=true then Option.bind (Z7P k (b2_0,b2_1,o1) v1 v2 (wrap64 (wrap64 (v10*b2_1)+v3))) fun z2=>if decide (wrap64 (v3+wrap64 ((0:Int)-z0.1))<0)=true then some (LR.ret (((3:Int),v10,wrap64 (v3+wrap64 ((0:Int)-z0.1))),z2)) else if decide (wrap64 (v3+wrap64 ((0:Int)-z0.1))≥b2_1)=true then some (LR.ret (((3:Int),v10,wrap64 (v3+wrap64 ((0:Int)-z0.1))),z2)) else ZT k z2 b2_0 b2_1 b3_0 b3_1 b3_2 v1 v2 (wrap64 (v3+wrap64 ((0:Int)-z0.1))) (wrap64 ((0:Int)-wrap64 ((0:Int)-z0.1))) (wrap64 (v10+1)) else if decide (wrap64 (v3+wrap64 ((0:Int)-z0.1))<0)=true then some (LR.ret (((3:Int),v10,wrap64 (v3+wrap64 ((0:Int)-z0.1))),o1)) else if decide (wrap64 (v3+wrap64 ((0:Int)-z0.1))≥b2_1)=true then some (LR.ret (((3:Int),v10,wrap64 (v3+wrap64 ((0:Int)-z0.1))),o1)) else ZT k o1 b2_0 b2_1 b3_0 b3_1 b3_2 v1 v2 (wrap64 (v3+wrap64 ((0:Int)-z0.1))) (wrap64 ((0:Int)-wrap64 ((0:Int)-z0.1))) (wrap64 (v10+1)) else none else none else if (0:Int)≤wrap64 (wrap64 (v10*b2_1)+v3) then if wrap64 (wrap64 (v10*b2_1)+v3)<(↑(List.length o1):Int) then Option.bind (Z3I k (Prod.fst (List.getD o1 (Int.toNat (wrap64 (wrap64 (v10*b2_1)+v3))) ((0:Int),(0:Int))),Prod.snd (List.getD o1 (Int.toNat (wrap64 (wrap64 (v10*b2_1)+v3))) ((0:Int),(0:Int))))) fun z3=>if z3=true then Option.bind (Z7P k (b2_0,b2_1,o1) v1 v2 (wrap64 (wrap64 (v10*b2_1)+v3))) fun z4=>if decide (wrap64 (v3+z0.1)<0)=true then some (LR.ret (((3:Int),v10,wrap64 (v3+z0.1)),z4)) else if decide (wrap64 (v3+z0.1)≥b2_1)=true then some (LR.ret (((3:Int),v10,wrap64 (v3+z0.1)),z4)) else ZT k z4 b2_0 b2_1 b3_0 b3_1 b3_2 v1 v2 (wrap64 (v3+z0.1)) (wrap64 ((0:Int)-z0.1)) (wrap64 (v10+1)) else if decide (wrap64 (v3+z0.1)<0)=true then some (LR.ret (((3:Int),v10,wrap64 (v3+z0.1)),o1)) else if decide (wrap64 (v3+z0.1)≥b2_1)=true then some (LR.ret (((3:Int),v10,wrap64 (v3+z0.1)),o1)) else ZT k o1 b2_0 b2_1 b3_0 b3_1 b3_2 v1 v2 (wrap64 (v3+z0.1)) (wrap64 ((0:Int)-z0.1)) (wrap64 (v10+1)) else none else none else none else none else none else none else none else none else some (LR.go (o1,b2_0,b2_1,b3_0,b3_1,b3_2,v3))
noncomputable def Zg5:Spec:=Spec.mk [.ro,Oi,Of,O5] [(1,.at (.snap 0 I6)),(2,.at (.snap 0 I6)),(3,.at (.int .i64)),(4,.at (.ptr 2 0)),(8,.at (.ptr 3 0)),(9,.at (.int .i64)),(10,.at (.int .i64))]
noncomputable def ZAm:Spec:=Spec.mk [.ro,Oi,Of,O5] [(3,.at (.int .i64)),(4,.at (.ptr 2 0)),(8,.at (.ptr 3 0))]
noncomputable def Z53:LoopDef (Tup Z7N×OutD):= .rets Zg5 ZAm (List (Int×Int)×Int×Int×Int×Int×Int×Int) ((Int×Int×Int)×List (Int×Int)) (fun k x=>ZT k x.1.2.1 x.1.2.2.1.1 x.1.2.2.1.2.1 x.1.2.2.2.1.1 x.1.2.2.2.1.2.1 x.1.2.2.2.1.2.2.1 x.2.1 x.2.2.1 x.2.2.2.1 x.2.2.2.2.2.2.1 x.2.2.2.2.2.2.2.1) (fun z=>(((),z.1,(z.2.1,z.2.2.1,(),()),(z.2.2.2.1,z.2.2.2.2.1,z.2.2.2.2.2.1,()),()),(z.2.2.2.2.2.2,(),(),()))) (fun y=>(y.1.2.1,y.1.2.2.1.1,y.1.2.2.1.2.1,y.1.2.2.2.1.1,y.1.2.2.2.1.2.1,y.1.2.2.2.1.2.2.1,y.2.1)) (fun _=>rfl) Zi3 ZdB ZlE
noncomputable def ZeF:Nat→Int×Int×List (Int×Int)→List Int→List Int→Int→Option ((Int×Int×Int)×List (Int×Int))
 |0,_,_,_,_=>none
 |k+1,p0,p1,p2,p3=>
  Option.bind (ZT k p0.2.2 p0.1 p0.2.1 (0:Int) (0:Int) (0:Int) p1 p2 p3 (0:Int) (0:Int)) fun z5=>LR.on z5 (fun y5=>some (((1:Int),y5.2.1,y5.2.2.2.2.2.2),y5.1)) fun r5=>some r5
noncomputable def Z47:FnDef:= .of ZqM Z7N ((Int×Int×Int)×List (Int×Int)) (fun k x=>ZeF k x.1 x.2.1 x.2.2.1 x.2.2.2.1) Zi3 ZdB ZlE
noncomputable def ZeJ:Code:=Tryz.f94.body.getD .skip
noncomputable def Z5t:Ctx (Tup Z7N×OutD):={T:=T,G:=[(70,Z6e.E),(114,Z3H.E),(115,Z48.E)],mvs:=[],no:=1,n:=87,res:=resOf T ZqM Z7N Tryz.f94.results.toList,loops:=[(0,Z53.E)],regs:=[],conds:=[],cuts:=[]}
theorem ZqW(k:Nat):EnvOK Tryz.prog k Z5t.G:=(EnvOK.cons (ZB9 k) (EnvOK.cons (ZrY k) (EnvOK.cons (ZHA k) (EnvOK.nil mixed))))
noncomputable def Zbu:Code:=(findLoop 0 ZeJ).getD .skip
theorem ZAq(k:Nat)(x:Zg5.D):Z53.lp (k+1) x=loopK Z5t Z53 0 Zbu k x:=by kernel_rfl
theorem ZAJ(k:Nat):LOK Tryz.prog Z5t k Zbu:=LOK.by [] (by kernel_rfl) AllOK.nil
theorem ZzU(x:Zg5.D):Z53.lp 0 x=none:=by kernel_rfl
theorem ZxH(k:Nat):EOK Tryz.prog Z5t k Z53.E (.block 0 (.loop Zbu)):=Zd T_ok ZqW ZzU ZAq ZAJ k
theorem ZHG(k:Nat)(x:Tup Z47.ps):Z47.f (k+1) x=fnK Z47 Z5t ZeJ k x:=by kernel_rfl
theorem ZHD(x:Tup Z47.ps):Z47.f 0 x=none:=by kernel_rfl
theorem ZHE(k:Nat):LOK Tryz.prog Z5t k ZeJ:=LOK.by [(Z53.E,.block 0 (.loop Zbu))] (by kernel_rfl) (AllOK.cons (ZxH k) AllOK.nil)
theorem ZHI(k:Nat):SoundAt Tryz.prog k 94 Z47.E:= @Z5 Tryz.prog Z47 Z5t 94 Tryz.f94 ZeJ (by kernel_rfl) (by kernel_rfl) (by kernel_rfl) Tryz.func94 (by kernel_rfl) (by kernel_rfl) (by kernel_rfl) T_ok ZqW ZHE ZHD ZHG k
noncomputable def Zcn:List PK:=[PK.mk .bool false none false none]
noncomputable def Ztr:List PK:=[PK.mk (.pair (.slice 5 (.int .u8)) (.pair I6 (.int .u64))) false none false (some 105),PK.mk I6 false none false none]
noncomputable def ZqH(r:Bool×Int×Int):Tup Zcn×OutD:=((r.1,()),some ⟨Ty.pair (Ty.slice (5:Nat) (Ty.int .u8)) (Ty.pair (Ty.int .i64) (Ty.int .u64)),[([],r.2)]⟩)
noncomputable def ZjR:Tup Zcn×OutD→Option (Bool×Int×Int)
 |(a,some ⟨u,ys⟩)=>if h:u=Ty.pair (Ty.slice (5:Nat) (Ty.int .u8)) (Ty.pair (Ty.int .i64) (Ty.int .u64)) then (match castU h ys with
  |[([],y)]=>some (a.1,y)
  |_=>none) else none
 |_=>none
theorem ZzY: ∀b r,ZjR b=some r→ZqH r=b:=by
 rintro ⟨a,o⟩ r h
 cases o with
 |none=>cases h
 |some s=>
  obtain ⟨u,ys⟩:=s
  simp only[ZjR]at h
  split at h
  ·rename_i hu
   subst hu
   match ys,h with
   |[],h=>cases (show (none:Option _)=some r from h)
   |[([],y)],h=>injection (show some _=some r from h) with h;subst h;rfl
   |[(_::_,y)],h=>cases (show (none:Option _)=some r from h)
   |(h1,_)::_::_,h=>cases h1<;>cases (show (none:Option _)=some r from h)
  ·cases h
noncomputable def ZK:Nat→List Int×Int×Int→Int→Option (Bool×Int×Int)
 |0,_,_=>none
 |k+1,p0,p1=>
  Option.bind (Z1 k (p0.1,p0.2.1,p0.2.2) p1) fun z0=>some (decide (z0.1=(0:Int)),z0.2.1,z0.2.2)
noncomputable def ZU:FnDef:= .of Ztr Zcn (Bool×Int×Int) (fun k x=>ZK k x.1 x.2.1) ZqH ZjR ZzY
noncomputable def Zlj:Code:=Tryz.f95.body.getD .skip
noncomputable def ZfZ:Ctx (Tup Zcn×OutD):={T:=T,G:=[(116,Zq.E)],mvs:=[],no:=2,n:=9,res:=resOf T Ztr Zcn Tryz.f95.results.toList,loops:=[],regs:=[],conds:=[],cuts:=[]}
theorem ZJX(k:Nat):EnvOK Tryz.prog k ZfZ.G:=(EnvOK.cons (Z1I k) (EnvOK.nil mixed))
theorem ZKP(k:Nat)(x:Tup ZU.ps):ZU.f (k+1) x=fnK ZU ZfZ Zlj k x:=by kernel_rfl
theorem ZJR(x:Tup ZU.ps):ZU.f 0 x=none:=by kernel_rfl
theorem ZLq(k:Nat):LOK Tryz.prog ZfZ k Zlj:=LOK.by [] (by kernel_rfl) AllOK.nil
theorem Z6l(k:Nat):SoundAt Tryz.prog k 95 ZU.E:= @Z5 Tryz.prog ZU ZfZ 95 Tryz.f95 Zlj (by kernel_rfl) (by kernel_rfl) (by kernel_rfl) Tryz.func95 (by kernel_rfl) (by kernel_rfl) (by kernel_rfl) T_ok ZJX ZLq ZJR ZKP k
noncomputable def Z9W:List PK:=[PK.mk I6 false none false none]
noncomputable def Zpk:List PK:=[PK.mk (.pair (.slice 5 (.int .u8)) (.pair I6 (.int .u64))) false none false (some 105),PK.mk (.slice 3 I6) false none false none]
noncomputable def Znq(r:Int×Int×Int):Tup Z9W×OutD:=((r.1,()),some ⟨Ty.pair (Ty.slice (5:Nat) (Ty.int .u8)) (Ty.pair (Ty.int .i64) (Ty.int .u64)),[([],r.2)]⟩)
noncomputable def Zh5:Tup Z9W×OutD→Option (Int×Int×Int)
 |(a,some ⟨u,ys⟩)=>if h:u=Ty.pair (Ty.slice (5:Nat) (Ty.int .u8)) (Ty.pair (Ty.int .i64) (Ty.int .u64)) then (match castU h ys with
  |[([],y)]=>some (a.1,y)
  |_=>none) else none
 |_=>none
theorem ZvR: ∀b r,Zh5 b=some r→Znq r=b:=by
 rintro ⟨a,o⟩ r h
 cases o with
 |none=>cases h
 |some s=>
  obtain ⟨u,ys⟩:=s
  simp only[Zh5]at h
  split at h
  ·rename_i hu
   subst hu
   match ys,h with
   |[],h=>cases (show (none:Option _)=some r from h)
   |[([],y)],h=>injection (show some _=some r from h) with h;subst h;rfl
   |[(_::_,y)],h=>cases (show (none:Option _)=some r from h)
   |(h1,_)::_::_,h=>cases h1<;>cases (show (none:Option _)=some r from h)
  ·cases h
noncomputable def Zb:Nat→List Int×Int×Int→List Int→Option (Int×Int×Int)
 |0,_,_=>none
 |k+1,p0,p1=>
  Option.bind (Z1 k (p0.1,p0.2.1,p0.2.2) (↑(List.length p1):Int)) fun z0=>if (0:Int)≤z0.1 then if z0.1<(↑(List.length p1):Int) then some (List.getD p1 (Int.toNat z0.1) (0:Int),z0.2.1,z0.2.2) else none else none
noncomputable def Zp:FnDef:= .of Zpk Z9W (Int×Int×Int) (fun k x=>Zb k x.1 x.2.1) Znq Zh5 ZvR
noncomputable def Zif:Code:=Tryz.f98.body.getD .skip
noncomputable def Zdz:Ctx (Tup Z9W×OutD):={T:=T,G:=[(116,Zq.E)],mvs:=[],no:=2,n:=12,res:=resOf T Zpk Z9W Tryz.f98.results.toList,loops:=[],regs:=[],conds:=[],cuts:=[]}
theorem ZEg(k:Nat):EnvOK Tryz.prog k Zdz.G:=(EnvOK.cons (Z1I k) (EnvOK.nil mixed))
theorem ZEP(k:Nat)(x:Tup Zp.ps):Zp.f (k+1) x=fnK Zp Zdz Zif k x:=by kernel_rfl
theorem ZEZ(x:Tup Zp.ps):Zp.f 0 x=none:=by kernel_rfl
theorem ZF9(k:Nat):LOK Tryz.prog Zdz k Zif:=LOK.by [] (by kernel_rfl) AllOK.nil
theorem Z1S(k:Nat):SoundAt Tryz.prog k 98 Zp.E:= @Z5 Tryz.prog Zp Zdz 98 Tryz.f98 Zif (by kernel_rfl) (by kernel_rfl) (by kernel_rfl) Tryz.func98 (by kernel_rfl) (by kernel_rfl) (by kernel_rfl) T_ok ZEg ZF9 ZEZ ZEP k
noncomputable def Zdc:List PK:=[PK.mk .bool false none false none]
noncomputable def ZBv:List PK:=[PK.mk (.pair I6 (.pair I6 (.slice 76 P6))) true none false none]
noncomputable def Zog(r:Bool):Tup Zdc×OutD:=((r,()),none)
noncomputable def Zo1:Tup Zdc×OutD→Option (Bool)
 |(a,none)=>some (a.1)
 |_=>none
theorem Zqv: ∀b r,Zo1 b=some r→Zog r=b:=by
 rintro ⟨a,_|_⟩ r h<;>cases h;rfl
noncomputable def Zau:Nat→List (Int×Int)→Int→Int→Option (LR Unit Bool)
 |0,_,_,_=>none
 |k+1,v27,v28,v29=>
  if decide (v29<v28)=true then if (0:Int)≤v29 then if v29<(↑(List.length v27):Int) then Option.bind (Zgr k (Prod.fst (List.getD v27 (Int.toNat v29) ((0:Int),(0:Int))),Prod.snd (List.getD v27 (Int.toNat v29) ((0:Int),(0:Int))))) fun z2=>if (!z2)=true then some (LR.ret false) else Zau k v27 v28 (wrap64 (v29+1)) else none else none else some (LR.go ())
noncomputable def Zlb:Spec:=Spec.mk [.ro] [(27,.at (.snap 0 P6)),(28,.at (.int .i64)),(29,.at (.int .i64))]
noncomputable def ZJK:Spec:=Spec.mk [.ro] []
noncomputable def Z8G:LoopDef (Tup Zdc×OutD):= .rets Zlb ZJK (Unit) (Bool) (fun k x=>Zau k x.2.1 x.2.2.1 x.2.2.2.1) (fun z=>(((),()),(()))) (fun y=>()) (fun _=>rfl) Zog Zo1 Zqv
noncomputable def Zgs:Nat→Int×Int×List (Int×Int)→Option Bool
 |0,_=>none
 |k+1,p0=>
  Option.bind (Z1f k p0.1 (1:Int) (10:Int)) fun z0=>if (!z0)=true then some false else Option.bind (Z1f k p0.2.1 (1:Int) (9:Int)) fun z1=>if (!z1)=true then some false else if decide ((↑(List.length p0.2.2):Int)≠wrap64 (p0.1*p0.2.1))=true then some false else Option.bind (Zau k p0.2.2 (↑(List.length p0.2.2):Int) (0:Int)) fun z3=>LR.on z3 (fun y3=>some true) fun r3=>some r3
noncomputable def Z6c:FnDef:= .of ZBv Zdc (Bool) (fun k x=>Zgs k x.1) Zog Zo1 Zqv
noncomputable def ZkE:Code:=Tryz.f110.body.getD .skip
noncomputable def ZaY:Ctx (Tup Zdc×OutD):={T:=T,G:=[(76,Z2j.E),(75,Z6b.E)],mvs:=[],no:=0,n:=37,res:=resOf T ZBv Zdc Tryz.f110.results.toList,loops:=[(0,Z8G.E)],regs:=[],conds:=[],cuts:=[]}
theorem ZBJ(k:Nat):EnvOK Tryz.prog k ZaY.G:=(EnvOK.cons (Z9L k) (EnvOK.cons (ZBO k) (EnvOK.nil mixed)))
noncomputable def ZfN:Code:=(findLoop 0 ZkE).getD .skip
theorem ZKk(k:Nat)(x:Zlb.D):Z8G.lp (k+1) x=loopK ZaY Z8G 0 ZfN k x:=by kernel_rfl
theorem ZJB(k:Nat):LOK Tryz.prog ZaY k ZfN:=LOK.by [] (by kernel_rfl) AllOK.nil
theorem ZK9(x:Zlb.D):Z8G.lp 0 x=none:=by kernel_rfl
theorem ZIk(k:Nat):EOK Tryz.prog ZaY k Z8G.E (.block 0 (.loop ZfN)):=Zd T_ok ZBJ ZK9 ZKk ZJB k
theorem ZRi(k:Nat)(x:Tup Z6c.ps):Z6c.f (k+1) x=fnK Z6c ZaY ZkE k x:=by kernel_rfl
theorem ZQU(x:Tup Z6c.ps):Z6c.f 0 x=none:=by kernel_rfl
theorem ZR8(k:Nat):LOK Tryz.prog ZaY k ZkE:=LOK.by [(Z8G.E,.block 0 (.loop ZfN))] (by kernel_rfl) (AllOK.cons (ZIk k) AllOK.nil)
theorem ZCg(k:Nat):SoundAt Tryz.prog k 110 Z6c.E:= @Z5 Tryz.prog Z6c ZaY 110 Tryz.f110 ZkE (by kernel_rfl) (by kernel_rfl) (by kernel_rfl) Tryz.func110 (by kernel_rfl) (by kernel_rfl) (by kernel_rfl) T_ok ZBJ ZR8 ZQU ZRi k
noncomputable def Zdn:List PK:=[PK.mk .bool false none false none]
noncomputable def ZC7:List PK:=[PK.mk (.pair I6 (.pair I6 (.slice 76 P6))) true none false none,PK.mk (.slice 58 T6) false none false none]
noncomputable def Zoa(r:Bool):Tup Zdn×OutD:=((r,()),none)
noncomputable def Zoj:Tup Zdn×OutD→Option (Bool)
 |(a,none)=>some (a.1)
 |_=>none
theorem Zqs: ∀b r,Zoj b=some r→Zoa r=b:=by
 rintro ⟨a,_|_⟩ r h<;>cases h;rfl
noncomputable def ZaC:Nat→Int→Int→List (Int×Int)→List (Int×Int×Int)→Int→List (Int×Int×Int)→Int→Int→Option (LR (List (Int×Int×Int)) Bool)
 |0,_,_,_,_,_,_,_,_=>none
 |k+1,b1_0,b1_1,b1_2,v1,v5,v8,v9,v10=>
  if decide (v10<v9)=true then if (0:Int)≤v10 then if v10<(↑(List.length v8):Int) then Option.bind (Z1f k (Prod.fst (Prod.snd (List.getD v8 (Int.toNat v10) ((0:Int),(0:Int),(0:Int))))) (0:Int) (wrap64 (b1_0-1))) fun z0=>if (!z0)=true then some (LR.ret false) else Option.bind (Z1f k (Prod.snd (Prod.snd (List.getD v8 (Int.toNat v10) ((0:Int),(0:Int),(0:Int))))) (0:Int) (wrap64 (b1_1-1))) fun z1=>if (!z1)=true then some (LR.ret false) else Option.bind (ZbE k (b1_0,b1_1,b1_2) (Prod.fst (Prod.snd (List.getD v8 (Int.toNat v10) ((0:Int),(0:Int),(0:Int))))) (Prod.snd (Prod.snd (List.getD v8 (Int.toNat v10) ((0:Int),(0:Int),(0:Int)))))) fun z2=>Option.bind (Zgx k (z2.1,z2.2) (Prod.fst (List.getD v8 (Int.toNat v10) ((0:Int),(0:Int),(0:Int))))) fun z3=>if (!z3)=true then some (LR.ret false) else if decide (wrap64 (wrap64 (Prod.fst (Prod.snd (List.getD v8 (Int.toNat v10) ((0:Int),(0:Int),(0:Int))))*b1_1)+Prod.snd (Prod.snd (List.getD v8 (Int.toNat v10) ((0:Int),(0:Int),(0:Int)))))≤v5)=true then some (LR.ret false) else ZaC k b1_0 b1_1 b1_2 v1 (wrap64 (wrap64 (Prod.fst (Prod.snd (List.getD v8 (Int.toNat v10) ((0:Int),(0:Int),(0:Int))))*b1_1)+Prod.snd (Prod.snd (List.getD v8 (Int.toNat v10) ((0:Int),(0:Int),(0:Int)))))) v8 v9 (wrap64 (v10+1)) else none else none else some (LR.go v1)
noncomputable def ZkN:Spec:=Spec.mk [.ro,O2] [(1,.at (.snap 0 T6)),(2,.at (.ptr 1 0)),(5,.at (.int .i64)),(8,.at (.snap 0 T6)),(9,.at (.int .i64)),(10,.at (.int .i64))]
noncomputable def ZLj:Spec:=Spec.mk [.ro] [(1,.at (.snap 0 T6))]
noncomputable def Z9h:LoopDef (Tup Zdn×OutD):= .rets ZkN ZLj (List (Int×Int×Int)) (Bool) (fun k x=>ZaC k x.1.2.1.1 x.1.2.1.2.1 x.1.2.1.2.2.1 x.2.1 x.2.2.2.1 x.2.2.2.2.1 x.2.2.2.2.2.1 x.2.2.2.2.2.2.1) (fun z=>(((),()),(z,()))) (fun y=>(y.2.1)) (fun _=>rfl) Zoa Zoj Zqs
noncomputable def ZkF:Nat→Int×Int×List (Int×Int)→List (Int×Int×Int)→Option Bool
 |0,_,_=>none
 |k+1,p0,p1=>
  Option.bind (ZaC k p0.1 p0.2.1 p0.2.2 p1 (-1:Int) p1 (↑(List.length p1):Int) (0:Int)) fun z4=>LR.on z4 (fun y4=>some (decide ((↑(List.length y4):Int)≤4))) fun r4=>some r4
noncomputable def Z7U:FnDef:= .of ZC7 Zdn (Bool) (fun k x=>ZkF k x.1 x.2.1) Zoa Zoj Zqs
noncomputable def Zkn:Code:=Tryz.f123.body.getD .skip
noncomputable def Zb4:Ctx (Tup Zdn×OutD):={T:=T,G:=[(76,Z2j.E),(133,Z6Y.E),(111,Z6a.E)],mvs:=[],no:=0,n:=66,res:=resOf T ZC7 Zdn Tryz.f123.results.toList,loops:=[(0,Z9h.E)],regs:=[],conds:=[],cuts:=[]}
theorem ZBW(k:Nat):EnvOK Tryz.prog k Zb4.G:=(EnvOK.cons (Z9L k) (EnvOK.cons (Zwk k) (EnvOK.cons (ZBa k) (EnvOK.nil mixed))))
noncomputable def Zga:Code:=(findLoop 0 Zkn).getD .skip
theorem ZJM(k:Nat)(x:ZkN.D):Z9h.lp (k+1) x=loopK Zb4 Z9h 0 Zga k x:=by kernel_rfl
theorem ZJl(k:Nat):LOK Tryz.prog Zb4 k Zga:=LOK.by [] (by kernel_rfl) AllOK.nil
theorem ZKA(x:ZkN.D):Z9h.lp 0 x=none:=by kernel_rfl
theorem ZIb(k:Nat):EOK Tryz.prog Zb4 k Z9h.E (.block 0 (.loop Zga)):=Zd T_ok ZBW ZKA ZJM ZJl k
theorem ZQK(k:Nat)(x:Tup Z7U.ps):Z7U.f (k+1) x=fnK Z7U Zb4 Zkn k x:=by kernel_rfl
theorem ZRg(x:Tup Z7U.ps):Z7U.f 0 x=none:=by kernel_rfl
theorem ZPX(k:Nat):LOK Tryz.prog Zb4 k Zkn:=LOK.by [(Z9h.E,.block 0 (.loop Zga))] (by kernel_rfl) (AllOK.cons (ZIb k) AllOK.nil)
theorem ZPQ(k:Nat):SoundAt Tryz.prog k 123 Z7U.E:= @Z5 Tryz.prog Z7U Zb4 123 Tryz.f123 Zkn (by kernel_rfl) (by kernel_rfl) (by kernel_rfl) Tryz.func123 (by kernel_rfl) (by kernel_rfl) (by kernel_rfl) T_ok ZBW ZPX ZRg ZQK k
noncomputable def Z9C:List PK:=[PK.mk T6 true none false none,PK.mk (.pair I6 (.pair I6 (.slice 76 P6))) true none false none,PK.mk (.slice 22 (.slice 3 I6)) false none false none]
noncomputable def ZJi:List PK:=[PK.mk (.pair I6 (.pair I6 (.slice 76 P6))) true none false none,PK.mk (.slice 3 I6) false none false none,PK.mk I6 false none false none]
noncomputable def Ztz(r:(Int×Int×Int)×(Int×Int×List (Int×Int))×List (List Int)):Tup Z9C×OutD:=((r.1,r.2.1,r.2.2,()),none)
noncomputable def ZsK:Tup Z9C×OutD→Option ((Int×Int×Int)×(Int×Int×List (Int×Int))×List (List Int))
 |(a,none)=>some (a.1,a.2.1,a.2.2.1)
 |_=>none
theorem Zv6: ∀b r,ZsK b=some r→Ztz r=b:=by
 rintro ⟨a,_|_⟩ r h<;>cases h;rfl
noncomputable def Z7h:Nat→Int→Int→Int→Int→Int→List (Int×Int)→Int→Int→List (Int×Int)→List (List Int)→Int→Int→Option (Int×Int×Int×Int×Int×List (Int×Int)×List (List Int)):=fun k b1_0 b1_1 b1_2 b2_0 b2_1 o3 b4_0 b4_1 o5 o6 v2 v12=>
  some ((2:Int),v12,v2,b4_0,b4_1,o5,o6)
noncomputable def ZfS:Nat→Int→Int→Int→Int→Int→List (Int×Int)→Int→Int→List (Int×Int)→List (List Int)→Int→Int→Option (List (Int×Int×Int×Int×Int×List (Int×Int)×List (List Int))):=fun k b1_0 b1_1 b1_2 b2_0 b2_1 o3 b4_0 b4_1 o5 o6 v2 v12=>
  joinL (some [((2:Int),v12,v2,b4_0,b4_1,o5,o6)]) (some [((2:Int),v12,v2,b4_0,b4_1,o5,o6)])
noncomputable def ZrV:Spec:=Spec.mk [.ro,O5,Oa,O0,Od,O0,Oh] [(2,.at (.int .i64)),(6,.at (.ptr 1 0)),(7,.at (.ptr 2 0)),(9,.at (.ptr 4 0)),(10,.at (.sl 6)),(12,.at (.int .i64))]
noncomputable def ZJz:Spec:=Spec.mk [.ro,O5,Oa,O0,Oh] [(6,.at (.ptr 1 0)),(7,.at (.ptr 2 0)),(8,.at (.sl 4))]
noncomputable def Z9a:LoopDef (Tup Z9C×OutD):= .plain ZrV ZJz (Int×Int×Int×Int×Int×List (Int×Int)×List (List Int)) (fun k x=>Z7h k x.1.2.1.1 x.1.2.1.2.1 x.1.2.1.2.2.1 x.1.2.2.1.1 x.1.2.2.1.2.1 x.1.2.2.2.1 x.1.2.2.2.2.1.1 x.1.2.2.2.2.1.2.1 x.1.2.2.2.2.2.1 x.1.2.2.2.2.2.2.1 x.2.1 x.2.2.2.2.2.2.1) (fun z=>(((),(z.1,z.2.1,z.2.2.1,()),(z.2.2.2.1,z.2.2.2.2.1,(),()),z.2.2.2.2.2.1,z.2.2.2.2.2.2,()),((),(),(),()))) (fun y=>(y.1.2.1.1,y.1.2.1.2.1,y.1.2.1.2.2.1,y.1.2.2.1.1,y.1.2.2.1.2.1,y.1.2.2.2.1,y.1.2.2.2.2.1)) (fun _=>rfl)
theorem ZKd(k:Nat)(b1_0:Int)(b1_1:Int)(b1_2:Int)(b2_0:Int)(b2_1:Int)(o3:List (Int×Int))(b4_0:Int)(b4_1:Int)(o5:List (Int×Int))(o6:List (List Int))(v2:Int)(v12:Int):ZfS k b1_0 b1_1 b1_2 b2_0 b2_1 o3 b4_0 b4_1 o5 o6 v2 v12=repl 2 (Z7h k b1_0 b1_1 b1_2 b2_0 b2_1 o3 b4_0 b4_1 o5 o6 v2 v12):=by
 first
 |(simp only[ZfS,Z7h,Z9,Zc,Z6,Z8,Z7,Z3,if_true];done)
 |(simp only[ZfS,Z7h,Z9,Zc,Z6,Z8,Z7,Z3,if_true];simp only[Z1g,Z1i,Z2p,Z3];simp only[Z3E];exact Z1F ⟨fun h=>by simp only[h,and_self],fun h=>by simp only[h,and_self]⟩)
noncomputable def Z7u:Nat→Int→Int→Int→Int→Int→List (Int×Int)→Int→Int→List (Int×Int)→List (List Int)→Int→Int→Option (Int×Int×Int×Int×Int×List (Int×Int)×List (List Int)):=fun k b1_0 b1_1 b1_2 b2_0 b2_1 o3 b4_0 b4_1 o5 o6 v2 v12=>
  some ((3:Int),v12,v2,b4_0,b4_1,o5,o6)
noncomputable def ZfE:Nat→Int→Int→Int→Int→Int→List (Int×Int)→Int→Int→List (Int×Int)→List (List Int)→Int→Int→Option (List (Int×Int×Int×Int×Int×List (Int×Int)×List (List Int))):=fun k b1_0 b1_1 b1_2 b2_0 b2_1 o3 b4_0 b4_1 o5 o6 v2 v12=>
  joinL (some [((3:Int),v12,v2,b4_0,b4_1,o5,o6)]) (some [((3:Int),v12,v2,b4_0,b4_1,o5,o6)])
noncomputable def Ztv:Spec:=Spec.mk [.ro,O5,Oa,O0,Od,O0,Oh] [(2,.at (.int .i64)),(6,.at (.ptr 1 0)),(7,.at (.ptr 2 0)),(9,.at (.ptr 4 0)),(10,.at (.sl 6)),(12,.at (.int .i64))]
noncomputable def ZKs:Spec:=Spec.mk [.ro,O5,Oa,O0,Oh] [(6,.at (.ptr 1 0)),(7,.at (.ptr 2 0)),(8,.at (.sl 4))]
noncomputable def Z8J:LoopDef (Tup Z9C×OutD):= .plain Ztv ZKs (Int×Int×Int×Int×Int×List (Int×Int)×List (List Int)) (fun k x=>Z7u k x.1.2.1.1 x.1.2.1.2.1 x.1.2.1.2.2.1 x.1.2.2.1.1 x.1.2.2.1.2.1 x.1.2.2.2.1 x.1.2.2.2.2.1.1 x.1.2.2.2.2.1.2.1 x.1.2.2.2.2.2.1 x.1.2.2.2.2.2.2.1 x.2.1 x.2.2.2.2.2.2.1) (fun z=>(((),(z.1,z.2.1,z.2.2.1,()),(z.2.2.2.1,z.2.2.2.2.1,(),()),z.2.2.2.2.2.1,z.2.2.2.2.2.2,()),((),(),(),()))) (fun y=>(y.1.2.1.1,y.1.2.1.2.1,y.1.2.1.2.2.1,y.1.2.2.1.1,y.1.2.2.1.2.1,y.1.2.2.2.1,y.1.2.2.2.2.1)) (fun _=>rfl)
theorem ZKQ(k:Nat)(b1_0:Int)(b1_1:Int)(b1_2:Int)(b2_0:Int)(b2_1:Int)(o3:List (Int×Int))(b4_0:Int)(b4_1:Int)(o5:List (Int×Int))(o6:List (List Int))(v2:Int)(v12:Int):ZfE k b1_0 b1_1 b1_2 b2_0 b2_1 o3 b4_0 b4_1 o5 o6 v2 v12=repl 2 (Z7u k b1_0 b1_1 b1_2 b2_0 b2_1 o3 b4_0 b4_1 o5 o6 v2 v12):=by
 first
 |(simp only[ZfE,Z7u,Z9,Zc,Z6,Z8,Z7,Z3,if_true];done)
 |(simp only[ZfE,Z7u,Z9,Zc,Z6,Z8,Z7,Z3,if_true];simp only[Z1g,Z1i,Z2p,Z3];simp only[Z3E];exact Z1F ⟨fun h=>by simp only[h,and_self],fun h=>by simp only[h,and_self]⟩)
noncomputable def Z7S:Nat→Int→Int→List (Int×Int)→Int→Int→Int→Int→Int→List (Int×Int)→Int→Int→List (Int×Int)→List (List Int)→List Int→Int→Int→Int→Option (LR (Int×Int×List (Int×Int)×Int×Int×Int×Int×Int×List (Int×Int)×Int×Int×List (Int×Int)×List (List Int)×Int) ((Int×Int×Int)×(Int×Int×List (Int×Int))×List (List Int)))
 |0,_,_,_,_,_,_,_,_,_,_,_,_,_,_,_,_,_=>none
 |k+1,b1_0,b1_1,b1_2,b2_0,b2_1,b2_2,b3_0,b3_1,o4,b5_0,b5_1,o6,o7,v1,v2,v11,v12=>
  if decide (v12<b1_0)=true then if List.length o7+List.length [[v12,v2]]≤(140737488355328/24:Nat) then Option.bind (ZbE k (b5_0,b5_1,o6) v12 v2) fun z1=>if decide (z1.1=5)=true then Option.bind (Z7h k b2_0 b2_1 b2_2 b3_0 b3_1 o4 b5_0 b5_1 o6 (o7++[[v12,v2]]) v2 v12) fun z2=>some (LR.ret ((z2.1,z2.2.1,z2.2.2.1),(z2.2.2.2.1,z2.2.2.2.2.1,z2.2.2.2.2.2.1),z2.2.2.2.2.2.2)) else Option.bind (Zdo k (z1.1,z1.2) v11) fun z3=>Option.bind (Zdl k (b5_0,b5_1,o6) v1 (wrap64 (wrap64 (v12*b1_1)+v2))) fun z4=>Option.bind (Z1f k (wrap64 (v2+z3)) (0:Int) (wrap64 (b1_1-1))) fun z5=>if (!z5)=true then Option.bind (Z7u k b2_0 b2_1 b2_2 b3_0 b3_1 o4 b5_0 b5_1 z4 (o7++[[v12,v2]]) (wrap64 (v2+z3)) v12) fun z6=>some (LR.ret ((z6.1,z6.2.1,z6.2.2.1),(z6.2.2.2.1,z6.2.2.2.2.1,z6.2.2.2.2.2.1),z6.2.2.2.2.2.2)) else Z7S k b1_0 b1_1 b1_2 b2_0 b2_1 b2_2 b3_0 b3_1 o4 b5_0 b5_1 z4 (o7++[[v12,v2]]) v1 (wrap64 (v2+z3)) (wrap64 ((0:Int)-z3)) (wrap64 (v12+1)) else none else some (LR.go (b1_0,b1_1,b1_2,b2_0,b2_1,b2_2,b3_0,b3_1,o4,b5_0,b5_1,o6,o7,v2))
noncomputable def Zon:Spec:=Spec.mk [.ro,O2,O5,O6,O0,O7,O0,Oh] [(1,.at (.snap 0 I6)),(2,.at (.int .i64)),(3,.at (.ptr 1 0)),(6,.at (.ptr 2 0)),(7,.at (.ptr 3 0)),(9,.at (.ptr 5 0)),(10,.at (.sl 7)),(11,.at (.int .i64)),(12,.at (.int .i64))]
noncomputable def ZOf:Spec:=Spec.mk [.ro,O2,O5,O6,O0,O7,O0,Oh] [(2,.at (.int .i64)),(3,.at (.ptr 1 0)),(6,.at (.ptr 2 0)),(7,.at (.ptr 3 0)),(9,.at (.ptr 5 0)),(10,.at (.sl 7))]
noncomputable def Zc3:LoopDef (Tup Z9C×OutD):= .rets Zon ZOf (Int×Int×List (Int×Int)×Int×Int×Int×Int×Int×List (Int×Int)×Int×Int×List (Int×Int)×List (List Int)×Int) ((Int×Int×Int)×(Int×Int×List (Int×Int))×List (List Int)) (fun k x=>Z7S k x.1.2.1.1 x.1.2.1.2.1 x.1.2.1.2.2.1 x.1.2.2.1.1 x.1.2.2.1.2.1 x.1.2.2.1.2.2.1 x.1.2.2.2.1.1 x.1.2.2.2.1.2.1 x.1.2.2.2.2.1 x.1.2.2.2.2.2.1.1 x.1.2.2.2.2.2.1.2.1 x.1.2.2.2.2.2.2.1 x.1.2.2.2.2.2.2.2.1 x.2.1 x.2.2.1 x.2.2.2.2.2.2.2.2.1 x.2.2.2.2.2.2.2.2.2.1) (fun z=>(((),(z.1,z.2.1,z.2.2.1,()),(z.2.2.2.1,z.2.2.2.2.1,z.2.2.2.2.2.1,()),(z.2.2.2.2.2.2.1,z.2.2.2.2.2.2.2.1,(),()),z.2.2.2.2.2.2.2.2.1,(z.2.2.2.2.2.2.2.2.2.1,z.2.2.2.2.2.2.2.2.2.2.1,(),()),z.2.2.2.2.2.2.2.2.2.2.2.1,z.2.2.2.2.2.2.2.2.2.2.2.2.1,()),(z.2.2.2.2.2.2.2.2.2.2.2.2.2,(),(),(),(),(),()))) (fun y=>(y.1.2.1.1,y.1.2.1.2.1,y.1.2.1.2.2.1,y.1.2.2.1.1,y.1.2.2.1.2.1,y.1.2.2.1.2.2.1,y.1.2.2.2.1.1,y.1.2.2.2.1.2.1,y.1.2.2.2.2.1,y.1.2.2.2.2.2.1.1,y.1.2.2.2.2.2.1.2.1,y.1.2.2.2.2.2.2.1,y.1.2.2.2.2.2.2.2.1,y.2.1)) (fun _=>rfl) Ztz ZsK Zv6
noncomputable def ZaE:Nat→Int→Int→List (Int×Int)→Int→Int→Int→Int→Int→List (Int×Int)→Int→Int→List (Int×Int)→List (List Int)→Int→Option (Int×Int×Int×Int×Int×List (Int×Int)×List (List Int)):=fun k b1_0 b1_1 b1_2 b2_0 b2_1 b2_2 b3_0 b3_1 o4 b5_0 b5_1 o6 o7 v2=>
  some ((1:Int),b1_0,v2,b5_0,b5_1,o6,o7)
noncomputable def Zgl:Nat→Int→Int→List (Int×Int)→Int→Int→Int→Int→Int→List (Int×Int)→Int→Int→List (Int×Int)→List (List Int)→Int→Option (List (Int×Int×Int×Int×Int×List (Int×Int)×List (List Int))):=fun k b1_0 b1_1 b1_2 b2_0 b2_1 b2_2 b3_0 b3_1 o4 b5_0 b5_1 o6 o7 v2=>
  joinL (some [((1:Int),b1_0,v2,b5_0,b5_1,o6,o7)]) (some [((1:Int),b1_0,v2,b5_0,b5_1,o6,o7)])
noncomputable def Zth:Spec:=Spec.mk [.ro,O2,O5,O6,O0,O7,O0,Oh] [(2,.at (.int .i64)),(3,.at (.ptr 1 0)),(6,.at (.ptr 2 0)),(7,.at (.ptr 3 0)),(9,.at (.ptr 5 0)),(10,.at (.sl 7))]
noncomputable def ZKp:Spec:=Spec.mk [.ro,O5,Oa,O0,Oh] [(6,.at (.ptr 1 0)),(7,.at (.ptr 2 0)),(8,.at (.sl 4))]
noncomputable def Z93:LoopDef (Tup Z9C×OutD):= .plain Zth ZKp (Int×Int×Int×Int×Int×List (Int×Int)×List (List Int)) (fun k x=>ZaE k x.1.2.1.1 x.1.2.1.2.1 x.1.2.1.2.2.1 x.1.2.2.1.1 x.1.2.2.1.2.1 x.1.2.2.1.2.2.1 x.1.2.2.2.1.1 x.1.2.2.2.1.2.1 x.1.2.2.2.2.1 x.1.2.2.2.2.2.1.1 x.1.2.2.2.2.2.1.2.1 x.1.2.2.2.2.2.2.1 x.1.2.2.2.2.2.2.2.1 x.2.1) (fun z=>(((),(z.1,z.2.1,z.2.2.1,()),(z.2.2.2.1,z.2.2.2.2.1,(),()),z.2.2.2.2.2.1,z.2.2.2.2.2.2,()),((),(),(),()))) (fun y=>(y.1.2.1.1,y.1.2.1.2.1,y.1.2.1.2.2.1,y.1.2.2.1.1,y.1.2.2.1.2.1,y.1.2.2.2.1,y.1.2.2.2.2.1)) (fun _=>rfl)
theorem ZLi(k:Nat)(b1_0:Int)(b1_1:Int)(b1_2:List (Int×Int))(b2_0:Int)(b2_1:Int)(b2_2:Int)(b3_0:Int)(b3_1:Int)(o4:List (Int×Int))(b5_0:Int)(b5_1:Int)(o6:List (Int×Int))(o7:List (List Int))(v2:Int):Zgl k b1_0 b1_1 b1_2 b2_0 b2_1 b2_2 b3_0 b3_1 o4 b5_0 b5_1 o6 o7 v2=repl 2 (ZaE k b1_0 b1_1 b1_2 b2_0 b2_1 b2_2 b3_0 b3_1 o4 b5_0 b5_1 o6 o7 v2):=by
 first
 |(simp only[Zgl,ZaE,Z9,Zc,Z6,Z8,Z7,Z3,if_true];done)
 |(simp only[Zgl,ZaE,Z9,Zc,Z6,Z8,Z7,Z3,if_true];simp only[Z1g,Z1i,Z2p,Z3];simp only[Z3E];exact Z1F ⟨fun h=>by simp only[h,and_self],fun h=>by simp only[h,and_self]⟩)
noncomputable def Z2F:Nat→Int×Int×List (Int×Int)→List Int→Int→Option ((Int×Int×Int)×(Int×Int×List (Int×Int))×List (List Int))
 |0,_,_,_=>none
 |k+1,p0,p1,p2=>
  Option.bind (Z9R k (p0.1,p0.2.1,p0.2.2)) fun z0=>Option.bind (Z7S k p0.1 p0.2.1 p0.2.2 (0:Int) (0:Int) (0:Int) (0:Int) (0:Int) [] z0.1 z0.2.1 z0.2.2 [] p1 p2 (0:Int) (0:Int)) fun z7=>LR.on z7 (fun y7=>Option.bind (ZaE k y7.1 y7.2.1 y7.2.2.1 y7.2.2.2.1 y7.2.2.2.2.1 y7.2.2.2.2.2.1 y7.2.2.2.2.2.2.1 y7.2.2.2.2.2.2.2.1 y7.2.2.2.2.2.2.2.2.1 y7.2.2.2.2.2.2.2.2.2.1 y7.2.2.2.2.2.2.2.2.2.2.1 y7.2.2.2.2.2.2.2.2.2.2.2.1 y7.2.2.2.2.2.2.2.2.2.2.2.2.1 y7.2.2.2.2.2.2.2.2.2.2.2.2.2) fun z8=>some ((z8.1,z8.2.1,z8.2.2.1),(z8.2.2.2.1,z8.2.2.2.2.1,z8.2.2.2.2.2.1),z8.2.2.2.2.2.2)) fun r7=>some r7
noncomputable def ZbH:FnDef:= .of ZJi Z9C ((Int×Int×Int)×(Int×Int×List (Int×Int))×List (List Int)) (fun k x=>Z2F k x.1 x.2.1 x.2.2.1) Ztz ZsK Zv6
noncomputable def ZdZ:Code:=Tryz.f124.body.getD .skip
noncomputable def Zz:Ctx (Tup Z9C×OutD):={T:=T,G:=[(126,Z5W.E),(133,Z6Y.E),(134,Z6f.E),(135,Z6d.E),(76,Z2j.E)],mvs:=[],no:=0,n:=75,res:=resOf T ZJi Z9C Tryz.f124.results.toList,loops:=[(0,Zc3.E)],regs:=[(10,Z9a.E),(16,Z8J.E),(17,Z93.E)],conds:=[],cuts:=[]}
theorem Zkc(k:Nat):EnvOK Tryz.prog k Zz.G:=(EnvOK.cons (Zsf k) (EnvOK.cons (Zwk k) (EnvOK.cons (ZB6 k) (EnvOK.cons (ZBe k) (EnvOK.cons (Z9L k) (EnvOK.nil mixed))))))
noncomputable def Zl4:Array Oper:=(findReg 10 ZdZ).getD #[]
theorem ZJO(k:Nat)(x:ZrV.D):execD Zz.T Zz.G Zz.mvs k Zl4 (Z9a.inp.st Zz.n x) (outK Zz Z9a)=ZfS k x.1.2.1.1 x.1.2.1.2.1 x.1.2.1.2.2.1 x.1.2.2.1.1 x.1.2.2.1.2.1 x.1.2.2.2.1 x.1.2.2.2.2.1.1 x.1.2.2.2.2.1.2.1 x.1.2.2.2.2.2.1 x.1.2.2.2.2.2.2.1 x.2.1 x.2.2.2.2.2.2.1:=by kernel_rfl
theorem ZHJ(k:Nat):EOK Tryz.prog Zz k Z9a.E (.region 10 Zl4 true):=Z4m (D:=Z9a) (m:=2) T_ok (Zkc k) (fun x=>(ZJO k x).trans (ZKd k x.1.2.1.1 x.1.2.1.2.1 x.1.2.1.2.2.1 x.1.2.2.1.1 x.1.2.2.1.2.1 x.1.2.2.2.1 x.1.2.2.2.2.1.1 x.1.2.2.2.2.1.2.1 x.1.2.2.2.2.2.1 x.1.2.2.2.2.2.2.1 x.2.1 x.2.2.2.2.2.2.1))
noncomputable def ZkS:Array Oper:=(findReg 16 ZdZ).getD #[]
theorem ZL0(k:Nat)(x:Ztv.D):execD Zz.T Zz.G Zz.mvs k ZkS (Z8J.inp.st Zz.n x) (outK Zz Z8J)=ZfE k x.1.2.1.1 x.1.2.1.2.1 x.1.2.1.2.2.1 x.1.2.2.1.1 x.1.2.2.1.2.1 x.1.2.2.2.1 x.1.2.2.2.2.1.1 x.1.2.2.2.2.1.2.1 x.1.2.2.2.2.2.1 x.1.2.2.2.2.2.2.1 x.2.1 x.2.2.2.2.2.2.1:=by kernel_rfl
theorem ZIo(k:Nat):EOK Tryz.prog Zz k Z8J.E (.region 16 ZkS true):=Z4m (D:=Z8J) (m:=2) T_ok (Zkc k) (fun x=>(ZL0 k x).trans (ZKQ k x.1.2.1.1 x.1.2.1.2.1 x.1.2.1.2.2.1 x.1.2.2.1.1 x.1.2.2.1.2.1 x.1.2.2.2.1 x.1.2.2.2.2.1.1 x.1.2.2.2.2.1.2.1 x.1.2.2.2.2.2.1 x.1.2.2.2.2.2.2.1 x.2.1 x.2.2.2.2.2.2.1))
noncomputable def Zl3:Array Oper:=(findReg 17 ZdZ).getD #[]
theorem ZJm(k:Nat)(x:Zth.D):execD Zz.T Zz.G Zz.mvs k Zl3 (Z93.inp.st Zz.n x) (outK Zz Z93)=Zgl k x.1.2.1.1 x.1.2.1.2.1 x.1.2.1.2.2.1 x.1.2.2.1.1 x.1.2.2.1.2.1 x.1.2.2.1.2.2.1 x.1.2.2.2.1.1 x.1.2.2.2.1.2.1 x.1.2.2.2.2.1 x.1.2.2.2.2.2.1.1 x.1.2.2.2.2.2.1.2.1 x.1.2.2.2.2.2.2.1 x.1.2.2.2.2.2.2.2.1 x.2.1:=by kernel_rfl
theorem ZHY(k:Nat):EOK Tryz.prog Zz k Z93.E (.region 17 Zl3 true):=Z4m (D:=Z93) (m:=2) T_ok (Zkc k) (fun x=>(ZJm k x).trans (ZLi k x.1.2.1.1 x.1.2.1.2.1 x.1.2.1.2.2.1 x.1.2.2.1.1 x.1.2.2.1.2.1 x.1.2.2.1.2.2.1 x.1.2.2.2.1.1 x.1.2.2.2.1.2.1 x.1.2.2.2.2.1 x.1.2.2.2.2.2.1.1 x.1.2.2.2.2.2.1.2.1 x.1.2.2.2.2.2.2.1 x.1.2.2.2.2.2.2.2.1 x.2.1))
noncomputable def Zj2:Code:=(findLoop 0 ZdZ).getD .skip
theorem ZNg(k:Nat)(x:Zon.D):Zc3.lp (k+1) x=loopK Zz Zc3 0 Zj2 k x:=by kernel_rfl
theorem ZOv(k:Nat):LOK Tryz.prog Zz k Zj2:=LOK.by [(Z9a.E,.region 10 Zl4 true),(Z8J.E,.region 16 ZkS true)] (by kernel_rfl) (AllOK.cons (ZHJ k) (AllOK.cons (ZIo k) AllOK.nil))
theorem ZOW(x:Zon.D):Zc3.lp 0 x=none:=by kernel_rfl
theorem ZLE(k:Nat):EOK Tryz.prog Zz k Zc3.E (.block 0 (.loop Zj2)):=Zd T_ok Zkc ZOW ZNg ZOv k
theorem ZTm(k:Nat)(x:Tup ZbH.ps):ZbH.f (k+1) x=fnK ZbH Zz ZdZ k x:=by kernel_rfl
theorem ZTq(x:Tup ZbH.ps):ZbH.f 0 x=none:=by kernel_rfl
theorem ZTj(k:Nat):LOK Tryz.prog Zz k ZdZ:=LOK.by [(Zc3.E,.block 0 (.loop Zj2)),(Z93.E,.region 17 Zl3 true)] (by kernel_rfl) (AllOK.cons (ZLE k) (AllOK.cons (ZHY k) AllOK.nil))
theorem ZTy(k:Nat):SoundAt Tryz.prog k 124 ZbH.E:= @Z5 Tryz.prog ZbH Zz 124 Tryz.f124 ZdZ (by kernel_rfl) (by kernel_rfl) (by kernel_rfl) Tryz.func124 (by kernel_rfl) (by kernel_rfl) (by kernel_rfl) T_ok Zkc ZTj ZTq ZTm k
noncomputable def Z4X:List PK:=[PK.mk T6 true none false none,PK.mk (.pair I6 (.pair I6 (.slice 76 P6))) true none false none]
noncomputable def ZJ4:List PK:=[PK.mk (.pair I6 (.pair I6 (.slice 76 P6))) true none false none,PK.mk (.slice 3 I6) false none false none,PK.mk (.slice 58 T6) false none false none,PK.mk I6 false none false none]
noncomputable def ZsB(r:(Int×Int×Int)×Int×Int×List (Int×Int)):Tup Z4X×OutD:=((r.1,r.2,()),none)
noncomputable def Zt0:Tup Z4X×OutD→Option ((Int×Int×Int)×Int×Int×List (Int×Int))
 |(a,none)=>some (a.1,a.2.1)
 |_=>none
theorem ZuG: ∀b r,Zt0 b=some r→ZsB r=b:=by
 rintro ⟨a,_|_⟩ r h<;>cases h;rfl
noncomputable def ZbT:Nat→Int→Int→Int→Int→Int→List (Int×Int)→Int→Int→List (Int×Int)→Int→Int→Option (Int×Int×Int×Int×Int×List (Int×Int)):=fun k b1_0 b1_1 b1_2 b2_0 b2_1 o3 b4_0 b4_1 o5 v3 v12=>
  some ((3:Int),v12,v3,b4_0,b4_1,o5)
noncomputable def Zhq:Nat→Int→Int→Int→Int→Int→List (Int×Int)→Int→Int→List (Int×Int)→Int→Int→Option (List (Int×Int×Int×Int×Int×List (Int×Int))):=fun k b1_0 b1_1 b1_2 b2_0 b2_1 o3 b4_0 b4_1 o5 v3 v12=>
  joinL (some [((3:Int),v12,v3,b4_0,b4_1,o5)]) (some [((3:Int),v12,v3,b4_0,b4_1,o5)])
noncomputable def Zv1:Spec:=Spec.mk [.ro,O5,Oa,O0,Od,O0] [(3,.at (.int .i64)),(8,.at (.ptr 1 0)),(9,.at (.ptr 2 0)),(10,.at (.ptr 4 0)),(12,.at (.int .i64))]
noncomputable def ZN0:Spec:=Spec.mk [.ro,O5,Oa,O0] [(8,.at (.ptr 1 0)),(9,.at (.ptr 2 0))]
noncomputable def ZaF:LoopDef (Tup Z4X×OutD):= .plain Zv1 ZN0 (Int×Int×Int×Int×Int×List (Int×Int)) (fun k x=>ZbT k x.1.2.1.1 x.1.2.1.2.1 x.1.2.1.2.2.1 x.1.2.2.1.1 x.1.2.2.1.2.1 x.1.2.2.2.1 x.1.2.2.2.2.1.1 x.1.2.2.2.2.1.2.1 x.1.2.2.2.2.2.1 x.2.1 x.2.2.2.2.2.1) (fun z=>(((),(z.1,z.2.1,z.2.2.1,()),(z.2.2.2.1,z.2.2.2.2.1,(),()),z.2.2.2.2.2,()),((),(),()))) (fun y=>(y.1.2.1.1,y.1.2.1.2.1,y.1.2.1.2.2.1,y.1.2.2.1.1,y.1.2.2.1.2.1,y.1.2.2.2.1)) (fun _=>rfl)
theorem ZM4(k:Nat)(b1_0:Int)(b1_1:Int)(b1_2:Int)(b2_0:Int)(b2_1:Int)(o3:List (Int×Int))(b4_0:Int)(b4_1:Int)(o5:List (Int×Int))(v3:Int)(v12:Int):Zhq k b1_0 b1_1 b1_2 b2_0 b2_1 o3 b4_0 b4_1 o5 v3 v12=repl 2 (ZbT k b1_0 b1_1 b1_2 b2_0 b2_1 o3 b4_0 b4_1 o5 v3 v12):=by
 first
 |(simp only[Zhq,ZbT,Z9,Zc,Z6,Z8,Z7,Z3,if_true];done)
 |(simp only[Zhq,ZbT,Z9,Zc,Z6,Z8,Z7,Z3,if_true];simp only[Z1g,Z1i,Z2p,Z3];simp only[Z3E];exact Z1F ⟨fun h=>by simp only[h,and_self],fun h=>by simp only[h,and_self]⟩)
noncomputable def ZaD:Nat→Int→Int→Int→Int→Int→List (Int×Int)→Int→Int→List (Int×Int)→Int→Int→Option (Int×Int×Int×Int×Int×List (Int×Int)):=fun k b1_0 b1_1 b1_2 b2_0 b2_1 o3 b4_0 b4_1 o5 v3 v12=>
  some ((2:Int),v12,v3,b4_0,b4_1,o5)
noncomputable def ZfD:Nat→Int→Int→Int→Int→Int→List (Int×Int)→Int→Int→List (Int×Int)→Int→Int→Option (List (Int×Int×Int×Int×Int×List (Int×Int))):=fun k b1_0 b1_1 b1_2 b2_0 b2_1 o3 b4_0 b4_1 o5 v3 v12=>
  joinL (some [((2:Int),v12,v3,b4_0,b4_1,o5)]) (some [((2:Int),v12,v3,b4_0,b4_1,o5)])
noncomputable def ZsU:Spec:=Spec.mk [.ro,O5,Oa,O0,Od,O0] [(3,.at (.int .i64)),(8,.at (.ptr 1 0)),(9,.at (.ptr 2 0)),(10,.at (.ptr 4 0)),(12,.at (.int .i64))]
noncomputable def ZJY:Spec:=Spec.mk [.ro,O5,Oa,O0] [(8,.at (.ptr 1 0)),(9,.at (.ptr 2 0))]
noncomputable def Z8y:LoopDef (Tup Z4X×OutD):= .plain ZsU ZJY (Int×Int×Int×Int×Int×List (Int×Int)) (fun k x=>ZaD k x.1.2.1.1 x.1.2.1.2.1 x.1.2.1.2.2.1 x.1.2.2.1.1 x.1.2.2.1.2.1 x.1.2.2.2.1 x.1.2.2.2.2.1.1 x.1.2.2.2.2.1.2.1 x.1.2.2.2.2.2.1 x.2.1 x.2.2.2.2.2.1) (fun z=>(((),(z.1,z.2.1,z.2.2.1,()),(z.2.2.2.1,z.2.2.2.2.1,(),()),z.2.2.2.2.2,()),((),(),()))) (fun y=>(y.1.2.1.1,y.1.2.1.2.1,y.1.2.1.2.2.1,y.1.2.2.1.1,y.1.2.2.1.2.1,y.1.2.2.2.1)) (fun _=>rfl)
theorem ZKE(k:Nat)(b1_0:Int)(b1_1:Int)(b1_2:Int)(b2_0:Int)(b2_1:Int)(o3:List (Int×Int))(b4_0:Int)(b4_1:Int)(o5:List (Int×Int))(v3:Int)(v12:Int):ZfD k b1_0 b1_1 b1_2 b2_0 b2_1 o3 b4_0 b4_1 o5 v3 v12=repl 2 (ZaD k b1_0 b1_1 b1_2 b2_0 b2_1 o3 b4_0 b4_1 o5 v3 v12):=by
 first
 |(simp only[ZfD,ZaD,Z9,Zc,Z6,Z8,Z7,Z3,if_true];done)
 |(simp only[ZfD,ZaD,Z9,Zc,Z6,Z8,Z7,Z3,if_true];simp only[Z1g,Z1i,Z2p,Z3];simp only[Z3E];exact Z1F ⟨fun h=>by simp only[h,and_self],fun h=>by simp only[h,and_self]⟩)
noncomputable def Zhu:Nat→Int→Int→List (Int×Int)→Int→Int→Int→Int→Int→List (Int×Int)→Int→Int→List (Int×Int)→List Int→List (Int×Int×Int)→Int→Int→Int→Bool→Option (Int×Int×List (Int×Int)×Int×Int×Int×Int×Int×List (Int×Int)×Int×Int×List (Int×Int)×List Int×List (Int×Int×Int)×Int×Int×Int):=fun k b1_0 b1_1 b1_2 b2_0 b2_1 b2_2 b3_0 b3_1 o4 b5_0 b5_1 o6 v1 v2 v3 v12 v15 v52=>
  if v52=true then some (b1_0,b1_1,b1_2,b2_0,b2_1,b2_2,b3_0,b3_1,o4,b5_0,b5_1,o6,v1,v2,v3,v12,wrap64 ((0:Int)-v15)) else some (b1_0,b1_1,b1_2,b2_0,b2_1,b2_2,b3_0,b3_1,o4,b5_0,b5_1,o6,v1,v2,v3,v12,v15)
noncomputable def ZLd:Spec:=Spec.mk [.ro,O2,O5,O6,O0,O7,O0] [(1,.at (.snap 0 I6)),(2,.at (.snap 0 T6)),(3,.at (.int .i64)),(4,.at (.ptr 1 0)),(8,.at (.ptr 2 0)),(9,.at (.ptr 3 0)),(10,.at (.ptr 5 0)),(12,.at (.int .i64)),(15,.at (.int .i64)),(52,.at .bool)]
noncomputable def ZLk:Spec:=Spec.mk [.ro,O2,O5,O6,O0,O7,O0] [(1,.at (.snap 0 I6)),(2,.at (.snap 0 T6)),(3,.at (.int .i64)),(4,.at (.ptr 1 0)),(8,.at (.ptr 2 0)),(9,.at (.ptr 3 0)),(10,.at (.ptr 5 0)),(12,.at (.int .i64)),(15,.at (.int .i64))]
noncomputable def Z22:LoopDef (Tup Z4X×OutD):= .plain ZLd ZLk (Int×Int×List (Int×Int)×Int×Int×Int×Int×Int×List (Int×Int)×Int×Int×List (Int×Int)×List Int×List (Int×Int×Int)×Int×Int×Int) (fun k x=>Zhu k x.1.2.1.1 x.1.2.1.2.1 x.1.2.1.2.2.1 x.1.2.2.1.1 x.1.2.2.1.2.1 x.1.2.2.1.2.2.1 x.1.2.2.2.1.1 x.1.2.2.2.1.2.1 x.1.2.2.2.2.1 x.1.2.2.2.2.2.1.1 x.1.2.2.2.2.2.1.2.1 x.1.2.2.2.2.2.2.1 x.2.1 x.2.2.1 x.2.2.2.1 x.2.2.2.2.2.2.2.2.1 x.2.2.2.2.2.2.2.2.2.1 x.2.2.2.2.2.2.2.2.2.2.1) (fun z=>(((),(z.1,z.2.1,z.2.2.1,()),(z.2.2.2.1,z.2.2.2.2.1,z.2.2.2.2.2.1,()),(z.2.2.2.2.2.2.1,z.2.2.2.2.2.2.2.1,(),()),z.2.2.2.2.2.2.2.2.1,(z.2.2.2.2.2.2.2.2.2.1,z.2.2.2.2.2.2.2.2.2.2.1,(),()),z.2.2.2.2.2.2.2.2.2.2.2.1,()),(z.2.2.2.2.2.2.2.2.2.2.2.2.1,z.2.2.2.2.2.2.2.2.2.2.2.2.2.1,z.2.2.2.2.2.2.2.2.2.2.2.2.2.2.1,(),(),(),(),z.2.2.2.2.2.2.2.2.2.2.2.2.2.2.2.1,z.2.2.2.2.2.2.2.2.2.2.2.2.2.2.2.2,()))) (fun y=>(y.1.2.1.1,y.1.2.1.2.1,y.1.2.1.2.2.1,y.1.2.2.1.1,y.1.2.2.1.2.1,y.1.2.2.1.2.2.1,y.1.2.2.2.1.1,y.1.2.2.2.1.2.1,y.1.2.2.2.2.1,y.1.2.2.2.2.2.1.1,y.1.2.2.2.2.2.1.2.1,y.1.2.2.2.2.2.2.1,y.2.1,y.2.2.1,y.2.2.2.1,y.2.2.2.2.2.2.2.2.1,y.2.2.2.2.2.2.2.2.2.1)) (fun _=>rfl)
noncomputable def Zb0:Nat→Int→Int→List (Int×Int)→Int→Int→Int→Int→Int→List (Int×Int)→Int→Int→List (Int×Int)→List Int→List (Int×Int×Int)→Int→Int→Int→List (Int×Int×Int)→Int→Int→Option (Int×Int×List (Int×Int)×Int×Int×Int×Int×Int×List (Int×Int)×Int×Int×List (Int×Int)×List Int×List (Int×Int×Int)×Int×Int×Int)
 |0,_,_,_,_,_,_,_,_,_,_,_,_,_,_,_,_,_,_,_,_=>none
 |k+1,b1_0,b1_1,b1_2,b2_0,b2_1,b2_2,b3_0,b3_1,o4,b5_0,b5_1,o6,v1,v2,v3,v12,v15,v64,v65,v66=>
  if decide (v66<v65)=true then if (0:Int)≤v66 then if v66<(↑(List.length v64):Int) then if decide (Prod.fst (List.getD v64 (Int.toNat v66) ((0:Int),(0:Int),(0:Int)))=1)=true then if (0:Int)≤wrap64 (wrap64 (Prod.fst (Prod.snd (List.getD v64 (Int.toNat v66) ((0:Int),(0:Int),(0:Int))))*b1_1)+Prod.snd (Prod.snd (List.getD v64 (Int.toNat v66) ((0:Int),(0:Int),(0:Int))))) then if wrap64 (wrap64 (Prod.fst (Prod.snd (List.getD v64 (Int.toNat v66) ((0:Int),(0:Int),(0:Int))))*b1_1)+Prod.snd (Prod.snd (List.getD v64 (Int.toNat v66) ((0:Int),(0:Int),(0:Int)))))<(↑(List.length b1_2):Int) then if (0:Int)≤wrap64 (wrap64 (Prod.fst (Prod.snd (List.getD v64 (Int.toNat v66) ((0:Int),(0:Int),(0:Int))))*b1_1)+Prod.snd (Prod.snd (List.getD v64 (Int.toNat v66) ((0:Int),(0:Int),(0:Int))))) then if wrap64 (wrap64 (Prod.fst (Prod.snd (List.getD v64 (Int.toNat v66) ((0:Int),(0:Int),(0:Int))))*b1_1)+Prod.snd (Prod.snd (List.getD v64 (Int.toNat v66) ((0:Int),(0:Int),(0:Int)))))<(↑(List.length o6):Int) then Zb0 k b1_0 b1_1 b1_2 b2_0 b2_1 b2_2 b3_0 b3_1 o4 b5_0 b5_1 (List.set o6 (Int.toNat (wrap64 (wrap64 (Prod.fst (Prod.snd (List.getD v64 (Int.toNat v66) ((0:Int),(0:Int),(0:Int))))*b1_1)+Prod.snd (Prod.snd (List.getD v64 (Int.toNat v66) ((0:Int),(0:Int),(0:Int))))))) (Prod.fst (List.getD b1_2 (Int.toNat (wrap64 (wrap64 (Prod.fst (Prod.snd (List.getD v64 (Int.toNat v66) ((0:Int),(0:Int),(0:Int))))*b1_1)+Prod.snd (Prod.snd (List.getD v64 (Int.toNat v66) ((0:Int),(0:Int),(0:Int))))))) ((0:Int),(0:Int))),Prod.snd (List.getD b1_2 (Int.toNat (wrap64 (wrap64 (Prod.fst (Prod.snd (List.getD v64 (Int.toNat v66) ((0:Int),(0:Int),(0:Int))))*b1_1)+Prod.snd (Prod.snd (List.getD v64 (Int.toNat v66) ((0:Int),(0:Int),(0:Int))))))) ((0:Int),(0:Int))))) v1 v2 v3 v12 v15 v64 v65 (wrap64 (v66+1)) else none else none else none else none else Zb0 k b1_0 b1_1 b1_2 b2_0 b2_1 b2_2 b3_0 b3_1 o4 b5_0 b5_1 o6 v1 v2 v3 v12 v15 v64 v65 (wrap64 (v66+1)) else none else none else some (b1_0,b1_1,b1_2,b2_0,b2_1,b2_2,b3_0,b3_1,o4,b5_0,b5_1,o6,v1,v2,v3,v12,v15)
noncomputable def Zob:Spec:=Spec.mk [.ro,O2,O5,O6,O0,O7,O0] [(1,.at (.snap 0 I6)),(2,.at (.snap 0 T6)),(3,.at (.int .i64)),(4,.at (.ptr 1 0)),(8,.at (.ptr 2 0)),(9,.at (.ptr 3 0)),(10,.at (.ptr 5 0)),(12,.at (.int .i64)),(15,.at (.int .i64)),(64,.at (.snap 0 T6)),(65,.at (.int .i64)),(66,.at (.int .i64))]
noncomputable def ZOx:Spec:=Spec.mk [.ro,O2,O5,O6,O0,O7,O0] [(1,.at (.snap 0 I6)),(2,.at (.snap 0 T6)),(3,.at (.int .i64)),(4,.at (.ptr 1 0)),(8,.at (.ptr 2 0)),(9,.at (.ptr 3 0)),(10,.at (.ptr 5 0)),(12,.at (.int .i64)),(15,.at (.int .i64))]
noncomputable def ZbS:LoopDef (Tup Z4X×OutD):= .plain Zob ZOx (Int×Int×List (Int×Int)×Int×Int×Int×Int×Int×List (Int×Int)×Int×Int×List (Int×Int)×List Int×List (Int×Int×Int)×Int×Int×Int) (fun k x=>Zb0 k x.1.2.1.1 x.1.2.1.2.1 x.1.2.1.2.2.1 x.1.2.2.1.1 x.1.2.2.1.2.1 x.1.2.2.1.2.2.1 x.1.2.2.2.1.1 x.1.2.2.2.1.2.1 x.1.2.2.2.2.1 x.1.2.2.2.2.2.1.1 x.1.2.2.2.2.2.1.2.1 x.1.2.2.2.2.2.2.1 x.2.1 x.2.2.1 x.2.2.2.1 x.2.2.2.2.2.2.2.2.1 x.2.2.2.2.2.2.2.2.2.1 x.2.2.2.2.2.2.2.2.2.2.1 x.2.2.2.2.2.2.2.2.2.2.2.1 x.2.2.2.2.2.2.2.2.2.2.2.2.1) (fun z=>(((),(z.1,z.2.1,z.2.2.1,()),(z.2.2.2.1,z.2.2.2.2.1,z.2.2.2.2.2.1,()),(z.2.2.2.2.2.2.1,z.2.2.2.2.2.2.2.1,(),()),z.2.2.2.2.2.2.2.2.1,(z.2.2.2.2.2.2.2.2.2.1,z.2.2.2.2.2.2.2.2.2.2.1,(),()),z.2.2.2.2.2.2.2.2.2.2.2.1,()),(z.2.2.2.2.2.2.2.2.2.2.2.2.1,z.2.2.2.2.2.2.2.2.2.2.2.2.2.1,z.2.2.2.2.2.2.2.2.2.2.2.2.2.2.1,(),(),(),(),z.2.2.2.2.2.2.2.2.2.2.2.2.2.2.2.1,z.2.2.2.2.2.2.2.2.2.2.2.2.2.2.2.2,()))) (fun y=>(y.1.2.1.1,y.1.2.1.2.1,y.1.2.1.2.2.1,y.1.2.2.1.1,y.1.2.2.1.2.1,y.1.2.2.1.2.2.1,y.1.2.2.2.1.1,y.1.2.2.2.1.2.1,y.1.2.2.2.2.1,y.1.2.2.2.2.2.1.1,y.1.2.2.2.2.2.1.2.1,y.1.2.2.2.2.2.2.1,y.2.1,y.2.2.1,y.2.2.2.1,y.2.2.2.2.2.2.2.2.1,y.2.2.2.2.2.2.2.2.2.1)) (fun _=>rfl)
noncomputable def ZaB:Nat→Int→Int→Int→Int→Int→List (Int×Int)→Int→Int→List (Int×Int)→Int→Int→Option (Int×Int×Int×Int×Int×List (Int×Int)):=fun k b1_0 b1_1 b1_2 b2_0 b2_1 o3 b4_0 b4_1 o5 v3 v12=>
  some ((3:Int),v12,v3,b4_0,b4_1,o5)
noncomputable def ZfJ:Nat→Int→Int→Int→Int→Int→List (Int×Int)→Int→Int→List (Int×Int)→Int→Int→Option (List (Int×Int×Int×Int×Int×List (Int×Int))):=fun k b1_0 b1_1 b1_2 b2_0 b2_1 o3 b4_0 b4_1 o5 v3 v12=>
  joinL (some [((3:Int),v12,v3,b4_0,b4_1,o5)]) (some [((3:Int),v12,v3,b4_0,b4_1,o5)])
noncomputable def Zsy:Spec:=Spec.mk [.ro,O5,Oa,O0,Od,O0] [(3,.at (.int .i64)),(8,.at (.ptr 1 0)),(9,.at (.ptr 2 0)),(10,.at (.ptr 4 0)),(12,.at (.int .i64))]
noncomputable def ZK1:Spec:=Spec.mk [.ro,O5,Oa,O0] [(8,.at (.ptr 1 0)),(9,.at (.ptr 2 0))]
noncomputable def Z99:LoopDef (Tup Z4X×OutD):= .plain Zsy ZK1 (Int×Int×Int×Int×Int×List (Int×Int)) (fun k x=>ZaB k x.1.2.1.1 x.1.2.1.2.1 x.1.2.1.2.2.1 x.1.2.2.1.1 x.1.2.2.1.2.1 x.1.2.2.2.1 x.1.2.2.2.2.1.1 x.1.2.2.2.2.1.2.1 x.1.2.2.2.2.2.1 x.2.1 x.2.2.2.2.2.1) (fun z=>(((),(z.1,z.2.1,z.2.2.1,()),(z.2.2.2.1,z.2.2.2.2.1,(),()),z.2.2.2.2.2,()),((),(),()))) (fun y=>(y.1.2.1.1,y.1.2.1.2.1,y.1.2.1.2.2.1,y.1.2.2.1.1,y.1.2.2.1.2.1,y.1.2.2.2.1)) (fun _=>rfl)
theorem ZL5(k:Nat)(b1_0:Int)(b1_1:Int)(b1_2:Int)(b2_0:Int)(b2_1:Int)(o3:List (Int×Int))(b4_0:Int)(b4_1:Int)(o5:List (Int×Int))(v3:Int)(v12:Int):ZfJ k b1_0 b1_1 b1_2 b2_0 b2_1 o3 b4_0 b4_1 o5 v3 v12=repl 2 (ZaB k b1_0 b1_1 b1_2 b2_0 b2_1 o3 b4_0 b4_1 o5 v3 v12):=by
 first
 |(simp only[ZfJ,ZaB,Z9,Zc,Z6,Z8,Z7,Z3,if_true];done)
 |(simp only[ZfJ,ZaB,Z9,Zc,Z6,Z8,Z7,Z3,if_true];simp only[Z1g,Z1i,Z2p,Z3];simp only[Z3E];exact Z1F ⟨fun h=>by simp only[h,and_self],fun h=>by simp only[h,and_self]⟩)
noncomputable def Zda:Nat→Int→Int→List (Int×Int)→Int→Int→Int→Int→Int→List (Int×Int)→Int→Int→List (Int×Int)→List Int→List (Int×Int×Int)→Int→Int→Int→Option (LR (Int×Int×List (Int×Int)×Int×Int×Int×Int×Int×List (Int×Int)×Int×Int×List (Int×Int)×Int) ((Int×Int×Int)×Int×Int×List (Int×Int)))
 |0,_,_,_,_,_,_,_,_,_,_,_,_,_,_,_,_,_=>none
 |k+1,b1_0,b1_1,b1_2,b2_0,b2_1,b2_2,b3_0,b3_1,o4,b5_0,b5_1,o6,v1,v2,v3,v11,v12=>
  if decide (v12<b1_0)=true then Option.bind (ZbE k (b5_0,b5_1,o6) v12 v3) fun z1=>Option.bind (ZoV k v2 v12 v3) fun z2=>if decide (z2=2)=true then Option.bind (ZbT k b2_0 b2_1 b2_2 b3_0 b3_1 o4 b5_0 b5_1 o6 v3 v12) fun z3=>some (LR.ret ((z3.1,z3.2.1,z3.2.2.1),z3.2.2.2.1,z3.2.2.2.2.1,z3.2.2.2.2.2)) else if decide (z1.1=5)=true then Option.bind (ZaD k b2_0 b2_1 b2_2 b3_0 b3_1 o4 b5_0 b5_1 o6 v3 v12) fun z4=>some (LR.ret ((z4.1,z4.2.1,z4.2.2.1),z4.2.2.2.1,z4.2.2.2.2.1,z4.2.2.2.2.2)) else Option.bind (Zdo k (z1.1,z1.2) v11) fun z5=>Option.bind (Zhu k b1_0 b1_1 b1_2 b2_0 b2_1 b2_2 b3_0 b3_1 o4 b5_0 b5_1 o6 v1 v2 v3 v12 z5 (decide (z2=3))) fun z6=>Option.bind (Zdl k (z6.2.2.2.2.2.2.2.2.2.1,z6.2.2.2.2.2.2.2.2.2.2.1,z6.2.2.2.2.2.2.2.2.2.2.2.1) z6.2.2.2.2.2.2.2.2.2.2.2.2.1 (wrap64 (wrap64 (z6.2.2.2.2.2.2.2.2.2.2.2.2.2.2.2.1*z6.2.1)+z6.2.2.2.2.2.2.2.2.2.2.2.2.2.2.1))) fun z7=>Option.bind (Zb0 k z6.1 z6.2.1 z6.2.2.1 z6.2.2.2.1 z6.2.2.2.2.1 z6.2.2.2.2.2.1 z6.2.2.2.2.2.2.1 z6.2.2.2.2.2.2.2.1 z6.2.2.2.2.2.2.2.2.1 z6.2.2.2.2.2.2.2.2.2.1 z6.2.2.2.2.2.2.2.2.2.2.1 z7 z6.2.2.2.2.2.2.2.2.2.2.2.2.1 z6.2.2.2.2.2.2.2.2.2.2.2.2.2.1 z6.2.2.2.2.2.2.2.2.2.2.2.2.2.2.1 z6.2.2.2.2.2.2.2.2.2.2.2.2.2.2.2.1 z6.2.2.2.2.2.2.2.2.2.2.2.2.2.2.2.2 z6.2.2.2.2.2.2.2.2.2.2.2.2.2.1 (↑(List.length z6.2.2.2.2.2.2.2.2.2.2.2.2.2.1):Int) (0:Int)) fun z8=>Option.bind (Z1f k (wrap64 (z8.2.2.2.2.2.2.2.2.2.2.2.2.2.2.1+z8.2.2.2.2.2.2.2.2.2.2.2.2.2.2.2.2)) (0:Int) (wrap64 (z8.2.1-1))) fun z9=>if (!z9)=true then Option.bind (ZaB k z8.2.2.2.1 z8.2.2.2.2.1 z8.2.2.2.2.2.1 z8.2.2.2.2.2.2.1 z8.2.2.2.2.2.2.2.1 z8.2.2.2.2.2.2.2.2.1 z8.2.2.2.2.2.2.2.2.2.1 z8.2.2.2.2.2.2.2.2.2.2.1 z8.2.2.2.2.2.2.2.2.2.2.2.1 (wrap64 (z8.2.2.2.2.2.2.2.2.2.2.2.2.2.2.1+z8.2.2.2.2.2.2.2.2.2.2.2.2.2.2.2.2)) z8.2.2.2.2.2.2.2.2.2.2.2.2.2.2.2.1) fun z10=>some (LR.ret ((z10.1,z10.2.1,z10.2.2.1),z10.2.2.2.1,z10.2.2.2.2.1,z10.2.2.2.2.2)) else Zda k z8.1 z8.2.1 z8.2.2.1 z8.2.2.2.1 z8.2.2.2.2.1 z8.2.2.2.2.2.1 z8.2.2.2.2.2.2.1 z8.2.2.2.2.2.2.2.1 z8.2.2.2.2.2.2.2.2.1 z8.2.2.2.2.2.2.2.2.2.1 z8.2.2.2.2.2.2.2.2.2.2.1 z8.2.2.2.2.2.2.2.2.2.2.2.1 z8.2.2.2.2.2.2.2.2.2.2.2.2.1 z8.2.2.2.2.2.2.2.2.2.2.2.2.2.1 (wrap64 (z8.2.2.2.2.2.2.2.2.2.2.2.2.2.2.1+z8.2.2.2.2.2.2.2.2.2.2.2.2.2.2.2.2)) (wrap64 ((0:Int)-z8.2.2.2.2.2.2.2.2.2.2.2.2.2.2.2.2)) (wrap64 (z8.2.2.2.2.2.2.2.2.2.2.2.2.2.2.2.1+1)) else some (LR.go (b1_0,b1_1,b1_2,b2_0,b2_1,b2_2,b3_0,b3_1,o4,b5_0,b5_1,o6,v3))
noncomputable def Zoz:Spec:=Spec.mk [.ro,O2,O5,O6,O0,O7,O0] [(1,.at (.snap 0 I6)),(2,.at (.snap 0 T6)),(3,.at (.int .i64)),(4,.at (.ptr 1 0)),(8,.at (.ptr 2 0)),(9,.at (.ptr 3 0)),(10,.at (.ptr 5 0)),(11,.at (.int .i64)),(12,.at (.int .i64))]
noncomputable def ZOD:Spec:=Spec.mk [.ro,O2,O5,O6,O0,O7,O0] [(3,.at (.int .i64)),(4,.at (.ptr 1 0)),(8,.at (.ptr 2 0)),(9,.at (.ptr 3 0)),(10,.at (.ptr 5 0))]
noncomputable def ZbV:LoopDef (Tup Z4X×OutD):= .rets Zoz ZOD (Int×Int×List (Int×Int)×Int×Int×Int×Int×Int×List (Int×Int)×Int×Int×List (Int×Int)×Int) ((Int×Int×Int)×Int×Int×List (Int×Int)) (fun k x=>Zda k x.1.2.1.1 x.1.2.1.2.1 x.1.2.1.2.2.1 x.1.2.2.1.1 x.1.2.2.1.2.1 x.1.2.2.1.2.2.1 x.1.2.2.2.1.1 x.1.2.2.2.1.2.1 x.1.2.2.2.2.1 x.1.2.2.2.2.2.1.1 x.1.2.2.2.2.2.1.2.1 x.1.2.2.2.2.2.2.1 x.2.1 x.2.2.1 x.2.2.2.1 x.2.2.2.2.2.2.2.2.1 x.2.2.2.2.2.2.2.2.2.1) (fun z=>(((),(z.1,z.2.1,z.2.2.1,()),(z.2.2.2.1,z.2.2.2.2.1,z.2.2.2.2.2.1,()),(z.2.2.2.2.2.2.1,z.2.2.2.2.2.2.2.1,(),()),z.2.2.2.2.2.2.2.2.1,(z.2.2.2.2.2.2.2.2.2.1,z.2.2.2.2.2.2.2.2.2.2.1,(),()),z.2.2.2.2.2.2.2.2.2.2.2.1,()),(z.2.2.2.2.2.2.2.2.2.2.2.2,(),(),(),(),()))) (fun y=>(y.1.2.1.1,y.1.2.1.2.1,y.1.2.1.2.2.1,y.1.2.2.1.1,y.1.2.2.1.2.1,y.1.2.2.1.2.2.1,y.1.2.2.2.1.1,y.1.2.2.2.1.2.1,y.1.2.2.2.2.1,y.1.2.2.2.2.2.1.1,y.1.2.2.2.2.2.1.2.1,y.1.2.2.2.2.2.2.1,y.2.1)) (fun _=>rfl) ZsB Zt0 ZuG
noncomputable def Zao:Nat→Int→Int→List (Int×Int)→Int→Int→Int→Int→Int→List (Int×Int)→Int→Int→List (Int×Int)→Int→Option (Int×Int×Int×Int×Int×List (Int×Int)):=fun k b1_0 b1_1 b1_2 b2_0 b2_1 b2_2 b3_0 b3_1 o4 b5_0 b5_1 o6 v3=>
  some ((1:Int),b1_0,v3,b5_0,b5_1,o6)
noncomputable def Zg4:Nat→Int→Int→List (Int×Int)→Int→Int→Int→Int→Int→List (Int×Int)→Int→Int→List (Int×Int)→Int→Option (List (Int×Int×Int×Int×Int×List (Int×Int))):=fun k b1_0 b1_1 b1_2 b2_0 b2_1 b2_2 b3_0 b3_1 o4 b5_0 b5_1 o6 v3=>
  joinL (some [((1:Int),b1_0,v3,b5_0,b5_1,o6)]) (some [((1:Int),b1_0,v3,b5_0,b5_1,o6)])
noncomputable def Zs4:Spec:=Spec.mk [.ro,O2,O5,O6,O0,O7,O0] [(3,.at (.int .i64)),(4,.at (.ptr 1 0)),(8,.at (.ptr 2 0)),(9,.at (.ptr 3 0)),(10,.at (.ptr 5 0))]
noncomputable def ZLx:Spec:=Spec.mk [.ro,O5,Oa,O0] [(8,.at (.ptr 1 0)),(9,.at (.ptr 2 0))]
noncomputable def Z98:LoopDef (Tup Z4X×OutD):= .plain Zs4 ZLx (Int×Int×Int×Int×Int×List (Int×Int)) (fun k x=>Zao k x.1.2.1.1 x.1.2.1.2.1 x.1.2.1.2.2.1 x.1.2.2.1.1 x.1.2.2.1.2.1 x.1.2.2.1.2.2.1 x.1.2.2.2.1.1 x.1.2.2.2.1.2.1 x.1.2.2.2.2.1 x.1.2.2.2.2.2.1.1 x.1.2.2.2.2.2.1.2.1 x.1.2.2.2.2.2.2.1 x.2.1) (fun z=>(((),(z.1,z.2.1,z.2.2.1,()),(z.2.2.2.1,z.2.2.2.2.1,(),()),z.2.2.2.2.2,()),((),(),()))) (fun y=>(y.1.2.1.1,y.1.2.1.2.1,y.1.2.1.2.2.1,y.1.2.2.1.1,y.1.2.2.1.2.1,y.1.2.2.2.1)) (fun _=>rfl)
theorem ZKG(k:Nat)(b1_0:Int)(b1_1:Int)(b1_2:List (Int×Int))(b2_0:Int)(b2_1:Int)(b2_2:Int)(b3_0:Int)(b3_1:Int)(o4:List (Int×Int))(b5_0:Int)(b5_1:Int)(o6:List (Int×Int))(v3:Int):Zg4 k b1_0 b1_1 b1_2 b2_0 b2_1 b2_2 b3_0 b3_1 o4 b5_0 b5_1 o6 v3=repl 2 (Zao k b1_0 b1_1 b1_2 b2_0 b2_1 b2_2 b3_0 b3_1 o4 b5_0 b5_1 o6 v3):=by
 first
 |(simp only[Zg4,Zao,Z9,Zc,Z6,Z8,Z7,Z3,if_true];done)
 |(simp only[Zg4,Zao,Z9,Zc,Z6,Z8,Z7,Z3,if_true];simp only[Z1g,Z1i,Z2p,Z3];simp only[Z3E];exact Z1F ⟨fun h=>by simp only[h,and_self],fun h=>by simp only[h,and_self]⟩)
noncomputable def ZoS:Nat→Int×Int×List (Int×Int)→List Int→List (Int×Int×Int)→Int→Option ((Int×Int×Int)×Int×Int×List (Int×Int))
 |0,_,_,_,_=>none
 |k+1,p0,p1,p2,p3=>
  Option.bind (Z9R k (p0.1,p0.2.1,p0.2.2)) fun z0=>Option.bind (Zda k p0.1 p0.2.1 p0.2.2 (0:Int) (0:Int) (0:Int) (0:Int) (0:Int) [] z0.1 z0.2.1 z0.2.2 p1 p2 p3 (0:Int) (0:Int)) fun z11=>LR.on z11 (fun y11=>Option.bind (Zao k y11.1 y11.2.1 y11.2.2.1 y11.2.2.2.1 y11.2.2.2.2.1 y11.2.2.2.2.2.1 y11.2.2.2.2.2.2.1 y11.2.2.2.2.2.2.2.1 y11.2.2.2.2.2.2.2.2.1 y11.2.2.2.2.2.2.2.2.2.1 y11.2.2.2.2.2.2.2.2.2.2.1 y11.2.2.2.2.2.2.2.2.2.2.2.1 y11.2.2.2.2.2.2.2.2.2.2.2.2) fun z12=>some ((z12.1,z12.2.1,z12.2.2.1),z12.2.2.2.1,z12.2.2.2.2.1,z12.2.2.2.2.2)) fun r11=>some r11
noncomputable def ZbD:FnDef:= .of ZJ4 Z4X ((Int×Int×Int)×Int×Int×List (Int×Int)) (fun k x=>ZoS k x.1 x.2.1 x.2.2.1 x.2.2.2.1) ZsB Zt0 ZuG
noncomputable def Z5Y:Code:=Tryz.f127.body.getD .skip
noncomputable def Zh:Ctx (Tup Z4X×OutD):={T:=T,G:=[(126,Z5W.E),(133,Z6Y.E),(138,ZbJ.E),(134,Z6f.E),(135,Z6d.E),(76,Z2j.E)],mvs:=[],no:=0,n:=111,res:=resOf T ZJ4 Z4X Tryz.f127.results.toList,loops:=[(2,ZbS.E),(0,ZbV.E)],regs:=[(9,ZaF.E),(11,Z8y.E),(26,Z99.E),(27,Z98.E)],conds:=[(52,Z22.E)],cuts:=[]}
theorem ZbI(k:Nat):EnvOK Tryz.prog k Zh.G:=(EnvOK.cons (Zsf k) (EnvOK.cons (Zwk k) (EnvOK.cons (ZTl k) (EnvOK.cons (ZB6 k) (EnvOK.cons (ZBe k) (EnvOK.cons (Z9L k) (EnvOK.nil mixed)))))))
noncomputable def ZlW:Array Oper:=(findReg 9 Z5Y).getD #[]
theorem ZMm(k:Nat)(x:Zv1.D):execD Zh.T Zh.G Zh.mvs k ZlW (ZaF.inp.st Zh.n x) (outK Zh ZaF)=Zhq k x.1.2.1.1 x.1.2.1.2.1 x.1.2.1.2.2.1 x.1.2.2.1.1 x.1.2.2.1.2.1 x.1.2.2.2.1 x.1.2.2.2.2.1.1 x.1.2.2.2.2.1.2.1 x.1.2.2.2.2.2.1 x.2.1 x.2.2.2.2.2.1:=by kernel_rfl
theorem ZKS(k:Nat):EOK Tryz.prog Zh k ZaF.E (.region 9 ZlW true):=Z4m (D:=ZaF) (m:=2) T_ok (ZbI k) (fun x=>(ZMm k x).trans (ZM4 k x.1.2.1.1 x.1.2.1.2.1 x.1.2.1.2.2.1 x.1.2.2.1.1 x.1.2.2.1.2.1 x.1.2.2.2.1 x.1.2.2.2.2.1.1 x.1.2.2.2.2.1.2.1 x.1.2.2.2.2.2.1 x.2.1 x.2.2.2.2.2.1))
noncomputable def ZkL:Array Oper:=(findReg 11 Z5Y).getD #[]
theorem ZJs(k:Nat)(x:ZsU.D):execD Zh.T Zh.G Zh.mvs k ZkL (Z8y.inp.st Zh.n x) (outK Zh Z8y)=ZfD k x.1.2.1.1 x.1.2.1.2.1 x.1.2.1.2.2.1 x.1.2.2.1.1 x.1.2.2.1.2.1 x.1.2.2.2.1 x.1.2.2.2.2.1.1 x.1.2.2.2.2.1.2.1 x.1.2.2.2.2.2.1 x.2.1 x.2.2.2.2.2.1:=by kernel_rfl
theorem ZIF(k:Nat):EOK Tryz.prog Zh k Z8y.E (.region 11 ZkL true):=Z4m (D:=Z8y) (m:=2) T_ok (ZbI k) (fun x=>(ZJs k x).trans (ZKE k x.1.2.1.1 x.1.2.1.2.1 x.1.2.1.2.2.1 x.1.2.2.1.1 x.1.2.2.1.2.1 x.1.2.2.2.1 x.1.2.2.2.2.1.1 x.1.2.2.2.2.1.2.1 x.1.2.2.2.2.2.1 x.2.1 x.2.2.2.2.2.1))
noncomputable def ZkT:Array Oper:=(findReg 26 Z5Y).getD #[]
theorem ZJH(k:Nat)(x:Zsy.D):execD Zh.T Zh.G Zh.mvs k ZkT (Z99.inp.st Zh.n x) (outK Zh Z99)=ZfJ k x.1.2.1.1 x.1.2.1.2.1 x.1.2.1.2.2.1 x.1.2.2.1.1 x.1.2.2.1.2.1 x.1.2.2.2.1 x.1.2.2.2.2.1.1 x.1.2.2.2.2.1.2.1 x.1.2.2.2.2.2.1 x.2.1 x.2.2.2.2.2.1:=by kernel_rfl
theorem ZIv(k:Nat):EOK Tryz.prog Zh k Z99.E (.region 26 ZkT true):=Z4m (D:=Z99) (m:=2) T_ok (ZbI k) (fun x=>(ZJH k x).trans (ZL5 k x.1.2.1.1 x.1.2.1.2.1 x.1.2.1.2.2.1 x.1.2.2.1.1 x.1.2.2.1.2.1 x.1.2.2.2.1 x.1.2.2.2.2.1.1 x.1.2.2.2.2.1.2.1 x.1.2.2.2.2.2.1 x.2.1 x.2.2.2.2.2.1))
noncomputable def Zlh:Array Oper:=(findReg 27 Z5Y).getD #[]
theorem ZL7(k:Nat)(x:Zs4.D):execD Zh.T Zh.G Zh.mvs k Zlh (Z98.inp.st Zh.n x) (outK Zh Z98)=Zg4 k x.1.2.1.1 x.1.2.1.2.1 x.1.2.1.2.2.1 x.1.2.2.1.1 x.1.2.2.1.2.1 x.1.2.2.1.2.2.1 x.1.2.2.2.1.1 x.1.2.2.2.1.2.1 x.1.2.2.2.2.1 x.1.2.2.2.2.2.1.1 x.1.2.2.2.2.2.1.2.1 x.1.2.2.2.2.2.2.1 x.2.1:=by kernel_rfl
theorem ZHm(k:Nat):EOK Tryz.prog Zh k Z98.E (.region 27 Zlh true):=Z4m (D:=Z98) (m:=2) T_ok (ZbI k) (fun x=>(ZL7 k x).trans (ZKG k x.1.2.1.1 x.1.2.1.2.1 x.1.2.1.2.2.1 x.1.2.2.1.1 x.1.2.2.1.2.1 x.1.2.2.1.2.2.1 x.1.2.2.2.1.1 x.1.2.2.2.1.2.1 x.1.2.2.2.2.1 x.1.2.2.2.2.2.1.1 x.1.2.2.2.2.2.1.2.1 x.1.2.2.2.2.2.2.1 x.2.1))
noncomputable def Zfz:Code:=((findCond 52 Z5Y).map (·.1)).getD .skip
noncomputable def ZfW:Code:=((findCond 52 Z5Y).map (·.2)).getD .skip
theorem ZJI(k:Nat)(i:Z22.inp.D):Z22.lp k i=branch (Z22.inp.st Zh.n i) (.tmp 52) (fun st=>exec Zh k Zfz st (outK Zh Z22) (fun _ _=>none) Z22.mkB) (fun st=>exec Zh k ZfW st (outK Zh Z22) (fun _ _=>none) Z22.mkB):=by kernel_rfl
theorem ZHv(k:Nat):EOK Tryz.prog Zh k Z22.E (.cond (.tmp 52) Zfz ZfW):=ZNQ (D:=Z22) T_ok (ZbI k) (ZJI k) (@LOK.by _ _ _ _ Zfz [] (by kernel_rfl) AllOK.nil) (@LOK.by _ _ _ _ ZfW [] (by kernel_rfl) AllOK.nil)
noncomputable def Ziu:Code:=(findLoop 2 Z5Y).getD .skip
theorem ZNI(k:Nat)(x:Zob.D):ZbS.lp (k+1) x=loopK Zh ZbS 2 Ziu k x:=by kernel_rfl
theorem ZNP(k:Nat):LOK Tryz.prog Zh k Ziu:=LOK.by [] (by kernel_rfl) AllOK.nil
theorem ZO2(x:Zob.D):ZbS.lp 0 x=none:=by kernel_rfl
theorem ZLK(k:Nat):EOK Tryz.prog Zh k ZbS.E (.block 2 (.loop Ziu)):=Zd T_ok ZbI ZO2 ZNI ZNP k
noncomputable def ZiO:Code:=(findLoop 0 Z5Y).getD .skip
theorem ZOB(k:Nat)(x:Zoz.D):ZbV.lp (k+1) x=loopK Zh ZbV 0 ZiO k x:=by kernel_rfl
theorem ZNM(k:Nat):LOK Tryz.prog Zh k ZiO:=LOK.by [(ZaF.E,.region 9 ZlW true),(Z8y.E,.region 11 ZkL true),(Z22.E,.cond (.tmp 52) Zfz ZfW),(ZbS.E,.block 2 (.loop Ziu)),(Z99.E,.region 26 ZkT true)] (by kernel_rfl) (AllOK.cons (ZKS k) (AllOK.cons (ZIF k) (AllOK.cons (ZHv k) (AllOK.cons (ZLK k) (AllOK.cons (ZIv k) AllOK.nil)))))
theorem ZNm(x:Zoz.D):ZbV.lp 0 x=none:=by kernel_rfl
theorem ZLO(k:Nat):EOK Tryz.prog Zh k ZbV.E (.block 0 (.loop ZiO)):=Zd T_ok ZbI ZNm ZOB ZNM k
theorem ZT3(k:Nat)(x:Tup ZbD.ps):ZbD.f (k+1) x=fnK ZbD Zh Z5Y k x:=by kernel_rfl
theorem ZTr(x:Tup ZbD.ps):ZbD.f 0 x=none:=by kernel_rfl
theorem ZTk(k:Nat):LOK Tryz.prog Zh k Z5Y:=LOK.by [(ZbV.E,.block 0 (.loop ZiO)),(Z98.E,.region 27 Zlh true)] (by kernel_rfl) (AllOK.cons (ZLO k) (AllOK.cons (ZHm k) AllOK.nil))
theorem ZSS(k:Nat):SoundAt Tryz.prog k 127 ZbD.E:= @Z5 Tryz.prog ZbD Zh 127 Tryz.f127 Z5Y (by kernel_rfl) (by kernel_rfl) (by kernel_rfl) Tryz.func127 (by kernel_rfl) (by kernel_rfl) (by kernel_rfl) T_ok ZbI ZTk ZTr ZT3 k
noncomputable def Zb9:List PK:=[PK.mk P6 true none false none]
noncomputable def ZqG:List PK:=[PK.mk (.pair (.slice 5 (.int .u8)) (.pair I6 (.int .u64))) false none false (some 105)]
noncomputable def Zpm(r:(Int×Int)×Int×Int):Tup Zb9×OutD:=((r.1,()),some ⟨Ty.pair (Ty.slice (5:Nat) (Ty.int .u8)) (Ty.pair (Ty.int .i64) (Ty.int .u64)),[([],r.2)]⟩)
noncomputable def Zi7:Tup Zb9×OutD→Option ((Int×Int)×Int×Int)
 |(a,some ⟨u,ys⟩)=>if h:u=Ty.pair (Ty.slice (5:Nat) (Ty.int .u8)) (Ty.pair (Ty.int .i64) (Ty.int .u64)) then (match castU h ys with
  |[([],y)]=>some (a.1,y)
  |_=>none) else none
 |_=>none
theorem Zzl: ∀b r,Zi7 b=some r→Zpm r=b:=by
 rintro ⟨a,o⟩ r h
 cases o with
 |none=>cases h
 |some s=>
  obtain ⟨u,ys⟩:=s
  simp only[Zi7]at h
  split at h
  ·rename_i hu
   subst hu
   match ys,h with
   |[],h=>cases (show (none:Option _)=some r from h)
   |[([],y)],h=>injection (show some _=some r from h) with h;subst h;rfl
   |[(_::_,y)],h=>cases (show (none:Option _)=some r from h)
   |(h1,_)::_::_,h=>cases h1<;>cases (show (none:Option _)=some r from h)
  ·cases h
noncomputable def Z5v:Nat→List Int×Int×Int→Option ((Int×Int)×Int×Int)
 |0,_=>none
 |k+1,p0=>
  Option.bind (Zcf k) fun z0=>Option.bind (Z1 k (p0.1,p0.2.1,p0.2.2) (↑(List.length z0):Int)) fun z1=>if (0:Int)≤z1.1 then if z1.1<(↑(List.length z0):Int) then some ((Prod.fst (List.getD z0 (Int.toNat z1.1) ((0:Int),(0:Int))),Prod.snd (List.getD z0 (Int.toNat z1.1) ((0:Int),(0:Int)))),z1.2.1,z1.2.2) else none else none
noncomputable def Z35:FnDef:= .of ZqG Zb9 ((Int×Int)×Int×Int) (fun k x=>Z5v k x.1) Zpm Zi7 Zzl
noncomputable def Zjo:Code:=Tryz.f130.body.getD .skip
noncomputable def ZeK:Ctx (Tup Zb9×OutD):={T:=T,G:=[(120,Z7d.E),(116,Zq.E)],mvs:=[],no:=2,n:=12,res:=resOf T ZqG Zb9 Tryz.f130.results.toList,loops:=[],regs:=[],conds:=[],cuts:=[]}
theorem ZIJ(k:Nat):EnvOK Tryz.prog k ZeK.G:=(EnvOK.cons (ZEF k) (EnvOK.cons (Z1I k) (EnvOK.nil mixed)))
theorem ZI8(k:Nat)(x:Tup Z35.ps):Z35.f (k+1) x=fnK Z35 ZeK Zjo k x:=by kernel_rfl
theorem ZHt(x:Tup Z35.ps):Z35.f 0 x=none:=by kernel_rfl
theorem ZIz(k:Nat):LOK Tryz.prog ZeK k Zjo:=LOK.by [] (by kernel_rfl) AllOK.nil
theorem Zqu(k:Nat):SoundAt Tryz.prog k 130 Z35.E:= @Z5 Tryz.prog Z35 ZeK 130 Tryz.f130 Zjo (by kernel_rfl) (by kernel_rfl) (by kernel_rfl) Tryz.func130 (by kernel_rfl) (by kernel_rfl) (by kernel_rfl) T_ok ZIJ ZIz ZHt ZI8 k
end
end Go.Proofs.YtmhfhiofcoggbaaGreat.Vs
