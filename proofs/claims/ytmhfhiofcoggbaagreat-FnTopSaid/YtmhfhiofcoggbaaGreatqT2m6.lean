/- The proof, part 7. -/
import Derived.Test.YtmhfhiofcoggbaaGreatqT2m5
set_option maxRecDepth 100000
set_option maxHeartbeats 2000000
set_option linter.unusedVariables false
set_option linter.unusedSimpArgs false
namespace Go.Proofs.YtmhfhiofcoggbaaGreat.Vs
open Go.RowKit
noncomputable section
noncomputable def Z8w:List PK:=[PK.mk (.pair I6 (.pair I6 (.slice 76 P6))) true none false none,PK.mk I6 false none false none,PK.mk .bool false none false none]
noncomputable def ZnU:List PK:=[PK.mk (.pair I6 (.slice 3 I6)) true none false none]
noncomputable def ZmP(r:(Int×Int×List (Int×Int))×Int×Bool):Tup Z8w×OutD:=((r.1,r.2.1,r.2.2,()),none)
noncomputable def ZmQ:Tup Z8w×OutD→Option ((Int×Int×List (Int×Int))×Int×Bool)
 |(a,none)=>some (a.1,a.2.1,a.2.2.1)
 |_=>none
theorem ZtE: ∀b r,ZmQ b=some r→ZmP r=b:=by
 rintro ⟨a,_|_⟩ r h<;>cases h;rfl
noncomputable def ZcC:Nat→Int×List Int→Option ((Int×Int×List (Int×Int))×Int×Bool)
 |0,_=>none
 |k+1,p0=>
  Option.bind (ZeT k (p0.1,p0.2)) fun z0=>if (!z0)=true then some (((0:Int),(0:Int),[]),(0:Int),false) else if decide (p0.1>3)=true then some (((0:Int),(0:Int),[]),(0:Int),false) else Option.bind (Z5M k (p0.1,p0.2)) fun z1=>some ((z1.1.1,z1.1.2.1,z1.1.2.2),z1.2.1,true)
noncomputable def Z31:FnDef:= .of ZnU Z8w ((Int×Int×List (Int×Int))×Int×Bool) (fun k x=>ZcC k x.1) ZmP ZmQ ZtE
noncomputable def Zh5:Code:=Tryz.f5.body.getD .skip
noncomputable def ZcQ:Ctx (Tup Z8w×OutD):={T:=T,G:=[(30,Z51.E),(31,Z2W.E)],mvs:=[],no:=0,n:=25,res:=resOf T ZnU Z8w Tryz.f5.results.toList,loops:=[],regs:=[],conds:=[],cuts:=[]}
theorem ZD3(k:Nat):EnvOK Tryz.prog k ZcQ.G:=(EnvOK.cons (Zy6 k) (EnvOK.cons (ZDl k) (EnvOK.nil mixed)))
theorem ZDi(k:Nat)(x:Tup Z31.ps):Z31.f (k+1) x=fnK Z31 ZcQ Zh5 k x:=by kernel_rfl
theorem ZCA(x:Tup Z31.ps):Z31.f 0 x=none:=by kernel_rfl
theorem ZCU(k:Nat):LOK Tryz.prog ZcQ k Zh5:=LOK.by [] (by kernel_rfl) AllOK.nil
theorem ZD5(k:Nat):SoundAt Tryz.prog k 5 Z31.E:= @Z5 Tryz.prog Z31 ZcQ 5 Tryz.f5 Zh5 (by kernel_rfl) (by kernel_rfl) (by kernel_rfl) Tryz.func5 (by kernel_rfl) (by kernel_rfl) (by kernel_rfl) T_ok ZD3 ZCU ZCA ZDi k
noncomputable def Zfs:List PK:=[PK.mk (.pair I6 (.pair I6 (.slice 76 P6))) true none false none]
noncomputable def Zz0:List PK:=[PK.mk (.pair I6 (.slice 3 I6)) true none false none]
noncomputable def ZuA(r:Int×Int×List (Int×Int)):Tup Zfs×OutD:=((r,()),none)
noncomputable def Zv2:Tup Zfs×OutD→Option (Int×Int×List (Int×Int))
 |(a,none)=>some (a.1)
 |_=>none
theorem ZEU: ∀b r,Zv2 b=some r→ZuA r=b:=by
 rintro ⟨a,_|_⟩ r h<;>cases h;rfl
noncomputable def Zfm:Nat→Int×List Int→Option (Int×Int×List (Int×Int))
 |0,_=>none
 |k+1,p0=>
  Option.bind (PDef.f Z6c k ((p0.1,p0.2),())) fun z0=>some (z0.2.2.2.1,(↑(List.length p0.2):Int),z0.2.2.1)
noncomputable def Z6Q:FnDef:= .of Zz0 Zfs (Int×Int×List (Int×Int)) (fun k x=>Zfm k x.1) ZuA Zv2 ZEU
noncomputable def Zok:Code:=Tryz.f33.body.getD .skip
noncomputable def ZiZ:Ctx (Tup Zfs×OutD):={T:=T,G:=[(66,cloE Z6c.E)],mvs:=[],no:=0,n:=18,res:=resOf T Zz0 Zfs Tryz.f33.results.toList,loops:=[],regs:=[],conds:=[],cuts:=[]}
theorem ZO4(k:Nat):EnvOK Tryz.prog k ZiZ.G:=(EnvOK.consC (ZPQ k) (EnvOK.nil mixed))
theorem ZOv(k:Nat)(x:Tup Z6Q.ps):Z6Q.f (k+1) x=fnK Z6Q ZiZ Zok k x:=by kernel_rfl
theorem ZO3(x:Tup Z6Q.ps):Z6Q.f 0 x=none:=by kernel_rfl
theorem ZOs(k:Nat):LOK Tryz.prog ZiZ k Zok:=LOK.by [] (by kernel_rfl) AllOK.nil
theorem ZP3(k:Nat):SoundAt Tryz.prog k 33 Z6Q.E:= @Z5 Tryz.prog Z6Q ZiZ 33 Tryz.f33 Zok (by kernel_rfl) (by kernel_rfl) (by kernel_rfl) Tryz.func33 (by kernel_rfl) (by kernel_rfl) (by kernel_rfl) T_ok ZO4 ZOs ZO3 ZOv k
noncomputable def ZeY:List PK:=[PK.mk .bool false none false none]
noncomputable def ZzD:List PK:=[PK.mk (.pair I6 (.pair I6 (.slice 76 P6))) true none false none]
noncomputable def ZuZ(r:Bool):Tup ZeY×OutD:=((r,()),none)
noncomputable def ZvL:Tup ZeY×OutD→Option (Bool)
 |(a,none)=>some (a.1)
 |_=>none
theorem ZEC: ∀b r,ZvL b=some r→ZuZ r=b:=by
 rintro ⟨a,_|_⟩ r h<;>cases h;rfl
noncomputable def Z3W:Nat→Int×Int×List (Int×Int)→Option Bool
 |0,_=>none
 |k+1,p0=>
  if decide (p0.1≥1)=true then if decide (p0.1≤10)=true then if decide (p0.2.1≥1)=true then if decide (p0.2.1≤9)=true then if decide ((↑(List.length p0.2.2):Int)=wrap64 (p0.1*p0.2.1))=true then Option.bind (ZeJ k p0.2.2) fun z0=>some z0 else some false else some false else some false else some false else some false
noncomputable def Z1z:FnDef:= .of ZzD ZeY (Bool) (fun k x=>Z3W k x.1) ZuZ ZvL ZEC
noncomputable def ZoA:Code:=Tryz.f38.body.getD .skip
noncomputable def ZiT:Ctx (Tup ZeY×OutD):={T:=T,G:=[(69,Z4b.E)],mvs:=[],no:=0,n:=37,res:=resOf T ZzD ZeY Tryz.f38.results.toList,loops:=[],regs:=[],conds:=[],cuts:=[]}
theorem ZOw(k:Nat):EnvOK Tryz.prog k ZiT.G:=(EnvOK.cons (ZGN k) (EnvOK.nil mixed))
theorem ZOZ(k:Nat)(x:Tup Z1z.ps):Z1z.f (k+1) x=fnK Z1z ZiT ZoA k x:=by kernel_rfl
theorem ZOI(x:Tup Z1z.ps):Z1z.f 0 x=none:=by kernel_rfl
theorem ZOa(k:Nat):LOK Tryz.prog ZiT k ZoA:=LOK.by [] (by kernel_rfl) AllOK.nil
theorem Z8S(k:Nat):SoundAt Tryz.prog k 38 Z1z.E:= @Z5 Tryz.prog Z1z ZiT 38 Tryz.f38 ZoA (by kernel_rfl) (by kernel_rfl) (by kernel_rfl) Tryz.func38 (by kernel_rfl) (by kernel_rfl) (by kernel_rfl) T_ok ZOw ZOa ZOI ZOZ k
noncomputable def ZgU:List PK:=[PK.mk T6 true none false none,PK.mk (.slice 3 I6) false none false none]
noncomputable def ZJa:List PK:=[PK.mk (.pair I6 (.pair I6 (.slice 76 P6))) true (some (2,76,.pair I6 I6)) false none,PK.mk (.slice 3 I6) false none false none,PK.mk I6 false none false none]
noncomputable def Ztj(r:(Int×Int×Int)×List Int×List (Int×Int)):Tup ZgU×OutD:=((r.1,r.2.1,()),some ⟨Ty.pair (Ty.int .i64) (Ty.int .i64),r.2.2⟩)
noncomputable def ZmK:Tup ZgU×OutD→Option ((Int×Int×Int)×List Int×List (Int×Int))
 |(a,some ⟨u,ys⟩)=>if h:u=Ty.pair (Ty.int .i64) (Ty.int .i64) then some (a.1,a.2.1,castU h ys) else none
 |_=>none
theorem ZvE: ∀b r,ZmK b=some r→Ztj r=b:=by
 rintro ⟨a,o⟩ r h
 cases o with
 |none=>cases h
 |some s=>
  obtain ⟨u,ys⟩:=s
  simp only[ZmK]at h
  split at h
  ·rename_i hu;subst hu;injection h with h;subst h;rfl
  ·cases h
noncomputable def Z3M:Nat→List (Int×Int)→Int→Int→Int→Int→Int→List Int→List Int→Int→Int→Int→Option (LR (List (Int×Int)×Int×Int×Int×Int×Int×List Int×Int) ((Int×Int×Int)×List Int×List (Int×Int)))
 |0,_,_,_,_,_,_,_,_,_,_,_=>none
 |k+1,o1,b2_0,b2_1,b3_0,b3_1,b3_2,o4,v1,v2,v9,v10=>
  if decide (v10<b2_0)=true then if List.length o4+List.length [wrap64 (wrap64 (v10*b2_1)+v2)]≤(140737488355328/8:Nat) then if (0:Int)≤wrap64 (wrap64 (v10*b2_1)+v2) then if wrap64 (wrap64 (v10*b2_1)+v2)<(↑(List.length o1):Int) then Option.bind (ZgH k (Prod.fst (List.getD o1 (Int.toNat (wrap64 (wrap64 (v10*b2_1)+v2))) ((0:Int),(0:Int))),Prod.snd (List.getD o1 (Int.toNat (wrap64 (wrap64 (v10*b2_1)+v2))) ((0:Int),(0:Int)))) v9) fun z0=>if (!z0.2)=true then some (LR.ret (((2:Int),v10,v2),o4++[wrap64 (wrap64 (v10*b2_1)+v2)],o1)) else if decide (Prod.fst (List.getD o1 (Int.toNat (wrap64 (wrap64 (v10*b2_1)+v2))) ((0:Int),(0:Int)))=3)=true then if (0:Int)≤wrap64 (wrap64 (v10*b2_1)+v2) then if wrap64 (wrap64 (v10*b2_1)+v2)<(↑(List.length o1):Int) then if decide (Prod.fst (List.getD o1 (Int.toNat (wrap64 (wrap64 (v10*b2_1)+v2))) ((0:Int),(0:Int)))=6)=true then Option.bind (Zcv k (b2_0,b2_1,List.set o1 (Int.toNat (wrap64 (wrap64 (v10*b2_1)+v2))) (Prod.fst (List.getD o1 (Int.toNat (wrap64 (wrap64 (v10*b2_1)+v2))) ((0:Int),(0:Int))),wrap64 ((1:Int)-Prod.snd (List.getD o1 (Int.toNat (wrap64 (wrap64 (v10*b2_1)+v2))) ((0:Int),(0:Int)))))) v1 (wrap64 (wrap64 (v10*b2_1)+v2))) fun z1=>if decide (wrap64 (v2+z0.1)<0)=true then some (LR.ret (((3:Int),v10,wrap64 (v2+z0.1)),o4++[wrap64 (wrap64 (v10*b2_1)+v2)],z1)) else if decide (wrap64 (v2+z0.1)≥b2_1)=true then some (LR.ret (((3:Int),v10,wrap64 (v2+z0.1)),o4++[wrap64 (wrap64 (v10*b2_1)+v2)],z1)) else Z3M k z1 b2_0 b2_1 b3_0 b3_1 b3_2 (o4++[wrap64 (wrap64 (v10*b2_1)+v2)]) v1 (wrap64 (v2+z0.1)) (wrap64 ((0:Int)-z0.1)) (wrap64 (v10+1)) else if decide (wrap64 (v2+z0.1)<0)=true then some (LR.ret (((3:Int),v10,wrap64 (v2+z0.1)),o4++[wrap64 (wrap64 (v10*b2_1)+v2)],List.set o1 (Int.toNat (wrap64 (wrap64 (v10*b2_1)+v2))) (Prod.fst (List.getD o1 (Int.toNat (wrap64 (wrap64 (v10*b2_1)+v2))) ((0:Int),(0:Int))),wrap64 ((1:Int)-Prod.snd (List.getD o1 (Int.toNat (wrap64 (wrap64 (v10*b2_1)+v2))) ((0:Int),(0:Int))))))) else if decide (wrap64 (v2+z0.1)≥b2_1)=true then some (LR.ret (((3:Int),v10,wrap64 (v2+z0.1)),o4++[wrap64 (wrap64 (v10*b2_1)+v2)],List.set o1 (Int.toNat (wrap64 (wrap64 (v10*b2_1)+v2))) (Prod.fst (List.getD o1 (Int.toNat (wrap64 (wrap64 (v10*b2_1)+v2))) ((0:Int),(0:Int))),wrap64 ((1:Int)-Prod.snd (List.getD o1 (Int.toNat (wrap64 (wrap64 (v10*b2_1)+v2))) ((0:Int),(0:Int))))))) else Z3M k (List.set o1 (Int.toNat (wrap64 (wrap64 (v10*b2_1)+v2))) (Prod.fst (List.getD o1 (Int.toNat (wrap64 (wrap64 (v10*b2_1)+v2))) ((0:Int),(0:Int))),wrap64 ((1:Int)-Prod.snd (List.getD o1 (Int.toNat (wrap64 (wrap64 (v10*b2_1)+v2))) ((0:Int),(0:Int)))))) b2_0 b2_1 b3_0 b3_1 b3_2 (o4++[wrap64 (wrap64 (v10*b2_1)+v2)]) v1 (wrap64 (v2+z0.1)) (wrap64 ((0:Int)-z0.1)) (wrap64 (v10+1)) else none else none else if decide (Prod.fst (List.getD o1 (Int.toNat (wrap64 (wrap64 (v10*b2_1)+v2))) ((0:Int),(0:Int)))=6)=true then Option.bind (Zcv k (b2_0,b2_1,o1) v1 (wrap64 (wrap64 (v10*b2_1)+v2))) fun z2=>if decide (wrap64 (v2+z0.1)<0)=true then some (LR.ret (((3:Int),v10,wrap64 (v2+z0.1)),o4++[wrap64 (wrap64 (v10*b2_1)+v2)],z2)) else if decide (wrap64 (v2+z0.1)≥b2_1)=true then some (LR.ret (((3:Int),v10,wrap64 (v2+z0.1)),o4++[wrap64 (wrap64 (v10*b2_1)+v2)],z2)) else Z3M k z2 b2_0 b2_1 b3_0 b3_1 b3_2 (o4++[wrap64 (wrap64 (v10*b2_1)+v2)]) v1 (wrap64 (v2+z0.1)) (wrap64 ((0:Int)-z0.1)) (wrap64 (v10+1)) else if decide (wrap64 (v2+z0.1)<0)=true then some (LR.ret (((3:Int),v10,wrap64 (v2+z0.1)),o4++[wrap64 (wrap64 (v10*b2_1)+v2)],o1)) else if decide (wrap64 (v2+z0.1)≥b2_1)=true then some (LR.ret (((3:Int),v10,wrap64 (v2+z0.1)),o4++[wrap64 (wrap64 (v10*b2_1)+v2)],o1)) else Z3M k o1 b2_0 b2_1 b3_0 b3_1 b3_2 (o4++[wrap64 (wrap64 (v10*b2_1)+v2)]) v1 (wrap64 (v2+z0.1)) (wrap64 ((0:Int)-z0.1)) (wrap64 (v10+1)) else none else none else none else some (LR.go (o1,b2_0,b2_1,b3_0,b3_1,b3_2,o4,v2))
noncomputable def Zo9:Spec:=Spec.mk [.ro,Oi,Of,O5,O1] [(1,.at (.snap 0 I6)),(2,.at (.int .i64)),(3,.at (.ptr 2 0)),(6,.at (.ptr 3 0)),(8,.at (.sl 4)),(9,.at (.int .i64)),(10,.at (.int .i64))]
noncomputable def ZNK:Spec:=Spec.mk [.ro,Oi,Of,O5,O1] [(2,.at (.int .i64)),(3,.at (.ptr 2 0)),(6,.at (.ptr 3 0)),(8,.at (.sl 4))]
noncomputable def Zc6:LoopDef (Tup ZgU×OutD):= .rets Zo9 ZNK (List (Int×Int)×Int×Int×Int×Int×Int×List Int×Int) ((Int×Int×Int)×List Int×List (Int×Int)) (fun k x=>Z3M k x.1.2.1 x.1.2.2.1.1 x.1.2.2.1.2.1 x.1.2.2.2.1.1 x.1.2.2.2.1.2.1 x.1.2.2.2.1.2.2.1 x.1.2.2.2.2.1 x.2.1 x.2.2.1 x.2.2.2.2.2.2.1 x.2.2.2.2.2.2.2.1) (fun z=>(((),z.1,(z.2.1,z.2.2.1,(),()),(z.2.2.2.1,z.2.2.2.2.1,z.2.2.2.2.2.1,()),z.2.2.2.2.2.2.1,()),(z.2.2.2.2.2.2.2,(),(),(),()))) (fun y=>(y.1.2.1,y.1.2.2.1.1,y.1.2.2.1.2.1,y.1.2.2.2.1.1,y.1.2.2.2.1.2.1,y.1.2.2.2.1.2.2.1,y.1.2.2.2.2.1,y.2.1)) (fun _=>rfl) Ztj ZmK ZvE
noncomputable def Z9r:Nat→Int×Int×List (Int×Int)→List Int→Int→Option ((Int×Int×Int)×List Int×List (Int×Int))
 |0,_,_,_=>none
 |k+1,p0,p1,p2=>
  Option.bind (Z3M k p0.2.2 p0.1 p0.2.1 (0:Int) (0:Int) (0:Int) [] p1 p2 (0:Int) (0:Int)) fun z3=>LR.on z3 (fun y3=>some (((1:Int),y3.2.1,y3.2.2.2.2.2.2.2),y3.2.2.2.2.2.2.1,y3.1)) fun r3=>some r3
noncomputable def Z9p:FnDef:= .of ZJa ZgU ((Int×Int×Int)×List Int×List (Int×Int)) (fun k x=>Z9r k x.1 x.2.1 x.2.2.1) Ztj ZmK ZvE
noncomputable def ZoR:Code:=Tryz.f40.body.getD .skip
noncomputable def Zea:Ctx (Tup ZgU×OutD):={T:=T,G:=[(70,Z6a.E),(71,Z4R.E)],mvs:=[],no:=1,n:=89,res:=resOf T ZJa ZgU Tryz.f40.results.toList,loops:=[(0,Zc6.E)],regs:=[],conds:=[],cuts:=[]}
theorem ZJe(k:Nat):EnvOK Tryz.prog k Zea.G:=(EnvOK.cons (ZC7 k) (EnvOK.cons (ZK8 k) (EnvOK.nil mixed)))
noncomputable def Zj6:Code:=(findLoop 0 ZoR).getD .skip
theorem ZNM(k:Nat)(x:Zo9.D):Zc6.lp (k+1) x=loopK Zea Zc6 0 Zj6 k x:=by kernel_rfl
theorem ZNP(k:Nat):LOK Tryz.prog Zea k Zj6:=LOK.by [] (by kernel_rfl) AllOK.nil
theorem ZOl(x:Zo9.D):Zc6.lp 0 x=none:=by kernel_rfl
theorem ZM5(k:Nat):EOK Tryz.prog Zea k Zc6.E (.block 0 (.loop Zj6)):=Zd T_ok ZJe ZOl ZNM ZNP k
theorem ZTd(k:Nat)(x:Tup Z9p.ps):Z9p.f (k+1) x=fnK Z9p Zea ZoR k x:=by kernel_rfl
theorem ZSX(x:Tup Z9p.ps):Z9p.f 0 x=none:=by kernel_rfl
theorem ZSY(k:Nat):LOK Tryz.prog Zea k ZoR:=LOK.by [(Zc6.E,.block 0 (.loop Zj6))] (by kernel_rfl) (AllOK.cons (ZM5 k) AllOK.nil)
theorem ZJb(k:Nat):SoundAt Tryz.prog k 40 Z9p.E:= @Z5 Tryz.prog Z9p Zea 40 Tryz.f40 ZoR (by kernel_rfl) (by kernel_rfl) (by kernel_rfl) Tryz.func40 (by kernel_rfl) (by kernel_rfl) (by kernel_rfl) T_ok ZJe ZSY ZSX ZTd k
noncomputable def Z3u:List PK:=[PK.mk .bool false none false none]
noncomputable def ZpB:List PK:=[PK.mk (.pair I6 (.pair I6 (.pair (.slice 76 P6) (.pair (.slice 3 I6) (.slice 3 I6))))) true none false none]
noncomputable def Z8v(r:Bool):Tup Z3u×OutD:=((r,()),none)
noncomputable def Z8t:Tup Z3u×OutD→Option (Bool)
 |(a,none)=>some (a.1)
 |_=>none
theorem Z9Q: ∀b r,Z8t b=some r→Z8v r=b:=by
 rintro ⟨a,_|_⟩ r h<;>cases h;rfl
noncomputable def Z5b:Nat→Int→Int→List (Int×Int)→List Int→List Int→List (Int×Int)→Int→Int→Option (LR (Int×Int×List (Int×Int)×List Int×List Int) Bool)
 |0,_,_,_,_,_,_,_,_=>none
 |k+1,b1_0,b1_1,b1_2,b1_3,b1_4,v61,v62,v63=>
  if decide (v63<v62)=true then if (0:Int)≤v63 then if v63<(↑(List.length v61):Int) then Option.bind (ZaW k (Prod.fst (List.getD v61 (Int.toNat v63) ((0:Int),(0:Int))),Prod.snd (List.getD v61 (Int.toNat v63) ((0:Int),(0:Int))))) fun z0=>if (!z0)=true then some (LR.ret false) else if decide (Prod.fst (List.getD v61 (Int.toNat v63) ((0:Int),(0:Int)))=0)=true then some (LR.ret false) else if (0:Int)≤v63 then if v63≤(↑(List.length b1_2):Int) then Option.bind (Z1m k (List.take (Int.toNat v63-Int.toNat (0:Int)) (List.drop (Int.toNat (0:Int)) b1_2)) (Prod.fst (List.getD v61 (Int.toNat v63) ((0:Int),(0:Int))),Prod.snd (List.getD v61 (Int.toNat v63) ((0:Int),(0:Int))))) fun z1=>if z1=true then some (LR.ret false) else Z5b k b1_0 b1_1 b1_2 b1_3 b1_4 v61 v62 (wrap64 (v63+1)) else none else none else none else none else some (LR.go (b1_0,b1_1,b1_2,b1_3,b1_4))
noncomputable def Zfh:Spec:=Spec.mk [.ro,O4] [(1,.at (.ptr 1 0)),(61,.at (.snap 0 P6)),(62,.at (.int .i64)),(63,.at (.int .i64))]
noncomputable def Zxp:Spec:=Spec.mk [.ro,O4] [(1,.at (.ptr 1 0))]
noncomputable def Z4v:LoopDef (Tup Z3u×OutD):= .rets Zfh Zxp (Int×Int×List (Int×Int)×List Int×List Int) (Bool) (fun k x=>Z5b k x.1.2.1.1 x.1.2.1.2.1 x.1.2.1.2.2.1 x.1.2.1.2.2.2.1 x.1.2.1.2.2.2.2.1 x.2.2.1 x.2.2.2.1 x.2.2.2.2.1) (fun z=>(((),(z.1,z.2.1,z.2.2.1,z.2.2.2.1,z.2.2.2.2,()),()),((),()))) (fun y=>(y.1.2.1.1,y.1.2.1.2.1,y.1.2.1.2.2.1,y.1.2.1.2.2.2.1,y.1.2.1.2.2.2.2.1)) (fun _=>rfl) Z8v Z8t Z9Q
noncomputable def Z55:Nat→Int→Int→List (Int×Int)→List Int→List Int→List Int→Int→Int→Option (LR (Int×Int×List (Int×Int)×List Int×List Int) Bool)
 |0,_,_,_,_,_,_,_,_=>none
 |k+1,b1_0,b1_1,b1_2,b1_3,b1_4,v86,v87,v88=>
  if decide (v88<v87)=true then if (0:Int)≤v88 then if v88<(↑(List.length v86):Int) then if decide (List.getD v86 (Int.toNat v88) (0:Int)<0)=true then some (LR.ret false) else if decide (List.getD v86 (Int.toNat v88) (0:Int)≥b1_1)=true then some (LR.ret false) else if (0:Int)≤v88 then if v88<(↑(List.length b1_4):Int) then if decide (List.getD b1_4 (Int.toNat v88) (0:Int)<0)=true then some (LR.ret false) else if (0:Int)≤v88 then if v88<(↑(List.length b1_4):Int) then if decide (List.getD b1_4 (Int.toNat v88) (0:Int)>wrap64 (b1_1+1))=true then some (LR.ret false) else Z55 k b1_0 b1_1 b1_2 b1_3 b1_4 v86 v87 (wrap64 (v88+1)) else none else none else none else none else none else none else some (LR.go (b1_0,b1_1,b1_2,b1_3,b1_4))
noncomputable def ZeR:Spec:=Spec.mk [.ro,O4] [(1,.at (.ptr 1 0)),(86,.at (.snap 0 I6)),(87,.at (.int .i64)),(88,.at (.int .i64))]
noncomputable def ZyH:Spec:=Spec.mk [.ro,O4] [(1,.at (.ptr 1 0))]
noncomputable def Z4w:LoopDef (Tup Z3u×OutD):= .rets ZeR ZyH (Int×Int×List (Int×Int)×List Int×List Int) (Bool) (fun k x=>Z55 k x.1.2.1.1 x.1.2.1.2.1 x.1.2.1.2.2.1 x.1.2.1.2.2.2.1 x.1.2.1.2.2.2.2.1 x.2.2.1 x.2.2.2.1 x.2.2.2.2.1) (fun z=>(((),(z.1,z.2.1,z.2.2.1,z.2.2.2.1,z.2.2.2.2,()),()),((),()))) (fun y=>(y.1.2.1.1,y.1.2.1.2.1,y.1.2.1.2.2.1,y.1.2.1.2.2.2.1,y.1.2.1.2.2.2.2.1)) (fun _=>rfl) Z8v Z8t Z9Q
noncomputable def Z57:Nat→Int→Int→List (Int×Int)→List Int→List Int→Int→Int→Option (LR Unit Bool)
 |0,_,_,_,_,_,_,_=>none
 |k+1,b1_0,b1_1,b1_2,b1_3,b1_4,v7,v8=>
  if decide (v8<wrap64 (b1_0*b1_1))=true then if decide (wrap64 (v7*wrap64 ((↑(List.length b1_2):Int)+1))>7000)=true then some (LR.ret false) else Z57 k b1_0 b1_1 b1_2 b1_3 b1_4 (wrap64 (v7*wrap64 ((↑(List.length b1_2):Int)+1))) (wrap64 (v8+1)) else some (LR.go ())
noncomputable def Zfg:Spec:=Spec.mk [.ro,O4] [(1,.at (.ptr 1 0)),(7,.at (.int .i64)),(8,.at (.int .i64))]
noncomputable def Zz3:Spec:=Spec.mk [.ro] []
noncomputable def Z4J:LoopDef (Tup Z3u×OutD):= .rets Zfg Zz3 (Unit) (Bool) (fun k x=>Z57 k x.1.2.1.1 x.1.2.1.2.1 x.1.2.1.2.2.1 x.1.2.1.2.2.2.1 x.1.2.1.2.2.2.2.1 x.2.2.1 x.2.2.2.1) (fun z=>(((),()),(()))) (fun y=>()) (fun _=>rfl) Z8v Z8t Z9Q
noncomputable def Z4P:Nat→Int×Int×List (Int×Int)×List Int×List Int→Option Bool
 |0,_=>none
 |k+1,p0=>
  if decide (p0.1<1)=true then some false else if decide (p0.1>4)=true then some false else if decide (p0.2.1<1)=true then some false else if decide (p0.2.1>4)=true then some false else if decide ((↑(List.length p0.2.2.1):Int)<1)=true then some false else if decide ((↑(List.length p0.2.2.1):Int)>6)=true then some false else if decide ((↑(List.length p0.2.2.2.1):Int)<1)=true then some false else if decide ((↑(List.length p0.2.2.2.1):Int)>8)=true then some false else if decide ((↑(List.length p0.2.2.2.2):Int)≠(↑(List.length p0.2.2.2.1):Int))=true then some false else Option.bind (Z5b k p0.1 p0.2.1 p0.2.2.1 p0.2.2.2.1 p0.2.2.2.2 p0.2.2.1 (↑(List.length p0.2.2.1):Int) (0:Int)) fun z2=>LR.on z2 (fun y2=>Option.bind (Z55 k y2.1 y2.2.1 y2.2.2.1 y2.2.2.2.1 y2.2.2.2.2 y2.2.2.2.1 (↑(List.length y2.2.2.2.1):Int) (0:Int)) fun z3=>LR.on z3 (fun y3=>Option.bind (Z57 k y3.1 y3.2.1 y3.2.2.1 y3.2.2.2.1 y3.2.2.2.2 (1:Int) (0:Int)) fun z4=>LR.on z4 (fun y4=>some true) fun r4=>some r4) fun r3=>some r3) fun r2=>some r2
noncomputable def Z1s:FnDef:= .of ZpB Z3u (Bool) (fun k x=>Z4P k x.1) Z8v Z8t Z9Q
noncomputable def Z6K:Code:=Tryz.f43.body.getD .skip
noncomputable def ZM:Ctx (Tup Z3u×OutD):={T:=T,G:=[(74,Z3N.E),(48,Zm.E)],mvs:=[],no:=0,n:=138,res:=resOf T ZpB Z3u Tryz.f43.results.toList,loops:=[(0,Z4v.E),(2,Z4w.E),(4,Z4J.E)],regs:=[],conds:=[],cuts:=[]}
theorem ZdA(k:Nat):EnvOK Tryz.prog k ZM.G:=(EnvOK.cons (ZkI k) (EnvOK.cons (Z9n k) (EnvOK.nil mixed)))
noncomputable def Zay:Code:=(findLoop 0 Z6K).getD .skip
theorem ZyD(k:Nat)(x:Zfh.D):Z4v.lp (k+1) x=loopK ZM Z4v 0 Zay k x:=by kernel_rfl
theorem ZyQ(k:Nat):LOK Tryz.prog ZM k Zay:=LOK.by [] (by kernel_rfl) AllOK.nil
theorem Zzh(x:Zfh.D):Z4v.lp 0 x=none:=by kernel_rfl
theorem Zxh(k:Nat):EOK Tryz.prog ZM k Z4v.E (.block 0 (.loop Zay)):=Zd T_ok ZdA Zzh ZyD ZyQ k
noncomputable def Zan:Code:=(findLoop 2 Z6K).getD .skip
theorem ZxD(k:Nat)(x:ZeR.D):Z4w.lp (k+1) x=loopK ZM Z4w 2 Zan k x:=by kernel_rfl
theorem Zz6(k:Nat):LOK Tryz.prog ZM k Zan:=LOK.by [] (by kernel_rfl) AllOK.nil
theorem Zzu(x:ZeR.D):Z4w.lp 0 x=none:=by kernel_rfl
theorem ZwN(k:Nat):EOK Tryz.prog ZM k Z4w.E (.block 2 (.loop Zan)):=Zd T_ok ZdA Zzu ZxD Zz6 k
noncomputable def ZaG:Code:=(findLoop 4 Z6K).getD .skip
theorem ZyR(k:Nat)(x:Zfg.D):Z4J.lp (k+1) x=loopK ZM Z4J 4 ZaG k x:=by kernel_rfl
theorem Zyq(k:Nat):LOK Tryz.prog ZM k ZaG:=LOK.by [] (by kernel_rfl) AllOK.nil
theorem Zyy(x:Zfg.D):Z4J.lp 0 x=none:=by kernel_rfl
theorem Zwq(k:Nat):EOK Tryz.prog ZM k Z4J.E (.block 4 (.loop ZaG)):=Zd T_ok ZdA Zyy ZyR Zyq k
theorem ZFX(k:Nat)(x:Tup Z1s.ps):Z1s.f (k+1) x=fnK Z1s ZM Z6K k x:=by kernel_rfl
theorem ZEc(x:Tup Z1s.ps):Z1s.f 0 x=none:=by kernel_rfl
theorem ZEx(k:Nat):LOK Tryz.prog ZM k Z6K:=LOK.by [(Z4v.E,.block 0 (.loop Zay)),(Z4w.E,.block 2 (.loop Zan)),(Z4J.E,.block 4 (.loop ZaG))] (by kernel_rfl) (AllOK.cons (Zxh k) (AllOK.cons (ZwN k) (AllOK.cons (Zwq k) AllOK.nil)))
theorem Zdt(k:Nat):SoundAt Tryz.prog k 43 Z1s.E:= @Z5 Tryz.prog Z1s ZM 43 Tryz.f43 Z6K (by kernel_rfl) (by kernel_rfl) (by kernel_rfl) Tryz.func43 (by kernel_rfl) (by kernel_rfl) (by kernel_rfl) T_ok ZdA ZEx ZEc ZFX k
noncomputable def ZaS:List PK:=[PK.mk .bool false none false none]
noncomputable def ZAX:List PK:=[PK.mk (.pair I6 (.pair I6 (.pair (.slice 76 P6) (.pair (.slice 3 I6) (.slice 3 I6))))) true none false none]
noncomputable def ZiM(r:Bool):Tup ZaS×OutD:=((r,()),none)
noncomputable def Zj1:Tup ZaS×OutD→Option (Bool)
 |(a,none)=>some (a.1)
 |_=>none
theorem Zjt: ∀b r,Zj1 b=some r→ZiM r=b:=by
 rintro ⟨a,_|_⟩ r h<;>cases h;rfl
noncomputable def Zar:Nat→Int→Int→List (Int×Int)→List Int→List Int→Int→Int→List (Int×Int)→Int→Int→List (Int×Int)→Int→Int→Option (LR (Int×Int×List (Int×Int)×List Int×List Int×List (Int×Int)×Int×Int) Bool)
 |0,_,_,_,_,_,_,_,_,_,_,_,_,_=>none
 |k+1,b1_0,b1_1,b1_2,b1_3,b1_4,b2_0,b2_1,v8,v9,v10,v26,v27,v28=>
  if decide (v28<v27)=true then if (0:Int)≤v28 then if v28<(↑(List.length v26):Int) then if (decide (b2_0=Prod.fst (List.getD v26 (Int.toNat v28) ((0:Int),(0:Int))))&&(decide (b2_1=Prod.snd (List.getD v26 (Int.toNat v28) ((0:Int),(0:Int))))&&true))=true then some (LR.ret false) else Zar k b1_0 b1_1 b1_2 b1_3 b1_4 b2_0 b2_1 v8 v9 v10 v26 v27 (wrap64 (v28+1)) else none else none else some (LR.go (b1_0,b1_1,b1_2,b1_3,b1_4,v8,v9,v10))
noncomputable def Zl8:Spec:=Spec.mk [.ro,O4,Ol] [(1,.at (.ptr 1 0)),(4,.at (.ptr 2 0)),(8,.at (.snap 0 P6)),(9,.at (.int .i64)),(10,.at (.int .i64)),(26,.at (.snap 0 P6)),(27,.at (.int .i64)),(28,.at (.int .i64))]
noncomputable def ZJD:Spec:=Spec.mk [.ro,O4] [(1,.at (.ptr 1 0)),(8,.at (.snap 0 P6)),(9,.at (.int .i64)),(10,.at (.int .i64))]
noncomputable def Z9c:LoopDef (Tup ZaS×OutD):= .rets Zl8 ZJD (Int×Int×List (Int×Int)×List Int×List Int×List (Int×Int)×Int×Int) (Bool) (fun k x=>Zar k x.1.2.1.1 x.1.2.1.2.1 x.1.2.1.2.2.1 x.1.2.1.2.2.2.1 x.1.2.1.2.2.2.2.1 x.1.2.2.1.1 x.1.2.2.1.2.1 x.2.2.2.1 x.2.2.2.2.1 x.2.2.2.2.2.1 x.2.2.2.2.2.2.1 x.2.2.2.2.2.2.2.1 x.2.2.2.2.2.2.2.2.1) (fun z=>(((),(z.1,z.2.1,z.2.2.1,z.2.2.2.1,z.2.2.2.2.1,()),()),((),z.2.2.2.2.2.1,z.2.2.2.2.2.2.1,z.2.2.2.2.2.2.2,()))) (fun y=>(y.1.2.1.1,y.1.2.1.2.1,y.1.2.1.2.2.1,y.1.2.1.2.2.2.1,y.1.2.1.2.2.2.2.1,y.2.2.1,y.2.2.2.1,y.2.2.2.2.1)) (fun _=>rfl) ZiM Zj1 Zjt
noncomputable def ZaA:Nat→Int→Int→List (Int×Int)→List Int→List Int→List (Int×Int)→Int→Int→Option (LR (Int×Int×List (Int×Int)×List Int×List Int) Bool)
 |0,_,_,_,_,_,_,_,_=>none
 |k+1,b1_0,b1_1,b1_2,b1_3,b1_4,v8,v9,v10=>
  if decide (v10<v9)=true then if (0:Int)≤v10 then if v10<(↑(List.length v8):Int) then Option.bind (ZgI k (Prod.fst (List.getD v8 (Int.toNat v10) ((0:Int),(0:Int))),Prod.snd (List.getD v8 (Int.toNat v10) ((0:Int),(0:Int))))) fun z0=>if (!z0)=true then some (LR.ret false) else if decide (Prod.fst (List.getD v8 (Int.toNat v10) ((0:Int),(0:Int)))=0)=true then some (LR.ret false) else if (0:Int)≤v10 then if v10≤(↑(List.length b1_2):Int) then Option.bind (Zar k b1_0 b1_1 b1_2 b1_3 b1_4 (Prod.fst (List.getD v8 (Int.toNat v10) ((0:Int),(0:Int)))) (Prod.snd (List.getD v8 (Int.toNat v10) ((0:Int),(0:Int)))) v8 v9 v10 (List.take (Int.toNat v10-Int.toNat (0:Int)) (List.drop (Int.toNat (0:Int)) b1_2)) (↑(List.length (List.take (Int.toNat v10-Int.toNat (0:Int)) (List.drop (Int.toNat (0:Int)) b1_2))):Int) (0:Int)) fun z1=>LR.on z1 (fun y1=>ZaA k y1.1 y1.2.1 y1.2.2.1 y1.2.2.2.1 y1.2.2.2.2.1 y1.2.2.2.2.2.1 y1.2.2.2.2.2.2.1 (wrap64 (y1.2.2.2.2.2.2.2+1))) fun r1=>some (LR.ret r1) else none else none else none else none else some (LR.go (b1_0,b1_1,b1_2,b1_3,b1_4))
noncomputable def Zl5:Spec:=Spec.mk [.ro,O4] [(1,.at (.ptr 1 0)),(8,.at (.snap 0 P6)),(9,.at (.int .i64)),(10,.at (.int .i64))]
noncomputable def ZJv:Spec:=Spec.mk [.ro,O4] [(1,.at (.ptr 1 0))]
noncomputable def Z8C:LoopDef (Tup ZaS×OutD):= .rets Zl5 ZJv (Int×Int×List (Int×Int)×List Int×List Int) (Bool) (fun k x=>ZaA k x.1.2.1.1 x.1.2.1.2.1 x.1.2.1.2.2.1 x.1.2.1.2.2.2.1 x.1.2.1.2.2.2.2.1 x.2.2.1 x.2.2.2.1 x.2.2.2.2.1) (fun z=>(((),(z.1,z.2.1,z.2.2.1,z.2.2.2.1,z.2.2.2.2,()),()),((),()))) (fun y=>(y.1.2.1.1,y.1.2.1.2.1,y.1.2.1.2.2.1,y.1.2.1.2.2.2.1,y.1.2.1.2.2.2.2.1)) (fun _=>rfl) ZiM Zj1 Zjt
noncomputable def Zgr:Nat→Int×Int×List (Int×Int)×List Int×List Int→Option Bool
 |0,_=>none
 |k+1,p0=>
  Option.bind (ZaA k p0.1 p0.2.1 p0.2.2.1 p0.2.2.2.1 p0.2.2.2.2 p0.2.2.1 (↑(List.length p0.2.2.1):Int) (0:Int)) fun z2=>LR.on z2 (fun y2=>Option.bind (Z1f k y2.1 (1:Int) (4:Int)) fun z3=>if (!z3)=true then some false else Option.bind (Z1f k y2.2.1 (1:Int) (4:Int)) fun z4=>if (!z4)=true then some false else Option.bind (Z1f k (↑(List.length y2.2.2.1):Int) (1:Int) (6:Int)) fun z5=>if (!z5)=true then some false else Option.bind (Z1f k (↑(List.length y2.2.2.2.1):Int) (1:Int) (8:Int)) fun z6=>if (!z6)=true then some false else if decide ((↑(List.length y2.2.2.2.2):Int)≠(↑(List.length y2.2.2.2.1):Int))=true then some false else Option.bind (Zcl k y2.2.2.2.1 (0:Int) (wrap64 (y2.2.1-1))) fun z7=>if z7=true then Option.bind (Zcl k y2.2.2.2.2 (0:Int) (wrap64 (y2.2.1+1))) fun z8=>if z8=true then Option.bind (Z2v k (y2.1,y2.2.1,y2.2.2.1,y2.2.2.2.1,y2.2.2.2.2)) fun z9=>some (decide (z9≤7000)) else some false else some false) fun r2=>some r2
noncomputable def Z6f:FnDef:= .of ZAX ZaS (Bool) (fun k x=>Zgr k x.1) ZiM Zj1 Zjt
noncomputable def Zgy:Code:=Tryz.f45.body.getD .skip
noncomputable def Z4X:Ctx (Tup ZaS×OutD):={T:=T,G:=[(75,Z67.E),(76,Z2i.E),(77,Z5Z.E),(78,Z42.E)],mvs:=[],no:=0,n:=89,res:=resOf T ZAX ZaS Tryz.f45.results.toList,loops:=[(2,Z9c.E),(0,Z8C.E)],regs:=[],conds:=[],cuts:=[]}
theorem ZpR(k:Nat):EnvOK Tryz.prog k Z4X.G:=(EnvOK.cons (ZBv k) (EnvOK.cons (Z9H k) (EnvOK.cons (Zs5 k) (EnvOK.cons (ZoB k) (EnvOK.nil mixed)))))
noncomputable def ZfA:Code:=(findLoop 2 Zgy).getD .skip
theorem ZJq(k:Nat)(x:Zl8.D):Z9c.lp (k+1) x=loopK Z4X Z9c 2 ZfA k x:=by kernel_rfl
theorem ZKU(k:Nat):LOK Tryz.prog Z4X k ZfA:=LOK.by [] (by kernel_rfl) AllOK.nil
theorem ZLd(x:Zl8.D):Z9c.lp 0 x=none:=by kernel_rfl
theorem ZGQ(k:Nat):EOK Tryz.prog Z4X k Z9c.E (.block 2 (.loop ZfA)):=Zd T_ok ZpR ZLd ZJq ZKU k
noncomputable def ZfW:Code:=(findLoop 0 Zgy).getD .skip
theorem ZL8(k:Nat)(x:Zl5.D):Z8C.lp (k+1) x=loopK Z4X Z8C 0 ZfW k x:=by kernel_rfl
theorem ZLl(k:Nat):LOK Tryz.prog Z4X k ZfW:=LOK.by [(Z9c.E,.block 2 (.loop ZfA))] (by kernel_rfl) (AllOK.cons (ZGQ k) AllOK.nil)
theorem ZKX(x:Zl5.D):Z8C.lp 0 x=none:=by kernel_rfl
theorem ZHA(k:Nat):EOK Tryz.prog Z4X k Z8C.E (.block 0 (.loop ZfW)):=Zd T_ok ZpR ZKX ZL8 ZLl k
theorem ZPJ(k:Nat)(x:Tup Z6f.ps):Z6f.f (k+1) x=fnK Z6f Z4X Zgy k x:=by kernel_rfl
theorem ZQq(x:Tup Z6f.ps):Z6f.f 0 x=none:=by kernel_rfl
theorem ZQ9(k:Nat):LOK Tryz.prog Z4X k Zgy:=LOK.by [(Z8C.E,.block 0 (.loop ZfW))] (by kernel_rfl) (AllOK.cons (ZHA k) AllOK.nil)
theorem ZBB(k:Nat):SoundAt Tryz.prog k 45 Z6f.E:= @Z5 Tryz.prog Z6f Z4X 45 Tryz.f45 Zgy (by kernel_rfl) (by kernel_rfl) (by kernel_rfl) Tryz.func45 (by kernel_rfl) (by kernel_rfl) (by kernel_rfl) T_ok ZpR ZQ9 ZQq ZPJ k
noncomputable def Zgw:List PK:=[PK.mk .bool false none false none]
noncomputable def ZB8:List PK:=[PK.mk (.pair I6 (.slice 3 I6)) true none false none]
noncomputable def Zzr(r:Bool):Tup Zgw×OutD:=((r,()),none)
noncomputable def Zya:Tup Zgw×OutD→Option (Bool)
 |(a,none)=>some (a.1)
 |_=>none
theorem ZIg: ∀b r,Zya b=some r→Zzr r=b:=by
 rintro ⟨a,_|_⟩ r h<;>cases h;rfl
noncomputable def ZkD:Nat→Int×List Int→Option Bool
 |0,_=>none
 |k+1,p0=>
  Option.bind (Zhz k p0.1) fun z0=>if z0=true then if IntKind.wrap IntKind.u64 p0.1<0 then none else if decide ((↑(List.length p0.2):Int)=shlS (1:Int) (IntKind.wrap IntKind.u64 p0.1))=true then Option.bind (Zcl k p0.2 (0:Int) (1:Int)) fun z1=>some z1 else some false else some false
noncomputable def Z80:FnDef:= .of ZB8 Zgw (Bool) (fun k x=>ZkD k x.1) Zzr Zya ZIg
noncomputable def Zqi:Code:=Tryz.f65.body.getD .skip
noncomputable def Zks:Ctx (Tup Zgw×OutD):={T:=T,G:=[(101,Z5K.E),(77,Z5Z.E)],mvs:=[],no:=0,n:=21,res:=resOf T ZB8 Zgw Tryz.f65.results.toList,loops:=[],regs:=[],conds:=[],cuts:=[]}
theorem ZQn(k:Nat):EnvOK Tryz.prog k Zks.G:=(EnvOK.cons (ZLN k) (EnvOK.cons (Zs5 k) (EnvOK.nil mixed)))
theorem ZPT(k:Nat)(x:Tup Z80.ps):Z80.f (k+1) x=fnK Z80 Zks Zqi k x:=by kernel_rfl
theorem ZQj(x:Tup Z80.ps):Z80.f 0 x=none:=by kernel_rfl
theorem ZPP(k:Nat):LOK Tryz.prog Zks k Zqi:=LOK.by [] (by kernel_rfl) AllOK.nil
theorem ZRf(k:Nat):SoundAt Tryz.prog k 65 Z80.E:= @Z5 Tryz.prog Z80 Zks 65 Tryz.f65 Zqi (by kernel_rfl) (by kernel_rfl) (by kernel_rfl) Tryz.func65 (by kernel_rfl) (by kernel_rfl) (by kernel_rfl) T_ok ZQn ZPP ZQj ZPT k
noncomputable def Z5w:List PK:=[PK.mk (.slice 58 T6) false none false none]
noncomputable def ZqO:List PK:=[PK.mk (.pair I6 (.pair I6 (.slice 76 P6))) true none false none]
noncomputable def Zpo(r:List (Int×Int×Int)):Tup Z5w×OutD:=((r,()),none)
noncomputable def Zp1:Tup Z5w×OutD→Option (List (Int×Int×Int))
 |(a,none)=>some (a.1)
 |_=>none
theorem ZyW: ∀b r,Zp1 b=some r→Zpo r=b:=by
 rintro ⟨a,_|_⟩ r h<;>cases h;rfl
noncomputable def Z23:Nat→Int→Int→List (Int×Int)→List (Int×Int×Int)→Int→Int→Int→Int→List (Int×Int)→Int→Int→Option (Int×Int×List (Int×Int)×List (Int×Int×Int)×List (Int×Int)×Int×Int)
 |0,_,_,_,_,_,_,_,_,_,_,_=>none
 |k+1,b1_0,b1_1,b1_2,o2,b3_0,b3_1,v4,v6,v8,v9,v10=>
  if decide (v6≤3)=true then Option.bind (Zgx k (b3_0,b3_1) v6) fun z0=>if z0=true then if b1_1=0 then none else if b1_1=0 then none else if List.length o2+List.length [(v6,wrap64 (Int.tdiv v4 b1_1),Int.tmod v4 b1_1)]≤(140737488355328/24:Nat) then Z23 k b1_0 b1_1 b1_2 (o2++[(v6,wrap64 (Int.tdiv v4 b1_1),Int.tmod v4 b1_1)]) b3_0 b3_1 v4 (wrap64 (v6+1)) v8 v9 v10 else none else Z23 k b1_0 b1_1 b1_2 o2 b3_0 b3_1 v4 (wrap64 (v6+1)) v8 v9 v10 else some (b1_0,b1_1,b1_2,o2,v8,v9,v10)
noncomputable def ZfJ:Spec:=Spec.mk [.ro,O2,Og,Ol] [(1,.at (.ptr 1 0)),(3,.at (.sl 2)),(4,.at (.int .i64)),(5,.at (.ptr 3 0)),(6,.at (.int .i64)),(8,.at (.snap 0 P6)),(9,.at (.int .i64)),(10,.at (.int .i64))]
noncomputable def ZzX:Spec:=Spec.mk [.ro,O2,Og] [(1,.at (.ptr 1 0)),(3,.at (.sl 2)),(8,.at (.snap 0 P6)),(9,.at (.int .i64)),(10,.at (.int .i64))]
noncomputable def Z56:LoopDef (Tup Z5w×OutD):= .plain ZfJ ZzX (Int×Int×List (Int×Int)×List (Int×Int×Int)×List (Int×Int)×Int×Int) (fun k x=>Z23 k x.1.2.1.1 x.1.2.1.2.1 x.1.2.1.2.2.1 x.1.2.2.1 x.1.2.2.2.1.1 x.1.2.2.2.1.2.1 x.2.2.2.1 x.2.2.2.2.2.1 x.2.2.2.2.2.2.1 x.2.2.2.2.2.2.2.1 x.2.2.2.2.2.2.2.2.1) (fun z=>(((),(z.1,z.2.1,z.2.2.1,()),z.2.2.2.1,()),((),(),z.2.2.2.2.1,z.2.2.2.2.2.1,z.2.2.2.2.2.2,()))) (fun y=>(y.1.2.1.1,y.1.2.1.2.1,y.1.2.1.2.2.1,y.1.2.2.1,y.2.2.2.1,y.2.2.2.2.1,y.2.2.2.2.2.1)) (fun _=>rfl)
noncomputable def Z4f:Nat→Int→Int→List (Int×Int)→List (Int×Int×Int)→List (Int×Int)→Int→Int→Option (List (Int×Int×Int))
 |0,_,_,_,_,_,_,_=>none
 |k+1,b1_0,b1_1,b1_2,o2,v8,v9,v10=>
  if decide (v10<v9)=true then if (0:Int)≤v10 then if v10<(↑(List.length v8):Int) then Option.bind (Z23 k b1_0 b1_1 b1_2 o2 (Prod.fst (List.getD v8 (Int.toNat v10) ((0:Int),(0:Int)))) (Prod.snd (List.getD v8 (Int.toNat v10) ((0:Int),(0:Int)))) v10 (1:Int) v8 v9 v10) fun z1=>Z4f k z1.1 z1.2.1 z1.2.2.1 z1.2.2.2.1 z1.2.2.2.2.1 z1.2.2.2.2.2.1 (wrap64 (z1.2.2.2.2.2.2+1)) else none else none else some o2
noncomputable def Zgd:Spec:=Spec.mk [.ro,O2,Og] [(1,.at (.ptr 1 0)),(3,.at (.sl 2)),(8,.at (.snap 0 P6)),(9,.at (.int .i64)),(10,.at (.int .i64))]
noncomputable def ZAP:Spec:=Spec.mk [.ro,Og] [(3,.at (.sl 1))]
noncomputable def Z5f:LoopDef (Tup Z5w×OutD):= .plain Zgd ZAP (List (Int×Int×Int)) (fun k x=>Z4f k x.1.2.1.1 x.1.2.1.2.1 x.1.2.1.2.2.1 x.1.2.2.1 x.2.2.2.1 x.2.2.2.2.1 x.2.2.2.2.2.1) (fun z=>(((),z,()),((),()))) (fun y=>(y.1.2.1)) (fun _=>rfl)
noncomputable def Zbd:Nat→Int×Int×List (Int×Int)→Option (List (Int×Int×Int))
 |0,_=>none
 |k+1,p0=>
  Option.bind (Z4f k p0.1 p0.2.1 p0.2.2 [] p0.2.2 (↑(List.length p0.2.2):Int) (0:Int)) fun z2=>some z2
noncomputable def Z33:FnDef:= .of ZqO Z5w (List (Int×Int×Int)) (fun k x=>Zbd k x.1) Zpo Zp1 ZyW
noncomputable def Zba:Code:=Tryz.f88.body.getD .skip
noncomputable def Z2j:Ctx (Tup Z5w×OutD):={T:=T,G:=[(111,Z6g.E)],mvs:=[],no:=0,n:=37,res:=resOf T ZqO Z5w Tryz.f88.results.toList,loops:=[(2,Z56.E),(0,Z5f.E)],regs:=[],conds:=[],cuts:=[]}
theorem ZjN(k:Nat):EnvOK Tryz.prog k Z2j.G:=(EnvOK.cons (ZBX k) (EnvOK.nil mixed))
noncomputable def Zby:Code:=(findLoop 2 Zba).getD .skip
theorem ZAs(k:Nat)(x:ZfJ.D):Z56.lp (k+1) x=loopK Z2j Z56 2 Zby k x:=by kernel_rfl
theorem ZAj(k:Nat):LOK Tryz.prog Z2j k Zby:=LOK.by [] (by kernel_rfl) AllOK.nil
theorem ZAd(x:ZfJ.D):Z56.lp 0 x=none:=by kernel_rfl
theorem Zyn(k:Nat):EOK Tryz.prog Z2j k Z56.E (.block 2 (.loop Zby)):=Zd T_ok ZjN ZAd ZAs ZAj k
noncomputable def ZbA:Code:=(findLoop 0 Zba).getD .skip
theorem ZAG(k:Nat)(x:Zgd.D):Z5f.lp (k+1) x=loopK Z2j Z5f 0 ZbA k x:=by kernel_rfl
theorem ZzR(k:Nat):LOK Tryz.prog Z2j k ZbA:=LOK.by [(Z56.E,.block 2 (.loop Zby))] (by kernel_rfl) (AllOK.cons (Zyn k) AllOK.nil)
theorem ZAn(x:Zgd.D):Z5f.lp 0 x=none:=by kernel_rfl
theorem Zzk(k:Nat):EOK Tryz.prog Z2j k Z5f.E (.block 0 (.loop ZbA)):=Zd T_ok ZjN ZAn ZAG ZzR k
theorem ZGG(k:Nat)(x:Tup Z33.ps):Z33.f (k+1) x=fnK Z33 Z2j Zba k x:=by kernel_rfl
theorem ZGO(x:Tup Z33.ps):Z33.f 0 x=none:=by kernel_rfl
theorem ZHp(k:Nat):LOK Tryz.prog Z2j k Zba:=LOK.by [(Z5f.E,.block 0 (.loop ZbA))] (by kernel_rfl) (AllOK.cons (Zzk k) AllOK.nil)
theorem Zqq(k:Nat):SoundAt Tryz.prog k 88 Z33.E:= @Z5 Tryz.prog Z33 Z2j 88 Tryz.f88 Zba (by kernel_rfl) (by kernel_rfl) (by kernel_rfl) Tryz.func88 (by kernel_rfl) (by kernel_rfl) (by kernel_rfl) T_ok ZjN ZHp ZGO ZGG k
noncomputable def Zf4:List PK:=[PK.mk .bool false none false none]
noncomputable def ZxK:List PK:=[PK.mk P6 true none false none,PK.mk I6 false none false none]
noncomputable def Zvz(r:Bool):Tup Zf4×OutD:=((r,()),none)
noncomputable def ZuL:Tup Zf4×OutD→Option (Bool)
 |(a,none)=>some (a.1)
 |_=>none
theorem ZG3: ∀b r,ZuL b=some r→Zvz r=b:=by
 rintro ⟨a,_|_⟩ r h<;>cases h;rfl
noncomputable def Zfq:Nat→Int×Int→Int→Option Bool
 |0,_,_=>none
 |k+1,p0,p1=>
  if decide (p1=1)=true then Option.bind (Z3I k (p0.1,p0.2)) fun z0=>some z0 else if decide (p1=2)=true then some true else if decide (p1=3)=true then Option.bind (Z3I k (p0.1,p0.2)) fun z1=>if z1=true then some true else if decide (p0.1=1)=true then some true else some (decide (p0.1=2)) else some false
noncomputable def Z53:FnDef:= .of ZxK Zf4 (Bool) (fun k x=>Zfq k x.1 x.2.1) Zvz ZuL ZG3
noncomputable def Zog:Code:=Tryz.f91.body.getD .skip
noncomputable def Zj5:Ctx (Tup Zf4×OutD):={T:=T,G:=[(114,Z3J.E)],mvs:=[],no:=0,n:=26,res:=resOf T ZxK Zf4 Tryz.f91.results.toList,loops:=[],regs:=[],conds:=[],cuts:=[]}
theorem ZO6(k:Nat):EnvOK Tryz.prog k Zj5.G:=(EnvOK.cons (ZsQ k) (EnvOK.nil mixed))
theorem ZNL(k:Nat)(x:Tup Z53.ps):Z53.f (k+1) x=fnK Z53 Zj5 Zog k x:=by kernel_rfl
theorem ZOi(x:Tup Z53.ps):Z53.f 0 x=none:=by kernel_rfl
theorem ZOF(k:Nat):LOK Tryz.prog Zj5 k Zog:=LOK.by [] (by kernel_rfl) AllOK.nil
theorem Zz9(k:Nat):SoundAt Tryz.prog k 91 Z53.E:= @Z5 Tryz.prog Z53 Zj5 91 Tryz.f91 Zog (by kernel_rfl) (by kernel_rfl) (by kernel_rfl) Tryz.func91 (by kernel_rfl) (by kernel_rfl) (by kernel_rfl) T_ok ZO6 ZOF ZOi ZNL k
noncomputable def Z7D:List PK:=[PK.mk T6 true none false none]
noncomputable def ZqV:List PK:=[PK.mk (.pair I6 (.pair I6 (.slice 76 P6))) true (some (2,76,.pair I6 I6)) false none,PK.mk (.slice 3 I6) false none false none,PK.mk (.slice 3 I6) false none false none,PK.mk I6 false none false none]
noncomputable def Zij(r:(Int×Int×Int)×List (Int×Int)):Tup Z7D×OutD:=((r.1,()),some ⟨Ty.pair (Ty.int .i64) (Ty.int .i64),r.2⟩)
noncomputable def ZdT:Tup Z7D×OutD→Option ((Int×Int×Int)×List (Int×Int))
 |(a,some ⟨u,ys⟩)=>if h:u=Ty.pair (Ty.int .i64) (Ty.int .i64) then some (a.1,castU h ys) else none
 |_=>none
theorem Zln: ∀b r,ZdT b=some r→Zij r=b:=by
 rintro ⟨a,o⟩ r h
 cases o with
 |none=>cases h
 |some s=>
  obtain ⟨u,ys⟩:=s
  simp only[ZdT]at h
  split at h
  ·rename_i hu;subst hu;injection h with h;subst h;rfl
  ·cases h
noncomputable def ZT:Nat→List (Int×Int)→Int→Int→Int→Int→Int→List Int→List Int→Int→Int→Int→Option (LR (List (Int×Int)×Int×Int×Int×Int×Int×Int) ((Int×Int×Int)×List (Int×Int)))
 |0,_,_,_,_,_,_,_,_,_,_,_=>none
 |k+1,o1,b2_0,b2_1,b3_0,b3_1,b3_2,v1,v2,v3,v9,v10=>
  if decide (v10<b2_0)=true then if (0:Int)≤wrap64 (wrap64 (v10*b2_1)+v3) then if wrap64 (wrap64 (v10*b2_1)+v3)<(↑(List.length v2):Int) then if decide (List.getD v2 (Int.toNat (wrap64 (wrap64 (v10*b2_1)+v3))) (0:Int)=2)=true then some (LR.ret (((3:Int),v10,v3),o1)) else if (0:Int)≤wrap64 (wrap64 (v10*b2_1)+v3) then if wrap64 (wrap64 (v10*b2_1)+v3)<(↑(List.length o1):Int) then Option.bind (ZgH k (Prod.fst (List.getD o1 (Int.toNat (wrap64 (wrap64 (v10*b2_1)+v3))) ((0:Int),(0:Int))),Prod.snd (List.getD o1 (Int.toNat (wrap64 (wrap64 (v10*b2_1)+v3))) ((0:Int),(0:Int)))) v9) fun z0=>if (!z0.2)=true then some (LR.ret (((2:Int),v10,v3),o1)) else if (0:Int)≤wrap64 (wrap64 (v10*b2_1)+v3) then if wrap64 (wrap64 (v10*b2_1)+v3)<(↑(List.length v2):Int) then if decide (List.getD v2 (Int.toNat (wrap64 (wrap64 (v10*b2_1)+v3))) (0:Int)=3)=true then if (0:Int)≤wrap64 (wrap64 (v10*b2_1)+v3) then if wrap64 (wrap64 (v10*b2_1)+v3)<(↑(List.length o1):Int) then Option.bind (Z3I k (Prod.fst (List.getD o1 (Int.toNat (wrap64 (wrap64 (v10*b2_1)+v3))) ((0:Int),(0:Int))),Prod.snd (List.getD o1 (Int.toNat (wrap64 (wrap64 (v10*b2_1)+v3))) ((0:Int),(0:Int))))) fun z1=>if z1=true then Option.bind (Z7G k (b2_0,b2_1,o1) v1 v2 (wrap64 (wrap64 (v10*b2_1)+v3))) fun z2=>if decide (wrap64 (v3+wrap64 ((0:Int)-z0.1))<0)=true then some (LR.ret (((3:Int),v10,wrap64 (v3+wrap64 ((0:Int)-z0.1))),z2)) else if decide (wrap64 (v3+wrap64 ((0:Int)-z0.1))≥b2_1)=true then some (LR.ret (((3:Int),v10,wrap64 (v3+wrap64 ((0:Int)-z0.1))),z2)) else ZT k z2 b2_0 b2_1 b3_0 b3_1 b3_2 v1 v2 (wrap64 (v3+wrap64 ((0:Int)-z0.1))) (wrap64 ((0:Int)-wrap64 ((0:Int)-z0.1))) (wrap64 (v10+1)) else if decide (wrap64 (v3+wrap64 ((0:Int)-z0.1))<0)=true then some (LR.ret (((3:Int),v10,wrap64 (v3+wrap64 ((0:Int)-z0.1))),o1)) else if decide (wrap64 (v3+wrap64 ((0:Int)-z0.1))≥b2_1)=true then some (LR.ret (((3:Int),v10,wrap64 (v3+wrap64 ((0:Int)-z0.1))),o1)) else ZT k o1 b2_0 b2_1 b3_0 b3_1 b3_2 v1 v2 (wrap64 (v3+wrap64 ((0:Int)-z0.1))) (wrap64 ((0:Int)-wrap64 ((0:Int)-z0.1))) (wrap64 (v10+1)) else none else none else if (0:Int)≤wrap64 (wrap64 (v10*b2_1)+v3) then if wrap64 (wrap64 (v10*b2_1)+v3)<(↑(List.length o1):Int) then Option.bind (Z3I k (Prod.fst (List.getD o1 (Int.toNat (wrap64 (wrap64 (v10*b2_1)+v3))) ((0:Int),(0:Int))),Prod.snd (List.getD o1 (Int.toNat (wrap64 (wrap64 (v10*b2_1)+v3))) ((0:Int),(0:Int))))) fun z3=>if z3=true then Option.bind (Z7G k (b2_0,b2_1,o1) v1 v2 (wrap64 (wrap64 (v10*b2_1)+v3))) fun z4=>if decide (wrap64 (v3+z0.1)<0)=true then some (LR.ret (((3:Int),v10,wrap64 (v3+z0.1)),z4)) else if decide (wrap64 (v3+z0.1)≥b2_1)=true then some (LR.ret (((3:Int),v10,wrap64 (v3+z0.1)),z4)) else ZT k z4 b2_0 b2_1 b3_0 b3_1 b3_2 v1 v2 (wrap64 (v3+z0.1)) (wrap64 ((0:Int)-z0.1)) (wrap64 (v10+1)) else if decide (wrap64 (v3+z0.1)<0)=true then some (LR.ret (((3:Int),v10,wrap64 (v3+z0.1)),o1)) else if decide (wrap64 (v3+z0.1)≥b2_1)=true then some (LR.ret (((3:Int),v10,wrap64 (v3+z0.1)),o1)) else ZT k o1 b2_0 b2_1 b3_0 b3_1 b3_2 v1 v2 (wrap64 (v3+z0.1)) (wrap64 ((0:Int)-z0.1)) (wrap64 (v10+1)) else none else none else none else none else none else none else none else none else some (LR.go (o1,b2_0,b2_1,b3_0,b3_1,b3_2,v3))
noncomputable def ZfE:Spec:=Spec.mk [.ro,Oi,Of,O5] [(1,.at (.snap 0 I6)),(2,.at (.snap 0 I6)),(3,.at (.int .i64)),(4,.at (.ptr 2 0)),(8,.at (.ptr 3 0)),(9,.at (.int .i64)),(10,.at (.int .i64))]
noncomputable def ZA5:Spec:=Spec.mk [.ro,Oi,Of,O5] [(3,.at (.int .i64)),(4,.at (.ptr 2 0)),(8,.at (.ptr 3 0))]
noncomputable def Z5l:LoopDef (Tup Z7D×OutD):= .rets ZfE ZA5 (List (Int×Int)×Int×Int×Int×Int×Int×Int) ((Int×Int×Int)×List (Int×Int)) (fun k x=>ZT k x.1.2.1 x.1.2.2.1.1 x.1.2.2.1.2.1 x.1.2.2.2.1.1 x.1.2.2.2.1.2.1 x.1.2.2.2.1.2.2.1 x.2.1 x.2.2.1 x.2.2.2.1 x.2.2.2.2.2.2.1 x.2.2.2.2.2.2.2.1) (fun z=>(((),z.1,(z.2.1,z.2.2.1,(),()),(z.2.2.2.1,z.2.2.2.2.1,z.2.2.2.2.2.1,()),()),(z.2.2.2.2.2.2,(),(),()))) (fun y=>(y.1.2.1,y.1.2.2.1.1,y.1.2.2.1.2.1,y.1.2.2.2.1.1,y.1.2.2.2.1.2.1,y.1.2.2.2.1.2.2.1,y.2.1)) (fun _=>rfl) Zij ZdT Zln
noncomputable def ZeL:Nat→Int×Int×List (Int×Int)→List Int→List Int→Int→Option ((Int×Int×Int)×List (Int×Int))
 |0,_,_,_,_=>none
 |k+1,p0,p1,p2,p3=>
  Option.bind (ZT k p0.2.2 p0.1 p0.2.1 (0:Int) (0:Int) (0:Int) p1 p2 p3 (0:Int) (0:Int)) fun z5=>LR.on z5 (fun y5=>some (((1:Int),y5.2.1,y5.2.2.2.2.2.2),y5.1)) fun r5=>some r5
noncomputable def Z49:FnDef:= .of ZqV Z7D ((Int×Int×Int)×List (Int×Int)) (fun k x=>ZeL k x.1 x.2.1 x.2.2.1 x.2.2.2.1) Zij ZdT Zln
noncomputable def Zet:Code:=Tryz.f94.body.getD .skip
noncomputable def Z5A:Ctx (Tup Z7D×OutD):={T:=T,G:=[(70,Z6a.E),(114,Z3J.E),(115,Z4d.E)],mvs:=[],no:=1,n:=87,res:=resOf T ZqV Z7D Tryz.f94.results.toList,loops:=[(0,Z5l.E)],regs:=[],conds:=[],cuts:=[]}
theorem ZqK(k:Nat):EnvOK Tryz.prog k Z5A.G:=(EnvOK.cons (ZC7 k) (EnvOK.cons (ZsQ k) (EnvOK.cons (ZGV k) (EnvOK.nil mixed))))
noncomputable def Zbw:Code:=(findLoop 0 Zet).getD .skip
theorem ZAv(k:Nat)(x:ZfE.D):Z5l.lp (k+1) x=loopK Z5A Z5l 0 Zbw k x:=by kernel_rfl
theorem ZAE(k:Nat):LOK Tryz.prog Z5A k Zbw:=LOK.by [] (by kernel_rfl) AllOK.nil
theorem ZzT(x:ZfE.D):Z5l.lp 0 x=none:=by kernel_rfl
theorem ZyU(k:Nat):EOK Tryz.prog Z5A k Z5l.E (.block 0 (.loop Zbw)):=Zd T_ok ZqK ZzT ZAv ZAE k
theorem ZH1(k:Nat)(x:Tup Z49.ps):Z49.f (k+1) x=fnK Z49 Z5A Zet k x:=by kernel_rfl
theorem ZHo(x:Tup Z49.ps):Z49.f 0 x=none:=by kernel_rfl
theorem ZIL(k:Nat):LOK Tryz.prog Z5A k Zet:=LOK.by [(Z5l.E,.block 0 (.loop Zbw))] (by kernel_rfl) (AllOK.cons (ZyU k) AllOK.nil)
theorem ZH6(k:Nat):SoundAt Tryz.prog k 94 Z49.E:= @Z5 Tryz.prog Z49 Z5A 94 Tryz.f94 Zet (by kernel_rfl) (by kernel_rfl) (by kernel_rfl) Tryz.func94 (by kernel_rfl) (by kernel_rfl) (by kernel_rfl) T_ok ZqK ZIL ZHo ZH1 k
noncomputable def Zce:List PK:=[PK.mk .bool false none false none]
noncomputable def Zst:List PK:=[PK.mk (.pair (.slice 5 (.int .u8)) (.pair I6 (.int .u64))) false none false (some 105),PK.mk I6 false none false none]
noncomputable def Zqt(r:Bool×Int×Int):Tup Zce×OutD:=((r.1,()),some ⟨Ty.pair (Ty.slice (5:Nat) (Ty.int .u8)) (Ty.pair (Ty.int .i64) (Ty.int .u64)),[([],r.2)]⟩)
noncomputable def ZjC:Tup Zce×OutD→Option (Bool×Int×Int)
 |(a,some ⟨u,ys⟩)=>if h:u=Ty.pair (Ty.slice (5:Nat) (Ty.int .u8)) (Ty.pair (Ty.int .i64) (Ty.int .u64)) then (match castU h ys with
  |[([],y)]=>some (a.1,y)
  |_=>none) else none
 |_=>none
theorem ZzL: ∀b r,ZjC b=some r→Zqt r=b:=by
 rintro ⟨a,o⟩ r h
 cases o with
 |none=>cases h
 |some s=>
  obtain ⟨u,ys⟩:=s
  simp only[ZjC]at h
  split at h
  ·rename_i hu
   subst hu
   match ys,h with
   |[],h=>cases (show (none:Option _)=some r from h)
   |[([],y)],h=>injection (show some _=some r from h) with h;subst h;rfl
   |[(_::_,y)],h=>cases (show (none:Option _)=some r from h)
   |(h1,_)::_::_,h=>cases h1<;>cases (show (none:Option _)=some r from h)
  ·cases h
noncomputable def ZK:Nat→List Int×Int×Int→Int→Option (Bool×Int×Int)
 |0,_,_=>none
 |k+1,p0,p1=>
  Option.bind (Z1 k (p0.1,p0.2.1,p0.2.2) p1) fun z0=>some (decide (z0.1=(0:Int)),z0.2.1,z0.2.2)
noncomputable def ZZ:FnDef:= .of Zst Zce (Bool×Int×Int) (fun k x=>ZK k x.1 x.2.1) Zqt ZjC ZzL
noncomputable def ZkN:Code:=Tryz.f95.body.getD .skip
noncomputable def ZfR:Ctx (Tup Zce×OutD):={T:=T,G:=[(116,Zq.E)],mvs:=[],no:=2,n:=9,res:=resOf T Zst Zce Tryz.f95.results.toList,loops:=[],regs:=[],conds:=[],cuts:=[]}
theorem ZLh(k:Nat):EnvOK Tryz.prog k ZfR.G:=(EnvOK.cons (Z1I k) (EnvOK.nil mixed))
theorem ZLv(k:Nat)(x:Tup ZZ.ps):ZZ.f (k+1) x=fnK ZZ ZfR ZkN k x:=by kernel_rfl
theorem ZLu(x:Tup ZZ.ps):ZZ.f 0 x=none:=by kernel_rfl
theorem ZK1(k:Nat):LOK Tryz.prog ZfR k ZkN:=LOK.by [] (by kernel_rfl) AllOK.nil
theorem Z6n(k:Nat):SoundAt Tryz.prog k 95 ZZ.E:= @Z5 Tryz.prog ZZ ZfR 95 Tryz.f95 ZkN (by kernel_rfl) (by kernel_rfl) (by kernel_rfl) Tryz.func95 (by kernel_rfl) (by kernel_rfl) (by kernel_rfl) T_ok ZLh ZK1 ZLu ZLv k
noncomputable def Za5:List PK:=[PK.mk I6 false none false none]
noncomputable def Zp2:List PK:=[PK.mk (.pair (.slice 5 (.int .u8)) (.pair I6 (.int .u64))) false none false (some 105),PK.mk (.slice 3 I6) false none false none]
noncomputable def ZnF(r:Int×Int×Int):Tup Za5×OutD:=((r.1,()),some ⟨Ty.pair (Ty.slice (5:Nat) (Ty.int .u8)) (Ty.pair (Ty.int .i64) (Ty.int .u64)),[([],r.2)]⟩)
noncomputable def Zh9:Tup Za5×OutD→Option (Int×Int×Int)
 |(a,some ⟨u,ys⟩)=>if h:u=Ty.pair (Ty.slice (5:Nat) (Ty.int .u8)) (Ty.pair (Ty.int .i64) (Ty.int .u64)) then (match castU h ys with
  |[([],y)]=>some (a.1,y)
  |_=>none) else none
 |_=>none
theorem Zx1: ∀b r,Zh9 b=some r→ZnF r=b:=by
 rintro ⟨a,o⟩ r h
 cases o with
 |none=>cases h
 |some s=>
  obtain ⟨u,ys⟩:=s
  simp only[Zh9]at h
  split at h
  ·rename_i hu
   subst hu
   match ys,h with
   |[],h=>cases (show (none:Option _)=some r from h)
   |[([],y)],h=>injection (show some _=some r from h) with h;subst h;rfl
   |[(_::_,y)],h=>cases (show (none:Option _)=some r from h)
   |(h1,_)::_::_,h=>cases h1<;>cases (show (none:Option _)=some r from h)
  ·cases h
noncomputable def Zb:Nat→List Int×Int×Int→List Int→Option (Int×Int×Int)
 |0,_,_=>none
 |k+1,p0,p1=>
  Option.bind (Z1 k (p0.1,p0.2.1,p0.2.2) (↑(List.length p1):Int)) fun z0=>if (0:Int)≤z0.1 then if z0.1<(↑(List.length p1):Int) then some (List.getD p1 (Int.toNat z0.1) (0:Int),z0.2.1,z0.2.2) else none else none
noncomputable def Zp:FnDef:= .of Zp2 Za5 (Int×Int×Int) (fun k x=>Zb k x.1 x.2.1) ZnF Zh9 Zx1
noncomputable def ZhP:Code:=Tryz.f98.body.getD .skip
noncomputable def ZdM:Ctx (Tup Za5×OutD):={T:=T,G:=[(116,Zq.E)],mvs:=[],no:=2,n:=12,res:=resOf T Zp2 Za5 Tryz.f98.results.toList,loops:=[],regs:=[],conds:=[],cuts:=[]}
theorem ZEn(k:Nat):EnvOK Tryz.prog k ZdM.G:=(EnvOK.cons (Z1I k) (EnvOK.nil mixed))
theorem ZEr(k:Nat)(x:Tup Zp.ps):Zp.f (k+1) x=fnK Zp ZdM ZhP k x:=by kernel_rfl
theorem ZF0(x:Tup Zp.ps):Zp.f 0 x=none:=by kernel_rfl
theorem ZEE(k:Nat):LOK Tryz.prog ZdM k ZhP:=LOK.by [] (by kernel_rfl) AllOK.nil
theorem Z1T(k:Nat):SoundAt Tryz.prog k 98 Zp.E:= @Z5 Tryz.prog Zp ZdM 98 Tryz.f98 ZhP (by kernel_rfl) (by kernel_rfl) (by kernel_rfl) Tryz.func98 (by kernel_rfl) (by kernel_rfl) (by kernel_rfl) T_ok ZEn ZEE ZF0 ZEr k
noncomputable def Zdb:List PK:=[PK.mk .bool false none false none]
noncomputable def ZBf:List PK:=[PK.mk (.pair I6 (.pair I6 (.slice 76 P6))) true none false none]
noncomputable def ZoL(r:Bool):Tup Zdb×OutD:=((r,()),none)
noncomputable def Zox:Tup Zdb×OutD→Option (Bool)
 |(a,none)=>some (a.1)
 |_=>none
theorem ZqJ: ∀b r,Zox b=some r→ZoL r=b:=by
 rintro ⟨a,_|_⟩ r h<;>cases h;rfl
noncomputable def Zac:Nat→List (Int×Int)→Int→Int→Option (LR Unit Bool)
 |0,_,_,_=>none
 |k+1,v27,v28,v29=>
  if decide (v29<v28)=true then if (0:Int)≤v29 then if v29<(↑(List.length v27):Int) then Option.bind (ZgI k (Prod.fst (List.getD v27 (Int.toNat v29) ((0:Int),(0:Int))),Prod.snd (List.getD v27 (Int.toNat v29) ((0:Int),(0:Int))))) fun z2=>if (!z2)=true then some (LR.ret false) else Zac k v27 v28 (wrap64 (v29+1)) else none else none else some (LR.go ())
noncomputable def Zl4:Spec:=Spec.mk [.ro] [(27,.at (.snap 0 P6)),(28,.at (.int .i64)),(29,.at (.int .i64))]
noncomputable def ZJI:Spec:=Spec.mk [.ro] []
noncomputable def Z9h:LoopDef (Tup Zdb×OutD):= .rets Zl4 ZJI (Unit) (Bool) (fun k x=>Zac k x.2.1 x.2.2.1 x.2.2.2.1) (fun z=>(((),()),(()))) (fun y=>()) (fun _=>rfl) ZoL Zox ZqJ
noncomputable def ZgJ:Nat→Int×Int×List (Int×Int)→Option Bool
 |0,_=>none
 |k+1,p0=>
  Option.bind (Z1f k p0.1 (1:Int) (10:Int)) fun z0=>if (!z0)=true then some false else Option.bind (Z1f k p0.2.1 (1:Int) (9:Int)) fun z1=>if (!z1)=true then some false else if decide ((↑(List.length p0.2.2):Int)≠wrap64 (p0.1*p0.2.1))=true then some false else Option.bind (Zac k p0.2.2 (↑(List.length p0.2.2):Int) (0:Int)) fun z3=>LR.on z3 (fun y3=>some true) fun r3=>some r3
noncomputable def Z69:FnDef:= .of ZBf Zdb (Bool) (fun k x=>ZgJ k x.1) ZoL Zox ZqJ
noncomputable def ZkF:Code:=Tryz.f110.body.getD .skip
noncomputable def ZaO:Ctx (Tup Zdb×OutD):={T:=T,G:=[(76,Z2i.E),(75,Z67.E)],mvs:=[],no:=0,n:=37,res:=resOf T ZBf Zdb Tryz.f110.results.toList,loops:=[(0,Z9h.E)],regs:=[],conds:=[],cuts:=[]}
theorem ZC1(k:Nat):EnvOK Tryz.prog k ZaO.G:=(EnvOK.cons (Z9H k) (EnvOK.cons (ZBv k) (EnvOK.nil mixed)))
noncomputable def ZfM:Code:=(findLoop 0 ZkF).getD .skip
theorem ZJZ(k:Nat)(x:Zl4.D):Z9h.lp (k+1) x=loopK ZaO Z9h 0 ZfM k x:=by kernel_rfl
theorem ZLz(k:Nat):LOK Tryz.prog ZaO k ZfM:=LOK.by [] (by kernel_rfl) AllOK.nil
theorem ZLg(x:Zl4.D):Z9h.lp 0 x=none:=by kernel_rfl
theorem ZIc(k:Nat):EOK Tryz.prog ZaO k Z9h.E (.block 0 (.loop ZfM)):=Zd T_ok ZC1 ZLg ZJZ ZLz k
theorem ZQv(k:Nat)(x:Tup Z69.ps):Z69.f (k+1) x=fnK Z69 ZaO ZkF k x:=by kernel_rfl
theorem ZQw(x:Tup Z69.ps):Z69.f 0 x=none:=by kernel_rfl
theorem ZQA(k:Nat):LOK Tryz.prog ZaO k ZkF:=LOK.by [(Z9h.E,.block 0 (.loop ZfM))] (by kernel_rfl) (AllOK.cons (ZIc k) AllOK.nil)
theorem ZCb(k:Nat):SoundAt Tryz.prog k 110 Z69.E:= @Z5 Tryz.prog Z69 ZaO 110 Tryz.f110 ZkF (by kernel_rfl) (by kernel_rfl) (by kernel_rfl) Tryz.func110 (by kernel_rfl) (by kernel_rfl) (by kernel_rfl) T_ok ZC1 ZQA ZQw ZQv k
noncomputable def Zdf:List PK:=[PK.mk .bool false none false none]
noncomputable def ZBM:List PK:=[PK.mk (.pair I6 (.pair I6 (.slice 76 P6))) true none false none,PK.mk (.slice 58 T6) false none false none]
noncomputable def Zod(r:Bool):Tup Zdf×OutD:=((r,()),none)
noncomputable def ZoN:Tup Zdf×OutD→Option (Bool)
 |(a,none)=>some (a.1)
 |_=>none
theorem Zqs: ∀b r,ZoN b=some r→Zod r=b:=by
 rintro ⟨a,_|_⟩ r h<;>cases h;rfl
noncomputable def Zag:Nat→Int→Int→List (Int×Int)→List (Int×Int×Int)→Int→List (Int×Int×Int)→Int→Int→Option (LR (List (Int×Int×Int)) Bool)
 |0,_,_,_,_,_,_,_,_=>none
 |k+1,b1_0,b1_1,b1_2,v1,v5,v8,v9,v10=>
  if decide (v10<v9)=true then if (0:Int)≤v10 then if v10<(↑(List.length v8):Int) then Option.bind (Z1f k (Prod.fst (Prod.snd (List.getD v8 (Int.toNat v10) ((0:Int),(0:Int),(0:Int))))) (0:Int) (wrap64 (b1_0-1))) fun z0=>if (!z0)=true then some (LR.ret false) else Option.bind (Z1f k (Prod.snd (Prod.snd (List.getD v8 (Int.toNat v10) ((0:Int),(0:Int),(0:Int))))) (0:Int) (wrap64 (b1_1-1))) fun z1=>if (!z1)=true then some (LR.ret false) else Option.bind (ZbE k (b1_0,b1_1,b1_2) (Prod.fst (Prod.snd (List.getD v8 (Int.toNat v10) ((0:Int),(0:Int),(0:Int))))) (Prod.snd (Prod.snd (List.getD v8 (Int.toNat v10) ((0:Int),(0:Int),(0:Int)))))) fun z2=>Option.bind (Zgx k (z2.1,z2.2) (Prod.fst (List.getD v8 (Int.toNat v10) ((0:Int),(0:Int),(0:Int))))) fun z3=>if (!z3)=true then some (LR.ret false) else if decide (wrap64 (wrap64 (Prod.fst (Prod.snd (List.getD v8 (Int.toNat v10) ((0:Int),(0:Int),(0:Int))))*b1_1)+Prod.snd (Prod.snd (List.getD v8 (Int.toNat v10) ((0:Int),(0:Int),(0:Int)))))≤v5)=true then some (LR.ret false) else Zag k b1_0 b1_1 b1_2 v1 (wrap64 (wrap64 (Prod.fst (Prod.snd (List.getD v8 (Int.toNat v10) ((0:Int),(0:Int),(0:Int))))*b1_1)+Prod.snd (Prod.snd (List.getD v8 (Int.toNat v10) ((0:Int),(0:Int),(0:Int)))))) v8 v9 (wrap64 (v10+1)) else none else none else some (LR.go v1)
noncomputable def Zlb:Spec:=Spec.mk [.ro,O2] [(1,.at (.snap 0 T6)),(2,.at (.ptr 1 0)),(5,.at (.int .i64)),(8,.at (.snap 0 T6)),(9,.at (.int .i64)),(10,.at (.int .i64))]
noncomputable def ZLj:Spec:=Spec.mk [.ro] [(1,.at (.snap 0 T6))]
noncomputable def Z9f:LoopDef (Tup Zdf×OutD):= .rets Zlb ZLj (List (Int×Int×Int)) (Bool) (fun k x=>Zag k x.1.2.1.1 x.1.2.1.2.1 x.1.2.1.2.2.1 x.2.1 x.2.2.2.1 x.2.2.2.2.1 x.2.2.2.2.2.1 x.2.2.2.2.2.2.1) (fun z=>(((),()),(z,()))) (fun y=>(y.2.1)) (fun _=>rfl) Zod ZoN Zqs
noncomputable def Zkf:Nat→Int×Int×List (Int×Int)→List (Int×Int×Int)→Option Bool
 |0,_,_=>none
 |k+1,p0,p1=>
  Option.bind (Zag k p0.1 p0.2.1 p0.2.2 p1 (-1:Int) p1 (↑(List.length p1):Int) (0:Int)) fun z4=>LR.on z4 (fun y4=>some (decide ((↑(List.length y4):Int)≤4))) fun r4=>some r4
noncomputable def Z7Y:FnDef:= .of ZBM Zdf (Bool) (fun k x=>Zkf k x.1 x.2.1) Zod ZoN Zqs
noncomputable def Zki:Code:=Tryz.f123.body.getD .skip
noncomputable def ZaZ:Ctx (Tup Zdf×OutD):={T:=T,G:=[(76,Z2i.E),(133,Z6Y.E),(111,Z6g.E)],mvs:=[],no:=0,n:=66,res:=resOf T ZBM Zdf Tryz.f123.results.toList,loops:=[(0,Z9f.E)],regs:=[],conds:=[],cuts:=[]}
theorem ZC5(k:Nat):EnvOK Tryz.prog k ZaZ.G:=(EnvOK.cons (Z9H k) (EnvOK.cons (Zxk k) (EnvOK.cons (ZBX k) (EnvOK.nil mixed))))
noncomputable def Zgn:Code:=(findLoop 0 Zki).getD .skip
theorem ZKl(k:Nat)(x:Zlb.D):Z9f.lp (k+1) x=loopK ZaZ Z9f 0 Zgn k x:=by kernel_rfl
theorem ZK5(k:Nat):LOK Tryz.prog ZaZ k Zgn:=LOK.by [] (by kernel_rfl) AllOK.nil
theorem ZKM(x:Zlb.D):Z9f.lp 0 x=none:=by kernel_rfl
theorem ZI4(k:Nat):EOK Tryz.prog ZaZ k Z9f.E (.block 0 (.loop Zgn)):=Zd T_ok ZC5 ZKM ZKl ZK5 k
theorem ZRe(k:Nat)(x:Tup Z7Y.ps):Z7Y.f (k+1) x=fnK Z7Y ZaZ Zki k x:=by kernel_rfl
theorem ZQs(x:Tup Z7Y.ps):Z7Y.f 0 x=none:=by kernel_rfl
theorem ZQi(k:Nat):LOK Tryz.prog ZaZ k Zki:=LOK.by [(Z9f.E,.block 0 (.loop Zgn))] (by kernel_rfl) (AllOK.cons (ZI4 k) AllOK.nil)
theorem ZQQ(k:Nat):SoundAt Tryz.prog k 123 Z7Y.E:= @Z5 Tryz.prog Z7Y ZaZ 123 Tryz.f123 Zki (by kernel_rfl) (by kernel_rfl) (by kernel_rfl) Tryz.func123 (by kernel_rfl) (by kernel_rfl) (by kernel_rfl) T_ok ZC5 ZQi ZQs ZRe k
noncomputable def Z9P:List PK:=[PK.mk T6 true none false none,PK.mk (.pair I6 (.pair I6 (.slice 76 P6))) true none false none,PK.mk (.slice 22 (.slice 3 I6)) false none false none]
noncomputable def ZIT:List PK:=[PK.mk (.pair I6 (.pair I6 (.slice 76 P6))) true none false none,PK.mk (.slice 3 I6) false none false none,PK.mk I6 false none false none]
noncomputable def ZsB(r:(Int×Int×Int)×(Int×Int×List (Int×Int))×List (List Int)):Tup Z9P×OutD:=((r.1,r.2.1,r.2.2,()),none)
noncomputable def Zte:Tup Z9P×OutD→Option ((Int×Int×Int)×(Int×Int×List (Int×Int))×List (List Int))
 |(a,none)=>some (a.1,a.2.1,a.2.2.1)
 |_=>none
theorem ZuY: ∀b r,Zte b=some r→ZsB r=b:=by
 rintro ⟨a,_|_⟩ r h<;>cases h;rfl
noncomputable def Z77:Nat→Int→Int→Int→Int→Int→List (Int×Int)→Int→Int→List (Int×Int)→List (List Int)→Int→Int→Option (Int×Int×Int×Int×Int×List (Int×Int)×List (List Int)):=fun k b1_0 b1_1 b1_2 b2_0 b2_1 o3 b4_0 b4_1 o5 o6 v2 v12=>
  some ((2:Int),v12,v2,b4_0,b4_1,o5,o6)
noncomputable def Zg2:Nat→Int→Int→Int→Int→Int→List (Int×Int)→Int→Int→List (Int×Int)→List (List Int)→Int→Int→Option (List (Int×Int×Int×Int×Int×List (Int×Int)×List (List Int))):=fun k b1_0 b1_1 b1_2 b2_0 b2_1 o3 b4_0 b4_1 o5 o6 v2 v12=>
  joinL (some [((2:Int),v12,v2,b4_0,b4_1,o5,o6)]) (some [((2:Int),v12,v2,b4_0,b4_1,o5,o6)])
noncomputable def Ztx:Spec:=Spec.mk [.ro,O5,Oa,O0,Od,O0,Oh] [(2,.at (.int .i64)),(6,.at (.ptr 1 0)),(7,.at (.ptr 2 0)),(9,.at (.ptr 4 0)),(10,.at (.sl 6)),(12,.at (.int .i64))]
noncomputable def ZJM:Spec:=Spec.mk [.ro,O5,Oa,O0,Oh] [(6,.at (.ptr 1 0)),(7,.at (.ptr 2 0)),(8,.at (.sl 4))]
noncomputable def Z8F:LoopDef (Tup Z9P×OutD):= .plain Ztx ZJM (Int×Int×Int×Int×Int×List (Int×Int)×List (List Int)) (fun k x=>Z77 k x.1.2.1.1 x.1.2.1.2.1 x.1.2.1.2.2.1 x.1.2.2.1.1 x.1.2.2.1.2.1 x.1.2.2.2.1 x.1.2.2.2.2.1.1 x.1.2.2.2.2.1.2.1 x.1.2.2.2.2.2.1 x.1.2.2.2.2.2.2.1 x.2.1 x.2.2.2.2.2.2.1) (fun z=>(((),(z.1,z.2.1,z.2.2.1,()),(z.2.2.2.1,z.2.2.2.2.1,(),()),z.2.2.2.2.2.1,z.2.2.2.2.2.2,()),((),(),(),()))) (fun y=>(y.1.2.1.1,y.1.2.1.2.1,y.1.2.1.2.2.1,y.1.2.2.1.1,y.1.2.2.1.2.1,y.1.2.2.2.1,y.1.2.2.2.2.1)) (fun _=>rfl)
theorem ZL5(k:Nat)(b1_0:Int)(b1_1:Int)(b1_2:Int)(b2_0:Int)(b2_1:Int)(o3:List (Int×Int))(b4_0:Int)(b4_1:Int)(o5:List (Int×Int))(o6:List (List Int))(v2:Int)(v12:Int):Zg2 k b1_0 b1_1 b1_2 b2_0 b2_1 o3 b4_0 b4_1 o5 o6 v2 v12=repl 2 (Z77 k b1_0 b1_1 b1_2 b2_0 b2_1 o3 b4_0 b4_1 o5 o6 v2 v12):=by
 first
 |(simp only[Zg2,Z77,Z7,Zc,Z8,Z9,Z6,Z3,if_true];done)
 |(simp only[Zg2,Z77,Z7,Zc,Z8,Z9,Z6,Z3,if_true];simp only[Z1g,Z1i,Z2p,Z3];simp only[Z3E];exact Z1H ⟨fun h=>by simp only[h,and_self],fun h=>by simp only[h,and_self]⟩)
noncomputable def Z7a:Nat→Int→Int→Int→Int→Int→List (Int×Int)→Int→Int→List (Int×Int)→List (List Int)→Int→Int→Option (Int×Int×Int×Int×Int×List (Int×Int)×List (List Int)):=fun k b1_0 b1_1 b1_2 b2_0 b2_1 o3 b4_0 b4_1 o5 o6 v2 v12=>
  some ((3:Int),v12,v2,b4_0,b4_1,o5,o6)
noncomputable def Zgg:Nat→Int→Int→Int→Int→Int→List (Int×Int)→Int→Int→List (Int×Int)→List (List Int)→Int→Int→Option (List (Int×Int×Int×Int×Int×List (Int×Int)×List (List Int))):=fun k b1_0 b1_1 b1_2 b2_0 b2_1 o3 b4_0 b4_1 o5 o6 v2 v12=>
  joinL (some [((3:Int),v12,v2,b4_0,b4_1,o5,o6)]) (some [((3:Int),v12,v2,b4_0,b4_1,o5,o6)])
noncomputable def Zsq:Spec:=Spec.mk [.ro,O5,Oa,O0,Od,O0,Oh] [(2,.at (.int .i64)),(6,.at (.ptr 1 0)),(7,.at (.ptr 2 0)),(9,.at (.ptr 4 0)),(10,.at (.sl 6)),(12,.at (.int .i64))]
noncomputable def ZKk:Spec:=Spec.mk [.ro,O5,Oa,O0,Oh] [(6,.at (.ptr 1 0)),(7,.at (.ptr 2 0)),(8,.at (.sl 4))]
noncomputable def Z8Z:LoopDef (Tup Z9P×OutD):= .plain Zsq ZKk (Int×Int×Int×Int×Int×List (Int×Int)×List (List Int)) (fun k x=>Z7a k x.1.2.1.1 x.1.2.1.2.1 x.1.2.1.2.2.1 x.1.2.2.1.1 x.1.2.2.1.2.1 x.1.2.2.2.1 x.1.2.2.2.2.1.1 x.1.2.2.2.2.1.2.1 x.1.2.2.2.2.2.1 x.1.2.2.2.2.2.2.1 x.2.1 x.2.2.2.2.2.2.1) (fun z=>(((),(z.1,z.2.1,z.2.2.1,()),(z.2.2.2.1,z.2.2.2.2.1,(),()),z.2.2.2.2.2.1,z.2.2.2.2.2.2,()),((),(),(),()))) (fun y=>(y.1.2.1.1,y.1.2.1.2.1,y.1.2.1.2.2.1,y.1.2.2.1.1,y.1.2.2.1.2.1,y.1.2.2.2.1,y.1.2.2.2.2.1)) (fun _=>rfl)
theorem ZLw(k:Nat)(b1_0:Int)(b1_1:Int)(b1_2:Int)(b2_0:Int)(b2_1:Int)(o3:List (Int×Int))(b4_0:Int)(b4_1:Int)(o5:List (Int×Int))(o6:List (List Int))(v2:Int)(v12:Int):Zgg k b1_0 b1_1 b1_2 b2_0 b2_1 o3 b4_0 b4_1 o5 o6 v2 v12=repl 2 (Z7a k b1_0 b1_1 b1_2 b2_0 b2_1 o3 b4_0 b4_1 o5 o6 v2 v12):=by
 first
 |(simp only[Zgg,Z7a,Z7,Zc,Z8,Z9,Z6,Z3,if_true];done)
 |(simp only[Zgg,Z7a,Z7,Zc,Z8,Z9,Z6,Z3,if_true];simp only[Z1g,Z1i,Z2p,Z3];simp only[Z3E];exact Z1H ⟨fun h=>by simp only[h,and_self],fun h=>by simp only[h,and_self]⟩)
noncomputable def Z7T:Nat→Int→Int→List (Int×Int)→Int→Int→Int→Int→Int→List (Int×Int)→Int→Int→List (Int×Int)→List (List Int)→List Int→Int→Int→Int→Option (LR (Int×Int×List (Int×Int)×Int×Int×Int×Int×Int×List (Int×Int)×Int×Int×List (Int×Int)×List (List Int)×Int) ((Int×Int×Int)×(Int×Int×List (Int×Int))×List (List Int)))
 |0,_,_,_,_,_,_,_,_,_,_,_,_,_,_,_,_,_=>none
 |k+1,b1_0,b1_1,b1_2,b2_0,b2_1,b2_2,b3_0,b3_1,o4,b5_0,b5_1,o6,o7,v1,v2,v11,v12=>
  if decide (v12<b1_0)=true then if List.length o7+List.length [[v12,v2]]≤(140737488355328/24:Nat) then Option.bind (ZbE k (b5_0,b5_1,o6) v12 v2) fun z1=>if decide (z1.1=5)=true then Option.bind (Z77 k b2_0 b2_1 b2_2 b3_0 b3_1 o4 b5_0 b5_1 o6 (o7++[[v12,v2]]) v2 v12) fun z2=>some (LR.ret ((z2.1,z2.2.1,z2.2.2.1),(z2.2.2.2.1,z2.2.2.2.2.1,z2.2.2.2.2.2.1),z2.2.2.2.2.2.2)) else Option.bind (Zdm k (z1.1,z1.2) v11) fun z3=>Option.bind (Zdi k (b5_0,b5_1,o6) v1 (wrap64 (wrap64 (v12*b1_1)+v2))) fun z4=>Option.bind (Z1f k (wrap64 (v2+z3)) (0:Int) (wrap64 (b1_1-1))) fun z5=>if (!z5)=true then Option.bind (Z7a k b2_0 b2_1 b2_2 b3_0 b3_1 o4 b5_0 b5_1 z4 (o7++[[v12,v2]]) (wrap64 (v2+z3)) v12) fun z6=>some (LR.ret ((z6.1,z6.2.1,z6.2.2.1),(z6.2.2.2.1,z6.2.2.2.2.1,z6.2.2.2.2.2.1),z6.2.2.2.2.2.2)) else Z7T k b1_0 b1_1 b1_2 b2_0 b2_1 b2_2 b3_0 b3_1 o4 b5_0 b5_1 z4 (o7++[[v12,v2]]) v1 (wrap64 (v2+z3)) (wrap64 ((0:Int)-z3)) (wrap64 (v12+1)) else none else some (LR.go (b1_0,b1_1,b1_2,b2_0,b2_1,b2_2,b3_0,b3_1,o4,b5_0,b5_1,o6,o7,v2))
noncomputable def Zor:Spec:=Spec.mk [.ro,O2,O5,O6,O0,O7,O0,Oh] [(1,.at (.snap 0 I6)),(2,.at (.int .i64)),(3,.at (.ptr 1 0)),(6,.at (.ptr 2 0)),(7,.at (.ptr 3 0)),(9,.at (.ptr 5 0)),(10,.at (.sl 7)),(11,.at (.int .i64)),(12,.at (.int .i64))]
noncomputable def ZOc:Spec:=Spec.mk [.ro,O2,O5,O6,O0,O7,O0,Oh] [(2,.at (.int .i64)),(3,.at (.ptr 1 0)),(6,.at (.ptr 2 0)),(7,.at (.ptr 3 0)),(9,.at (.ptr 5 0)),(10,.at (.sl 7))]
noncomputable def Zc3:LoopDef (Tup Z9P×OutD):= .rets Zor ZOc (Int×Int×List (Int×Int)×Int×Int×Int×Int×Int×List (Int×Int)×Int×Int×List (Int×Int)×List (List Int)×Int) ((Int×Int×Int)×(Int×Int×List (Int×Int))×List (List Int)) (fun k x=>Z7T k x.1.2.1.1 x.1.2.1.2.1 x.1.2.1.2.2.1 x.1.2.2.1.1 x.1.2.2.1.2.1 x.1.2.2.1.2.2.1 x.1.2.2.2.1.1 x.1.2.2.2.1.2.1 x.1.2.2.2.2.1 x.1.2.2.2.2.2.1.1 x.1.2.2.2.2.2.1.2.1 x.1.2.2.2.2.2.2.1 x.1.2.2.2.2.2.2.2.1 x.2.1 x.2.2.1 x.2.2.2.2.2.2.2.2.1 x.2.2.2.2.2.2.2.2.2.1) (fun z=>(((),(z.1,z.2.1,z.2.2.1,()),(z.2.2.2.1,z.2.2.2.2.1,z.2.2.2.2.2.1,()),(z.2.2.2.2.2.2.1,z.2.2.2.2.2.2.2.1,(),()),z.2.2.2.2.2.2.2.2.1,(z.2.2.2.2.2.2.2.2.2.1,z.2.2.2.2.2.2.2.2.2.2.1,(),()),z.2.2.2.2.2.2.2.2.2.2.2.1,z.2.2.2.2.2.2.2.2.2.2.2.2.1,()),(z.2.2.2.2.2.2.2.2.2.2.2.2.2,(),(),(),(),(),()))) (fun y=>(y.1.2.1.1,y.1.2.1.2.1,y.1.2.1.2.2.1,y.1.2.2.1.1,y.1.2.2.1.2.1,y.1.2.2.1.2.2.1,y.1.2.2.2.1.1,y.1.2.2.2.1.2.1,y.1.2.2.2.2.1,y.1.2.2.2.2.2.1.1,y.1.2.2.2.2.2.1.2.1,y.1.2.2.2.2.2.2.1,y.1.2.2.2.2.2.2.2.1,y.2.1)) (fun _=>rfl) ZsB Zte ZuY
noncomputable def Zah:Nat→Int→Int→List (Int×Int)→Int→Int→Int→Int→Int→List (Int×Int)→Int→Int→List (Int×Int)→List (List Int)→Int→Option (Int×Int×Int×Int×Int×List (Int×Int)×List (List Int)):=fun k b1_0 b1_1 b1_2 b2_0 b2_1 b2_2 b3_0 b3_1 o4 b5_0 b5_1 o6 o7 v2=>
  some ((1:Int),b1_0,v2,b5_0,b5_1,o6,o7)
noncomputable def Zg4:Nat→Int→Int→List (Int×Int)→Int→Int→Int→Int→Int→List (Int×Int)→Int→Int→List (Int×Int)→List (List Int)→Int→Option (List (Int×Int×Int×Int×Int×List (Int×Int)×List (List Int))):=fun k b1_0 b1_1 b1_2 b2_0 b2_1 b2_2 b3_0 b3_1 o4 b5_0 b5_1 o6 o7 v2=>
  joinL (some [((1:Int),b1_0,v2,b5_0,b5_1,o6,o7)]) (some [((1:Int),b1_0,v2,b5_0,b5_1,o6,o7)])
noncomputable def Zt7:Spec:=Spec.mk [.ro,O2,O5,O6,O0,O7,O0,Oh] [(2,.at (.int .i64)),(3,.at (.ptr 1 0)),(6,.at (.ptr 2 0)),(7,.at (.ptr 3 0)),(9,.at (.ptr 5 0)),(10,.at (.sl 7))]
noncomputable def ZKi:Spec:=Spec.mk [.ro,O5,Oa,O0,Oh] [(6,.at (.ptr 1 0)),(7,.at (.ptr 2 0)),(8,.at (.sl 4))]
noncomputable def Z9g:LoopDef (Tup Z9P×OutD):= .plain Zt7 ZKi (Int×Int×Int×Int×Int×List (Int×Int)×List (List Int)) (fun k x=>Zah k x.1.2.1.1 x.1.2.1.2.1 x.1.2.1.2.2.1 x.1.2.2.1.1 x.1.2.2.1.2.1 x.1.2.2.1.2.2.1 x.1.2.2.2.1.1 x.1.2.2.2.1.2.1 x.1.2.2.2.2.1 x.1.2.2.2.2.2.1.1 x.1.2.2.2.2.2.1.2.1 x.1.2.2.2.2.2.2.1 x.1.2.2.2.2.2.2.2.1 x.2.1) (fun z=>(((),(z.1,z.2.1,z.2.2.1,()),(z.2.2.2.1,z.2.2.2.2.1,(),()),z.2.2.2.2.2.1,z.2.2.2.2.2.2,()),((),(),(),()))) (fun y=>(y.1.2.1.1,y.1.2.1.2.1,y.1.2.1.2.2.1,y.1.2.2.1.1,y.1.2.2.1.2.1,y.1.2.2.2.1,y.1.2.2.2.2.1)) (fun _=>rfl)
theorem ZKH(k:Nat)(b1_0:Int)(b1_1:Int)(b1_2:List (Int×Int))(b2_0:Int)(b2_1:Int)(b2_2:Int)(b3_0:Int)(b3_1:Int)(o4:List (Int×Int))(b5_0:Int)(b5_1:Int)(o6:List (Int×Int))(o7:List (List Int))(v2:Int):Zg4 k b1_0 b1_1 b1_2 b2_0 b2_1 b2_2 b3_0 b3_1 o4 b5_0 b5_1 o6 o7 v2=repl 2 (Zah k b1_0 b1_1 b1_2 b2_0 b2_1 b2_2 b3_0 b3_1 o4 b5_0 b5_1 o6 o7 v2):=by
 first
 |(simp only[Zg4,Zah,Z7,Zc,Z8,Z9,Z6,Z3,if_true];done)
 |(simp only[Zg4,Zah,Z7,Zc,Z8,Z9,Z6,Z3,if_true];simp only[Z1g,Z1i,Z2p,Z3];simp only[Z3E];exact Z1H ⟨fun h=>by simp only[h,and_self],fun h=>by simp only[h,and_self]⟩)
noncomputable def Z2I:Nat→Int×Int×List (Int×Int)→List Int→Int→Option ((Int×Int×Int)×(Int×Int×List (Int×Int))×List (List Int))
 |0,_,_,_=>none
 |k+1,p0,p1,p2=>
  Option.bind (Z9R k (p0.1,p0.2.1,p0.2.2)) fun z0=>Option.bind (Z7T k p0.1 p0.2.1 p0.2.2 (0:Int) (0:Int) (0:Int) (0:Int) (0:Int) [] z0.1 z0.2.1 z0.2.2 [] p1 p2 (0:Int) (0:Int)) fun z7=>LR.on z7 (fun y7=>Option.bind (Zah k y7.1 y7.2.1 y7.2.2.1 y7.2.2.2.1 y7.2.2.2.2.1 y7.2.2.2.2.2.1 y7.2.2.2.2.2.2.1 y7.2.2.2.2.2.2.2.1 y7.2.2.2.2.2.2.2.2.1 y7.2.2.2.2.2.2.2.2.2.1 y7.2.2.2.2.2.2.2.2.2.2.1 y7.2.2.2.2.2.2.2.2.2.2.2.1 y7.2.2.2.2.2.2.2.2.2.2.2.2.1 y7.2.2.2.2.2.2.2.2.2.2.2.2.2) fun z8=>some ((z8.1,z8.2.1,z8.2.2.1),(z8.2.2.2.1,z8.2.2.2.2.1,z8.2.2.2.2.2.1),z8.2.2.2.2.2.2)) fun r7=>some r7
noncomputable def ZbD:FnDef:= .of ZIT Z9P ((Int×Int×Int)×(Int×Int×List (Int×Int))×List (List Int)) (fun k x=>Z2I k x.1 x.2.1 x.2.2.1) ZsB Zte ZuY
noncomputable def Ze9:Code:=Tryz.f124.body.getD .skip
noncomputable def Zz:Ctx (Tup Z9P×OutD):={T:=T,G:=[(126,Z5Y.E),(133,Z6Y.E),(134,Z6d.E),(135,Z68.E),(76,Z2i.E)],mvs:=[],no:=0,n:=75,res:=resOf T ZIT Z9P Tryz.f124.results.toList,loops:=[(0,Zc3.E)],regs:=[(10,Z8F.E),(16,Z8Z.E),(17,Z9g.E)],conds:=[],cuts:=[]}
theorem ZjX(k:Nat):EnvOK Tryz.prog k Zz.G:=(EnvOK.cons (ZsE k) (EnvOK.cons (Zxk k) (EnvOK.cons (ZBb k) (EnvOK.cons (ZBp k) (EnvOK.cons (Z9H k) (EnvOK.nil mixed))))))
noncomputable def ZkZ:Array Oper:=(findReg 10 Ze9).getD #[]
theorem ZJz(k:Nat)(x:Ztx.D):execD Zz.T Zz.G Zz.mvs k ZkZ (Z8F.inp.st Zz.n x) (outK Zz Z8F)=Zg2 k x.1.2.1.1 x.1.2.1.2.1 x.1.2.1.2.2.1 x.1.2.2.1.1 x.1.2.2.1.2.1 x.1.2.2.2.1 x.1.2.2.2.2.1.1 x.1.2.2.2.2.1.2.1 x.1.2.2.2.2.2.1 x.1.2.2.2.2.2.2.1 x.2.1 x.2.2.2.2.2.2.1:=by kernel_rfl
theorem ZHy(k:Nat):EOK Tryz.prog Zz k Z8F.E (.region 10 ZkZ true):=Z4n (D:=Z8F) (m:=2) T_ok (ZjX k) (fun x=>(ZJz k x).trans (ZL5 k x.1.2.1.1 x.1.2.1.2.1 x.1.2.1.2.2.1 x.1.2.2.1.1 x.1.2.2.1.2.1 x.1.2.2.2.1 x.1.2.2.2.2.1.1 x.1.2.2.2.2.1.2.1 x.1.2.2.2.2.2.1 x.1.2.2.2.2.2.2.1 x.2.1 x.2.2.2.2.2.2.1))
noncomputable def Zl7:Array Oper:=(findReg 16 Ze9).getD #[]
theorem ZKK(k:Nat)(x:Zsq.D):execD Zz.T Zz.G Zz.mvs k Zl7 (Z8Z.inp.st Zz.n x) (outK Zz Z8Z)=Zgg k x.1.2.1.1 x.1.2.1.2.1 x.1.2.1.2.2.1 x.1.2.2.1.1 x.1.2.2.1.2.1 x.1.2.2.2.1 x.1.2.2.2.2.1.1 x.1.2.2.2.2.1.2.1 x.1.2.2.2.2.2.1 x.1.2.2.2.2.2.2.1 x.2.1 x.2.2.2.2.2.2.1:=by kernel_rfl
theorem ZIh(k:Nat):EOK Tryz.prog Zz k Z8Z.E (.region 16 Zl7 true):=Z4n (D:=Z8Z) (m:=2) T_ok (ZjX k) (fun x=>(ZKK k x).trans (ZLw k x.1.2.1.1 x.1.2.1.2.1 x.1.2.1.2.2.1 x.1.2.2.1.1 x.1.2.2.1.2.1 x.1.2.2.2.1 x.1.2.2.2.2.1.1 x.1.2.2.2.2.1.2.1 x.1.2.2.2.2.2.1 x.1.2.2.2.2.2.2.1 x.2.1 x.2.2.2.2.2.2.1))
noncomputable def Zla:Array Oper:=(findReg 17 Ze9).getD #[]
theorem ZK9(k:Nat)(x:Zt7.D):execD Zz.T Zz.G Zz.mvs k Zla (Z9g.inp.st Zz.n x) (outK Zz Z9g)=Zg4 k x.1.2.1.1 x.1.2.1.2.1 x.1.2.1.2.2.1 x.1.2.2.1.1 x.1.2.2.1.2.1 x.1.2.2.1.2.2.1 x.1.2.2.2.1.1 x.1.2.2.2.1.2.1 x.1.2.2.2.2.1 x.1.2.2.2.2.2.1.1 x.1.2.2.2.2.2.1.2.1 x.1.2.2.2.2.2.2.1 x.1.2.2.2.2.2.2.2.1 x.2.1:=by kernel_rfl
theorem ZGI(k:Nat):EOK Tryz.prog Zz k Z9g.E (.region 17 Zla true):=Z4n (D:=Z9g) (m:=2) T_ok (ZjX k) (fun x=>(ZK9 k x).trans (ZKH k x.1.2.1.1 x.1.2.1.2.1 x.1.2.1.2.2.1 x.1.2.2.1.1 x.1.2.2.1.2.1 x.1.2.2.1.2.2.1 x.1.2.2.2.1.1 x.1.2.2.2.1.2.1 x.1.2.2.2.2.1 x.1.2.2.2.2.2.1.1 x.1.2.2.2.2.2.1.2.1 x.1.2.2.2.2.2.2.1 x.1.2.2.2.2.2.2.2.1 x.2.1))
noncomputable def Ziw:Code:=(findLoop 0 Ze9).getD .skip
theorem ZOV(k:Nat)(x:Zor.D):Zc3.lp (k+1) x=loopK Zz Zc3 0 Ziw k x:=by kernel_rfl
theorem ZNl(k:Nat):LOK Tryz.prog Zz k Ziw:=LOK.by [(Z8F.E,.region 10 ZkZ true),(Z8Z.E,.region 16 Zl7 true)] (by kernel_rfl) (AllOK.cons (ZHy k) (AllOK.cons (ZIh k) AllOK.nil))
theorem ZNi(x:Zor.D):Zc3.lp 0 x=none:=by kernel_rfl
theorem ZMO(k:Nat):EOK Tryz.prog Zz k Zc3.E (.block 0 (.loop Ziw)):=Zd T_ok ZjX ZNi ZOV ZNl k
theorem ZSO(k:Nat)(x:Tup ZbD.ps):ZbD.f (k+1) x=fnK ZbD Zz Ze9 k x:=by kernel_rfl
theorem ZTc(x:Tup ZbD.ps):ZbD.f 0 x=none:=by kernel_rfl
theorem ZSV(k:Nat):LOK Tryz.prog Zz k Ze9:=LOK.by [(Zc3.E,.block 0 (.loop Ziw)),(Z9g.E,.region 17 Zla true)] (by kernel_rfl) (AllOK.cons (ZMO k) (AllOK.cons (ZGI k) AllOK.nil))
theorem ZTa(k:Nat):SoundAt Tryz.prog k 124 ZbD.E:= @Z5 Tryz.prog ZbD Zz 124 Tryz.f124 Ze9 (by kernel_rfl) (by kernel_rfl) (by kernel_rfl) Tryz.func124 (by kernel_rfl) (by kernel_rfl) (by kernel_rfl) T_ok ZjX ZSV ZTc ZSO k
noncomputable def Z4V:List PK:=[PK.mk T6 true none false none,PK.mk (.pair I6 (.pair I6 (.slice 76 P6))) true none false none]
noncomputable def ZJ1:List PK:=[PK.mk (.pair I6 (.pair I6 (.slice 76 P6))) true none false none,PK.mk (.slice 3 I6) false none false none,PK.mk (.slice 58 T6) false none false none,PK.mk I6 false none false none]
noncomputable def Zt6(r:(Int×Int×Int)×Int×Int×List (Int×Int)):Tup Z4V×OutD:=((r.1,r.2,()),none)
noncomputable def Ztn:Tup Z4V×OutD→Option ((Int×Int×Int)×Int×Int×List (Int×Int))
 |(a,none)=>some (a.1,a.2.1)
 |_=>none
theorem ZuP: ∀b r,Ztn b=some r→Zt6 r=b:=by
 rintro ⟨a,_|_⟩ r h<;>cases h;rfl
noncomputable def ZbN:Nat→Int→Int→Int→Int→Int→List (Int×Int)→Int→Int→List (Int×Int)→Int→Int→Option (Int×Int×Int×Int×Int×List (Int×Int)):=fun k b1_0 b1_1 b1_2 b2_0 b2_1 o3 b4_0 b4_1 o5 v3 v12=>
  some ((3:Int),v12,v3,b4_0,b4_1,o5)
noncomputable def Zhv:Nat→Int→Int→Int→Int→Int→List (Int×Int)→Int→Int→List (Int×Int)→Int→Int→Option (List (Int×Int×Int×Int×Int×List (Int×Int))):=fun k b1_0 b1_1 b1_2 b2_0 b2_1 o3 b4_0 b4_1 o5 v3 v12=>
  joinL (some [((3:Int),v12,v3,b4_0,b4_1,o5)]) (some [((3:Int),v12,v3,b4_0,b4_1,o5)])
noncomputable def Zv4:Spec:=Spec.mk [.ro,O5,Oa,O0,Od,O0] [(3,.at (.int .i64)),(8,.at (.ptr 1 0)),(9,.at (.ptr 2 0)),(10,.at (.ptr 4 0)),(12,.at (.int .i64))]
noncomputable def ZMT:Spec:=Spec.mk [.ro,O5,Oa,O0] [(8,.at (.ptr 1 0)),(9,.at (.ptr 2 0))]
noncomputable def Zaz:LoopDef (Tup Z4V×OutD):= .plain Zv4 ZMT (Int×Int×Int×Int×Int×List (Int×Int)) (fun k x=>ZbN k x.1.2.1.1 x.1.2.1.2.1 x.1.2.1.2.2.1 x.1.2.2.1.1 x.1.2.2.1.2.1 x.1.2.2.2.1 x.1.2.2.2.2.1.1 x.1.2.2.2.2.1.2.1 x.1.2.2.2.2.2.1 x.2.1 x.2.2.2.2.2.1) (fun z=>(((),(z.1,z.2.1,z.2.2.1,()),(z.2.2.2.1,z.2.2.2.2.1,(),()),z.2.2.2.2.2,()),((),(),()))) (fun y=>(y.1.2.1.1,y.1.2.1.2.1,y.1.2.1.2.2.1,y.1.2.2.1.1,y.1.2.2.1.2.1,y.1.2.2.2.1)) (fun _=>rfl)
theorem ZMc(k:Nat)(b1_0:Int)(b1_1:Int)(b1_2:Int)(b2_0:Int)(b2_1:Int)(o3:List (Int×Int))(b4_0:Int)(b4_1:Int)(o5:List (Int×Int))(v3:Int)(v12:Int):Zhv k b1_0 b1_1 b1_2 b2_0 b2_1 o3 b4_0 b4_1 o5 v3 v12=repl 2 (ZbN k b1_0 b1_1 b1_2 b2_0 b2_1 o3 b4_0 b4_1 o5 v3 v12):=by
 first
 |(simp only[Zhv,ZbN,Z7,Zc,Z8,Z9,Z6,Z3,if_true];done)
 |(simp only[Zhv,ZbN,Z7,Zc,Z8,Z9,Z6,Z3,if_true];simp only[Z1g,Z1i,Z2p,Z3];simp only[Z3E];exact Z1H ⟨fun h=>by simp only[h,and_self],fun h=>by simp only[h,and_self]⟩)
noncomputable def Zat:Nat→Int→Int→Int→Int→Int→List (Int×Int)→Int→Int→List (Int×Int)→Int→Int→Option (Int×Int×Int×Int×Int×List (Int×Int)):=fun k b1_0 b1_1 b1_2 b2_0 b2_1 o3 b4_0 b4_1 o5 v3 v12=>
  some ((2:Int),v12,v3,b4_0,b4_1,o5)
noncomputable def Zgf:Nat→Int→Int→Int→Int→Int→List (Int×Int)→Int→Int→List (Int×Int)→Int→Int→Option (List (Int×Int×Int×Int×Int×List (Int×Int))):=fun k b1_0 b1_1 b1_2 b2_0 b2_1 o3 b4_0 b4_1 o5 v3 v12=>
  joinL (some [((2:Int),v12,v3,b4_0,b4_1,o5)]) (some [((2:Int),v12,v3,b4_0,b4_1,o5)])
noncomputable def Ztd:Spec:=Spec.mk [.ro,O5,Oa,O0,Od,O0] [(3,.at (.int .i64)),(8,.at (.ptr 1 0)),(9,.at (.ptr 2 0)),(10,.at (.ptr 4 0)),(12,.at (.int .i64))]
noncomputable def ZKq:Spec:=Spec.mk [.ro,O5,Oa,O0] [(8,.at (.ptr 1 0)),(9,.at (.ptr 2 0))]
noncomputable def Z8N:LoopDef (Tup Z4V×OutD):= .plain Ztd ZKq (Int×Int×Int×Int×Int×List (Int×Int)) (fun k x=>Zat k x.1.2.1.1 x.1.2.1.2.1 x.1.2.1.2.2.1 x.1.2.2.1.1 x.1.2.2.1.2.1 x.1.2.2.2.1 x.1.2.2.2.2.1.1 x.1.2.2.2.2.1.2.1 x.1.2.2.2.2.2.1 x.2.1 x.2.2.2.2.2.1) (fun z=>(((),(z.1,z.2.1,z.2.2.1,()),(z.2.2.2.1,z.2.2.2.2.1,(),()),z.2.2.2.2.2,()),((),(),()))) (fun y=>(y.1.2.1.1,y.1.2.1.2.1,y.1.2.1.2.2.1,y.1.2.2.1.1,y.1.2.2.1.2.1,y.1.2.2.2.1)) (fun _=>rfl)
theorem ZL2(k:Nat)(b1_0:Int)(b1_1:Int)(b1_2:Int)(b2_0:Int)(b2_1:Int)(o3:List (Int×Int))(b4_0:Int)(b4_1:Int)(o5:List (Int×Int))(v3:Int)(v12:Int):Zgf k b1_0 b1_1 b1_2 b2_0 b2_1 o3 b4_0 b4_1 o5 v3 v12=repl 2 (Zat k b1_0 b1_1 b1_2 b2_0 b2_1 o3 b4_0 b4_1 o5 v3 v12):=by
 first
 |(simp only[Zgf,Zat,Z7,Zc,Z8,Z9,Z6,Z3,if_true];done)
 |(simp only[Zgf,Zat,Z7,Zc,Z8,Z9,Z6,Z3,if_true];simp only[Z1g,Z1i,Z2p,Z3];simp only[Z3E];exact Z1H ⟨fun h=>by simp only[h,and_self],fun h=>by simp only[h,and_self]⟩)
noncomputable def Zhu:Nat→Int→Int→List (Int×Int)→Int→Int→Int→Int→Int→List (Int×Int)→Int→Int→List (Int×Int)→List Int→List (Int×Int×Int)→Int→Int→Int→Bool→Option (Int×Int×List (Int×Int)×Int×Int×Int×Int×Int×List (Int×Int)×Int×Int×List (Int×Int)×List Int×List (Int×Int×Int)×Int×Int×Int):=fun k b1_0 b1_1 b1_2 b2_0 b2_1 b2_2 b3_0 b3_1 o4 b5_0 b5_1 o6 v1 v2 v3 v12 v15 v52=>
  if v52=true then some (b1_0,b1_1,b1_2,b2_0,b2_1,b2_2,b3_0,b3_1,o4,b5_0,b5_1,o6,v1,v2,v3,v12,wrap64 ((0:Int)-v15)) else some (b1_0,b1_1,b1_2,b2_0,b2_1,b2_2,b3_0,b3_1,o4,b5_0,b5_1,o6,v1,v2,v3,v12,v15)
noncomputable def ZKm:Spec:=Spec.mk [.ro,O2,O5,O6,O0,O7,O0] [(1,.at (.snap 0 I6)),(2,.at (.snap 0 T6)),(3,.at (.int .i64)),(4,.at (.ptr 1 0)),(8,.at (.ptr 2 0)),(9,.at (.ptr 3 0)),(10,.at (.ptr 5 0)),(12,.at (.int .i64)),(15,.at (.int .i64)),(52,.at .bool)]
noncomputable def ZKR:Spec:=Spec.mk [.ro,O2,O5,O6,O0,O7,O0] [(1,.at (.snap 0 I6)),(2,.at (.snap 0 T6)),(3,.at (.int .i64)),(4,.at (.ptr 1 0)),(8,.at (.ptr 2 0)),(9,.at (.ptr 3 0)),(10,.at (.ptr 5 0)),(12,.at (.int .i64)),(15,.at (.int .i64))]
noncomputable def Z22:LoopDef (Tup Z4V×OutD):= .plain ZKm ZKR (Int×Int×List (Int×Int)×Int×Int×Int×Int×Int×List (Int×Int)×Int×Int×List (Int×Int)×List Int×List (Int×Int×Int)×Int×Int×Int) (fun k x=>Zhu k x.1.2.1.1 x.1.2.1.2.1 x.1.2.1.2.2.1 x.1.2.2.1.1 x.1.2.2.1.2.1 x.1.2.2.1.2.2.1 x.1.2.2.2.1.1 x.1.2.2.2.1.2.1 x.1.2.2.2.2.1 x.1.2.2.2.2.2.1.1 x.1.2.2.2.2.2.1.2.1 x.1.2.2.2.2.2.2.1 x.2.1 x.2.2.1 x.2.2.2.1 x.2.2.2.2.2.2.2.2.1 x.2.2.2.2.2.2.2.2.2.1 x.2.2.2.2.2.2.2.2.2.2.1) (fun z=>(((),(z.1,z.2.1,z.2.2.1,()),(z.2.2.2.1,z.2.2.2.2.1,z.2.2.2.2.2.1,()),(z.2.2.2.2.2.2.1,z.2.2.2.2.2.2.2.1,(),()),z.2.2.2.2.2.2.2.2.1,(z.2.2.2.2.2.2.2.2.2.1,z.2.2.2.2.2.2.2.2.2.2.1,(),()),z.2.2.2.2.2.2.2.2.2.2.2.1,()),(z.2.2.2.2.2.2.2.2.2.2.2.2.1,z.2.2.2.2.2.2.2.2.2.2.2.2.2.1,z.2.2.2.2.2.2.2.2.2.2.2.2.2.2.1,(),(),(),(),z.2.2.2.2.2.2.2.2.2.2.2.2.2.2.2.1,z.2.2.2.2.2.2.2.2.2.2.2.2.2.2.2.2,()))) (fun y=>(y.1.2.1.1,y.1.2.1.2.1,y.1.2.1.2.2.1,y.1.2.2.1.1,y.1.2.2.1.2.1,y.1.2.2.1.2.2.1,y.1.2.2.2.1.1,y.1.2.2.2.1.2.1,y.1.2.2.2.2.1,y.1.2.2.2.2.2.1.1,y.1.2.2.2.2.2.1.2.1,y.1.2.2.2.2.2.2.1,y.2.1,y.2.2.1,y.2.2.2.1,y.2.2.2.2.2.2.2.2.1,y.2.2.2.2.2.2.2.2.2.1)) (fun _=>rfl)
noncomputable def ZaU:Nat→Int→Int→List (Int×Int)→Int→Int→Int→Int→Int→List (Int×Int)→Int→Int→List (Int×Int)→List Int→List (Int×Int×Int)→Int→Int→Int→List (Int×Int×Int)→Int→Int→Option (Int×Int×List (Int×Int)×Int×Int×Int×Int×Int×List (Int×Int)×Int×Int×List (Int×Int)×List Int×List (Int×Int×Int)×Int×Int×Int)
 |0,_,_,_,_,_,_,_,_,_,_,_,_,_,_,_,_,_,_,_,_=>none
 |k+1,b1_0,b1_1,b1_2,b2_0,b2_1,b2_2,b3_0,b3_1,o4,b5_0,b5_1,o6,v1,v2,v3,v12,v15,v64,v65,v66=>
  if decide (v66<v65)=true then if (0:Int)≤v66 then if v66<(↑(List.length v64):Int) then if decide (Prod.fst (List.getD v64 (Int.toNat v66) ((0:Int),(0:Int),(0:Int)))=1)=true then if (0:Int)≤wrap64 (wrap64 (Prod.fst (Prod.snd (List.getD v64 (Int.toNat v66) ((0:Int),(0:Int),(0:Int))))*b1_1)+Prod.snd (Prod.snd (List.getD v64 (Int.toNat v66) ((0:Int),(0:Int),(0:Int))))) then if wrap64 (wrap64 (Prod.fst (Prod.snd (List.getD v64 (Int.toNat v66) ((0:Int),(0:Int),(0:Int))))*b1_1)+Prod.snd (Prod.snd (List.getD v64 (Int.toNat v66) ((0:Int),(0:Int),(0:Int)))))<(↑(List.length b1_2):Int) then if (0:Int)≤wrap64 (wrap64 (Prod.fst (Prod.snd (List.getD v64 (Int.toNat v66) ((0:Int),(0:Int),(0:Int))))*b1_1)+Prod.snd (Prod.snd (List.getD v64 (Int.toNat v66) ((0:Int),(0:Int),(0:Int))))) then if wrap64 (wrap64 (Prod.fst (Prod.snd (List.getD v64 (Int.toNat v66) ((0:Int),(0:Int),(0:Int))))*b1_1)+Prod.snd (Prod.snd (List.getD v64 (Int.toNat v66) ((0:Int),(0:Int),(0:Int)))))<(↑(List.length o6):Int) then ZaU k b1_0 b1_1 b1_2 b2_0 b2_1 b2_2 b3_0 b3_1 o4 b5_0 b5_1 (List.set o6 (Int.toNat (wrap64 (wrap64 (Prod.fst (Prod.snd (List.getD v64 (Int.toNat v66) ((0:Int),(0:Int),(0:Int))))*b1_1)+Prod.snd (Prod.snd (List.getD v64 (Int.toNat v66) ((0:Int),(0:Int),(0:Int))))))) (Prod.fst (List.getD b1_2 (Int.toNat (wrap64 (wrap64 (Prod.fst (Prod.snd (List.getD v64 (Int.toNat v66) ((0:Int),(0:Int),(0:Int))))*b1_1)+Prod.snd (Prod.snd (List.getD v64 (Int.toNat v66) ((0:Int),(0:Int),(0:Int))))))) ((0:Int),(0:Int))),Prod.snd (List.getD b1_2 (Int.toNat (wrap64 (wrap64 (Prod.fst (Prod.snd (List.getD v64 (Int.toNat v66) ((0:Int),(0:Int),(0:Int))))*b1_1)+Prod.snd (Prod.snd (List.getD v64 (Int.toNat v66) ((0:Int),(0:Int),(0:Int))))))) ((0:Int),(0:Int))))) v1 v2 v3 v12 v15 v64 v65 (wrap64 (v66+1)) else none else none else none else none else ZaU k b1_0 b1_1 b1_2 b2_0 b2_1 b2_2 b3_0 b3_1 o4 b5_0 b5_1 o6 v1 v2 v3 v12 v15 v64 v65 (wrap64 (v66+1)) else none else none else some (b1_0,b1_1,b1_2,b2_0,b2_1,b2_2,b3_0,b3_1,o4,b5_0,b5_1,o6,v1,v2,v3,v12,v15)
noncomputable def Zow:Spec:=Spec.mk [.ro,O2,O5,O6,O0,O7,O0] [(1,.at (.snap 0 I6)),(2,.at (.snap 0 T6)),(3,.at (.int .i64)),(4,.at (.ptr 1 0)),(8,.at (.ptr 2 0)),(9,.at (.ptr 3 0)),(10,.at (.ptr 5 0)),(12,.at (.int .i64)),(15,.at (.int .i64)),(64,.at (.snap 0 T6)),(65,.at (.int .i64)),(66,.at (.int .i64))]
noncomputable def ZNt:Spec:=Spec.mk [.ro,O2,O5,O6,O0,O7,O0] [(1,.at (.snap 0 I6)),(2,.at (.snap 0 T6)),(3,.at (.int .i64)),(4,.at (.ptr 1 0)),(8,.at (.ptr 2 0)),(9,.at (.ptr 3 0)),(10,.at (.ptr 5 0)),(12,.at (.int .i64)),(15,.at (.int .i64))]
noncomputable def ZbV:LoopDef (Tup Z4V×OutD):= .plain Zow ZNt (Int×Int×List (Int×Int)×Int×Int×Int×Int×Int×List (Int×Int)×Int×Int×List (Int×Int)×List Int×List (Int×Int×Int)×Int×Int×Int) (fun k x=>ZaU k x.1.2.1.1 x.1.2.1.2.1 x.1.2.1.2.2.1 x.1.2.2.1.1 x.1.2.2.1.2.1 x.1.2.2.1.2.2.1 x.1.2.2.2.1.1 x.1.2.2.2.1.2.1 x.1.2.2.2.2.1 x.1.2.2.2.2.2.1.1 x.1.2.2.2.2.2.1.2.1 x.1.2.2.2.2.2.2.1 x.2.1 x.2.2.1 x.2.2.2.1 x.2.2.2.2.2.2.2.2.1 x.2.2.2.2.2.2.2.2.2.1 x.2.2.2.2.2.2.2.2.2.2.1 x.2.2.2.2.2.2.2.2.2.2.2.1 x.2.2.2.2.2.2.2.2.2.2.2.2.1) (fun z=>(((),(z.1,z.2.1,z.2.2.1,()),(z.2.2.2.1,z.2.2.2.2.1,z.2.2.2.2.2.1,()),(z.2.2.2.2.2.2.1,z.2.2.2.2.2.2.2.1,(),()),z.2.2.2.2.2.2.2.2.1,(z.2.2.2.2.2.2.2.2.2.1,z.2.2.2.2.2.2.2.2.2.2.1,(),()),z.2.2.2.2.2.2.2.2.2.2.2.1,()),(z.2.2.2.2.2.2.2.2.2.2.2.2.1,z.2.2.2.2.2.2.2.2.2.2.2.2.2.1,z.2.2.2.2.2.2.2.2.2.2.2.2.2.2.1,(),(),(),(),z.2.2.2.2.2.2.2.2.2.2.2.2.2.2.2.1,z.2.2.2.2.2.2.2.2.2.2.2.2.2.2.2.2,()))) (fun y=>(y.1.2.1.1,y.1.2.1.2.1,y.1.2.1.2.2.1,y.1.2.2.1.1,y.1.2.2.1.2.1,y.1.2.2.1.2.2.1,y.1.2.2.2.1.1,y.1.2.2.2.1.2.1,y.1.2.2.2.2.1,y.1.2.2.2.2.2.1.1,y.1.2.2.2.2.2.1.2.1,y.1.2.2.2.2.2.2.1,y.2.1,y.2.2.1,y.2.2.2.1,y.2.2.2.2.2.2.2.2.1,y.2.2.2.2.2.2.2.2.2.1)) (fun _=>rfl)
noncomputable def Zaa:Nat→Int→Int→Int→Int→Int→List (Int×Int)→Int→Int→List (Int×Int)→Int→Int→Option (Int×Int×Int×Int×Int×List (Int×Int)):=fun k b1_0 b1_1 b1_2 b2_0 b2_1 o3 b4_0 b4_1 o5 v3 v12=>
  some ((3:Int),v12,v3,b4_0,b4_1,o5)
noncomputable def Zgm:Nat→Int→Int→Int→Int→Int→List (Int×Int)→Int→Int→List (Int×Int)→Int→Int→Option (List (Int×Int×Int×Int×Int×List (Int×Int))):=fun k b1_0 b1_1 b1_2 b2_0 b2_1 o3 b4_0 b4_1 o5 v3 v12=>
  joinL (some [((3:Int),v12,v3,b4_0,b4_1,o5)]) (some [((3:Int),v12,v3,b4_0,b4_1,o5)])
noncomputable def ZsN:Spec:=Spec.mk [.ro,O5,Oa,O0,Od,O0] [(3,.at (.int .i64)),(8,.at (.ptr 1 0)),(9,.at (.ptr 2 0)),(10,.at (.ptr 4 0)),(12,.at (.int .i64))]
noncomputable def ZLa:Spec:=Spec.mk [.ro,O5,Oa,O0] [(8,.at (.ptr 1 0)),(9,.at (.ptr 2 0))]
noncomputable def Z8W:LoopDef (Tup Z4V×OutD):= .plain ZsN ZLa (Int×Int×Int×Int×Int×List (Int×Int)) (fun k x=>Zaa k x.1.2.1.1 x.1.2.1.2.1 x.1.2.1.2.2.1 x.1.2.2.1.1 x.1.2.2.1.2.1 x.1.2.2.2.1 x.1.2.2.2.2.1.1 x.1.2.2.2.2.1.2.1 x.1.2.2.2.2.2.1 x.2.1 x.2.2.2.2.2.1) (fun z=>(((),(z.1,z.2.1,z.2.2.1,()),(z.2.2.2.1,z.2.2.2.2.1,(),()),z.2.2.2.2.2,()),((),(),()))) (fun y=>(y.1.2.1.1,y.1.2.1.2.1,y.1.2.1.2.2.1,y.1.2.2.1.1,y.1.2.2.1.2.1,y.1.2.2.2.1)) (fun _=>rfl)
theorem ZKe(k:Nat)(b1_0:Int)(b1_1:Int)(b1_2:Int)(b2_0:Int)(b2_1:Int)(o3:List (Int×Int))(b4_0:Int)(b4_1:Int)(o5:List (Int×Int))(v3:Int)(v12:Int):Zgm k b1_0 b1_1 b1_2 b2_0 b2_1 o3 b4_0 b4_1 o5 v3 v12=repl 2 (Zaa k b1_0 b1_1 b1_2 b2_0 b2_1 o3 b4_0 b4_1 o5 v3 v12):=by
 first
 |(simp only[Zgm,Zaa,Z7,Zc,Z8,Z9,Z6,Z3,if_true];done)
 |(simp only[Zgm,Zaa,Z7,Zc,Z8,Z9,Z6,Z3,if_true];simp only[Z1g,Z1i,Z2p,Z3];simp only[Z3E];exact Z1H ⟨fun h=>by simp only[h,and_self],fun h=>by simp only[h,and_self]⟩)
noncomputable def Zdc:Nat→Int→Int→List (Int×Int)→Int→Int→Int→Int→Int→List (Int×Int)→Int→Int→List (Int×Int)→List Int→List (Int×Int×Int)→Int→Int→Int→Option (LR (Int×Int×List (Int×Int)×Int×Int×Int×Int×Int×List (Int×Int)×Int×Int×List (Int×Int)×Int) ((Int×Int×Int)×Int×Int×List (Int×Int)))
 |0,_,_,_,_,_,_,_,_,_,_,_,_,_,_,_,_,_=>none
 |k+1,b1_0,b1_1,b1_2,b2_0,b2_1,b2_2,b3_0,b3_1,o4,b5_0,b5_1,o6,v1,v2,v3,v11,v12=>
  if decide (v12<b1_0)=true then Option.bind (ZbE k (b5_0,b5_1,o6) v12 v3) fun z1=>Option.bind (ZoQ k v2 v12 v3) fun z2=>if decide (z2=2)=true then Option.bind (ZbN k b2_0 b2_1 b2_2 b3_0 b3_1 o4 b5_0 b5_1 o6 v3 v12) fun z3=>some (LR.ret ((z3.1,z3.2.1,z3.2.2.1),z3.2.2.2.1,z3.2.2.2.2.1,z3.2.2.2.2.2)) else if decide (z1.1=5)=true then Option.bind (Zat k b2_0 b2_1 b2_2 b3_0 b3_1 o4 b5_0 b5_1 o6 v3 v12) fun z4=>some (LR.ret ((z4.1,z4.2.1,z4.2.2.1),z4.2.2.2.1,z4.2.2.2.2.1,z4.2.2.2.2.2)) else Option.bind (Zdm k (z1.1,z1.2) v11) fun z5=>Option.bind (Zhu k b1_0 b1_1 b1_2 b2_0 b2_1 b2_2 b3_0 b3_1 o4 b5_0 b5_1 o6 v1 v2 v3 v12 z5 (decide (z2=3))) fun z6=>Option.bind (Zdi k (z6.2.2.2.2.2.2.2.2.2.1,z6.2.2.2.2.2.2.2.2.2.2.1,z6.2.2.2.2.2.2.2.2.2.2.2.1) z6.2.2.2.2.2.2.2.2.2.2.2.2.1 (wrap64 (wrap64 (z6.2.2.2.2.2.2.2.2.2.2.2.2.2.2.2.1*z6.2.1)+z6.2.2.2.2.2.2.2.2.2.2.2.2.2.2.1))) fun z7=>Option.bind (ZaU k z6.1 z6.2.1 z6.2.2.1 z6.2.2.2.1 z6.2.2.2.2.1 z6.2.2.2.2.2.1 z6.2.2.2.2.2.2.1 z6.2.2.2.2.2.2.2.1 z6.2.2.2.2.2.2.2.2.1 z6.2.2.2.2.2.2.2.2.2.1 z6.2.2.2.2.2.2.2.2.2.2.1 z7 z6.2.2.2.2.2.2.2.2.2.2.2.2.1 z6.2.2.2.2.2.2.2.2.2.2.2.2.2.1 z6.2.2.2.2.2.2.2.2.2.2.2.2.2.2.1 z6.2.2.2.2.2.2.2.2.2.2.2.2.2.2.2.1 z6.2.2.2.2.2.2.2.2.2.2.2.2.2.2.2.2 z6.2.2.2.2.2.2.2.2.2.2.2.2.2.1 (↑(List.length z6.2.2.2.2.2.2.2.2.2.2.2.2.2.1):Int) (0:Int)) fun z8=>Option.bind (Z1f k (wrap64 (z8.2.2.2.2.2.2.2.2.2.2.2.2.2.2.1+z8.2.2.2.2.2.2.2.2.2.2.2.2.2.2.2.2)) (0:Int) (wrap64 (z8.2.1-1))) fun z9=>if (!z9)=true then Option.bind (Zaa k z8.2.2.2.1 z8.2.2.2.2.1 z8.2.2.2.2.2.1 z8.2.2.2.2.2.2.1 z8.2.2.2.2.2.2.2.1 z8.2.2.2.2.2.2.2.2.1 z8.2.2.2.2.2.2.2.2.2.1 z8.2.2.2.2.2.2.2.2.2.2.1 z8.2.2.2.2.2.2.2.2.2.2.2.1 (wrap64 (z8.2.2.2.2.2.2.2.2.2.2.2.2.2.2.1+z8.2.2.2.2.2.2.2.2.2.2.2.2.2.2.2.2)) z8.2.2.2.2.2.2.2.2.2.2.2.2.2.2.2.1) fun z10=>some (LR.ret ((z10.1,z10.2.1,z10.2.2.1),z10.2.2.2.1,z10.2.2.2.2.1,z10.2.2.2.2.2)) else Zdc k z8.1 z8.2.1 z8.2.2.1 z8.2.2.2.1 z8.2.2.2.2.1 z8.2.2.2.2.2.1 z8.2.2.2.2.2.2.1 z8.2.2.2.2.2.2.2.1 z8.2.2.2.2.2.2.2.2.1 z8.2.2.2.2.2.2.2.2.2.1 z8.2.2.2.2.2.2.2.2.2.2.1 z8.2.2.2.2.2.2.2.2.2.2.2.1 z8.2.2.2.2.2.2.2.2.2.2.2.2.1 z8.2.2.2.2.2.2.2.2.2.2.2.2.2.1 (wrap64 (z8.2.2.2.2.2.2.2.2.2.2.2.2.2.2.1+z8.2.2.2.2.2.2.2.2.2.2.2.2.2.2.2.2)) (wrap64 ((0:Int)-z8.2.2.2.2.2.2.2.2.2.2.2.2.2.2.2.2)) (wrap64 (z8.2.2.2.2.2.2.2.2.2.2.2.2.2.2.2.1+1)) else some (LR.go (b1_0,b1_1,b1_2,b2_0,b2_1,b2_2,b3_0,b3_1,o4,b5_0,b5_1,o6,v3))
noncomputable def Zo1:Spec:=Spec.mk [.ro,O2,O5,O6,O0,O7,O0] [(1,.at (.snap 0 I6)),(2,.at (.snap 0 T6)),(3,.at (.int .i64)),(4,.at (.ptr 1 0)),(8,.at (.ptr 2 0)),(9,.at (.ptr 3 0)),(10,.at (.ptr 5 0)),(11,.at (.int .i64)),(12,.at (.int .i64))]
noncomputable def ZNk:Spec:=Spec.mk [.ro,O2,O5,O6,O0,O7,O0] [(3,.at (.int .i64)),(4,.at (.ptr 1 0)),(8,.at (.ptr 2 0)),(9,.at (.ptr 3 0)),(10,.at (.ptr 5 0))]
noncomputable def ZbS:LoopDef (Tup Z4V×OutD):= .rets Zo1 ZNk (Int×Int×List (Int×Int)×Int×Int×Int×Int×Int×List (Int×Int)×Int×Int×List (Int×Int)×Int) ((Int×Int×Int)×Int×Int×List (Int×Int)) (fun k x=>Zdc k x.1.2.1.1 x.1.2.1.2.1 x.1.2.1.2.2.1 x.1.2.2.1.1 x.1.2.2.1.2.1 x.1.2.2.1.2.2.1 x.1.2.2.2.1.1 x.1.2.2.2.1.2.1 x.1.2.2.2.2.1 x.1.2.2.2.2.2.1.1 x.1.2.2.2.2.2.1.2.1 x.1.2.2.2.2.2.2.1 x.2.1 x.2.2.1 x.2.2.2.1 x.2.2.2.2.2.2.2.2.1 x.2.2.2.2.2.2.2.2.2.1) (fun z=>(((),(z.1,z.2.1,z.2.2.1,()),(z.2.2.2.1,z.2.2.2.2.1,z.2.2.2.2.2.1,()),(z.2.2.2.2.2.2.1,z.2.2.2.2.2.2.2.1,(),()),z.2.2.2.2.2.2.2.2.1,(z.2.2.2.2.2.2.2.2.2.1,z.2.2.2.2.2.2.2.2.2.2.1,(),()),z.2.2.2.2.2.2.2.2.2.2.2.1,()),(z.2.2.2.2.2.2.2.2.2.2.2.2,(),(),(),(),()))) (fun y=>(y.1.2.1.1,y.1.2.1.2.1,y.1.2.1.2.2.1,y.1.2.2.1.1,y.1.2.2.1.2.1,y.1.2.2.1.2.2.1,y.1.2.2.2.1.1,y.1.2.2.2.1.2.1,y.1.2.2.2.2.1,y.1.2.2.2.2.2.1.1,y.1.2.2.2.2.2.1.2.1,y.1.2.2.2.2.2.2.1,y.2.1)) (fun _=>rfl) Zt6 Ztn ZuP
noncomputable def Zae:Nat→Int→Int→List (Int×Int)→Int→Int→Int→Int→Int→List (Int×Int)→Int→Int→List (Int×Int)→Int→Option (Int×Int×Int×Int×Int×List (Int×Int)):=fun k b1_0 b1_1 b1_2 b2_0 b2_1 b2_2 b3_0 b3_1 o4 b5_0 b5_1 o6 v3=>
  some ((1:Int),b1_0,v3,b5_0,b5_1,o6)
noncomputable def ZfT:Nat→Int→Int→List (Int×Int)→Int→Int→Int→Int→Int→List (Int×Int)→Int→Int→List (Int×Int)→Int→Option (List (Int×Int×Int×Int×Int×List (Int×Int))):=fun k b1_0 b1_1 b1_2 b2_0 b2_1 b2_2 b3_0 b3_1 o4 b5_0 b5_1 o6 v3=>
  joinL (some [((1:Int),b1_0,v3,b5_0,b5_1,o6)]) (some [((1:Int),b1_0,v3,b5_0,b5_1,o6)])
noncomputable def ZrR:Spec:=Spec.mk [.ro,O2,O5,O6,O0,O7,O0] [(3,.at (.int .i64)),(4,.at (.ptr 1 0)),(8,.at (.ptr 2 0)),(9,.at (.ptr 3 0)),(10,.at (.ptr 5 0))]
noncomputable def ZJQ:Spec:=Spec.mk [.ro,O5,Oa,O0] [(8,.at (.ptr 1 0)),(9,.at (.ptr 2 0))]
noncomputable def Z9m:LoopDef (Tup Z4V×OutD):= .plain ZrR ZJQ (Int×Int×Int×Int×Int×List (Int×Int)) (fun k x=>Zae k x.1.2.1.1 x.1.2.1.2.1 x.1.2.1.2.2.1 x.1.2.2.1.1 x.1.2.2.1.2.1 x.1.2.2.1.2.2.1 x.1.2.2.2.1.1 x.1.2.2.2.1.2.1 x.1.2.2.2.2.1 x.1.2.2.2.2.2.1.1 x.1.2.2.2.2.2.1.2.1 x.1.2.2.2.2.2.2.1 x.2.1) (fun z=>(((),(z.1,z.2.1,z.2.2.1,()),(z.2.2.2.1,z.2.2.2.2.1,(),()),z.2.2.2.2.2,()),((),(),()))) (fun y=>(y.1.2.1.1,y.1.2.1.2.1,y.1.2.1.2.2.1,y.1.2.2.1.1,y.1.2.2.1.2.1,y.1.2.2.2.1)) (fun _=>rfl)
theorem ZKg(k:Nat)(b1_0:Int)(b1_1:Int)(b1_2:List (Int×Int))(b2_0:Int)(b2_1:Int)(b2_2:Int)(b3_0:Int)(b3_1:Int)(o4:List (Int×Int))(b5_0:Int)(b5_1:Int)(o6:List (Int×Int))(v3:Int):ZfT k b1_0 b1_1 b1_2 b2_0 b2_1 b2_2 b3_0 b3_1 o4 b5_0 b5_1 o6 v3=repl 2 (Zae k b1_0 b1_1 b1_2 b2_0 b2_1 b2_2 b3_0 b3_1 o4 b5_0 b5_1 o6 v3):=by
 first
 |(simp only[ZfT,Zae,Z7,Zc,Z8,Z9,Z6,Z3,if_true];done)
 |(simp only[ZfT,Zae,Z7,Zc,Z8,Z9,Z6,Z3,if_true];simp only[Z1g,Z1i,Z2p,Z3];simp only[Z3E];exact Z1H ⟨fun h=>by simp only[h,and_self],fun h=>by simp only[h,and_self]⟩)
noncomputable def ZoP:Nat→Int×Int×List (Int×Int)→List Int→List (Int×Int×Int)→Int→Option ((Int×Int×Int)×Int×Int×List (Int×Int))
 |0,_,_,_,_=>none
 |k+1,p0,p1,p2,p3=>
  Option.bind (Z9R k (p0.1,p0.2.1,p0.2.2)) fun z0=>Option.bind (Zdc k p0.1 p0.2.1 p0.2.2 (0:Int) (0:Int) (0:Int) (0:Int) (0:Int) [] z0.1 z0.2.1 z0.2.2 p1 p2 p3 (0:Int) (0:Int)) fun z11=>LR.on z11 (fun y11=>Option.bind (Zae k y11.1 y11.2.1 y11.2.2.1 y11.2.2.2.1 y11.2.2.2.2.1 y11.2.2.2.2.2.1 y11.2.2.2.2.2.2.1 y11.2.2.2.2.2.2.2.1 y11.2.2.2.2.2.2.2.2.1 y11.2.2.2.2.2.2.2.2.2.1 y11.2.2.2.2.2.2.2.2.2.2.1 y11.2.2.2.2.2.2.2.2.2.2.2.1 y11.2.2.2.2.2.2.2.2.2.2.2.2) fun z12=>some ((z12.1,z12.2.1,z12.2.2.1),z12.2.2.2.1,z12.2.2.2.2.1,z12.2.2.2.2.2)) fun r11=>some r11
noncomputable def ZbG:FnDef:= .of ZJ1 Z4V ((Int×Int×Int)×Int×Int×List (Int×Int)) (fun k x=>ZoP k x.1 x.2.1 x.2.2.1 x.2.2.2.1) Zt6 Ztn ZuP
noncomputable def Z61:Code:=Tryz.f127.body.getD .skip
noncomputable def Zh:Ctx (Tup Z4V×OutD):={T:=T,G:=[(126,Z5Y.E),(133,Z6Y.E),(138,ZbI.E),(134,Z6d.E),(135,Z68.E),(76,Z2i.E)],mvs:=[],no:=0,n:=111,res:=resOf T ZJ1 Z4V Tryz.f127.results.toList,loops:=[(2,ZbV.E),(0,ZbS.E)],regs:=[(9,Zaz.E),(11,Z8N.E),(26,Z8W.E),(27,Z9m.E)],conds:=[(52,Z22.E)],cuts:=[]}
theorem ZbH(k:Nat):EnvOK Tryz.prog k Zh.G:=(EnvOK.cons (ZsE k) (EnvOK.cons (Zxk k) (EnvOK.cons (ZSZ k) (EnvOK.cons (ZBb k) (EnvOK.cons (ZBp k) (EnvOK.cons (Z9H k) (EnvOK.nil mixed)))))))
noncomputable def Znc:Array Oper:=(findReg 9 Z61).getD #[]
theorem ZM9(k:Nat)(x:Zv4.D):execD Zh.T Zh.G Zh.mvs k Znc (Zaz.inp.st Zh.n x) (outK Zh Zaz)=Zhv k x.1.2.1.1 x.1.2.1.2.1 x.1.2.1.2.2.1 x.1.2.2.1.1 x.1.2.2.1.2.1 x.1.2.2.2.1 x.1.2.2.2.2.1.1 x.1.2.2.2.2.1.2.1 x.1.2.2.2.2.2.1 x.2.1 x.2.2.2.2.2.1:=by kernel_rfl
theorem ZKa(k:Nat):EOK Tryz.prog Zh k Zaz.E (.region 9 Znc true):=Z4n (D:=Zaz) (m:=2) T_ok (ZbH k) (fun x=>(ZM9 k x).trans (ZMc k x.1.2.1.1 x.1.2.1.2.1 x.1.2.1.2.2.1 x.1.2.2.1.1 x.1.2.2.1.2.1 x.1.2.2.2.1 x.1.2.2.2.2.1.1 x.1.2.2.2.2.1.2.1 x.1.2.2.2.2.2.1 x.2.1 x.2.2.2.2.2.1))
noncomputable def Zl3:Array Oper:=(findReg 11 Z61).getD #[]
theorem ZKI(k:Nat)(x:Ztd.D):execD Zh.T Zh.G Zh.mvs k Zl3 (Z8N.inp.st Zh.n x) (outK Zh Z8N)=Zgf k x.1.2.1.1 x.1.2.1.2.1 x.1.2.1.2.2.1 x.1.2.2.1.1 x.1.2.2.1.2.1 x.1.2.2.2.1 x.1.2.2.2.2.1.1 x.1.2.2.2.2.1.2.1 x.1.2.2.2.2.2.1 x.2.1 x.2.2.2.2.2.1:=by kernel_rfl
theorem ZHB(k:Nat):EOK Tryz.prog Zh k Z8N.E (.region 11 Zl3 true):=Z4n (D:=Z8N) (m:=2) T_ok (ZbH k) (fun x=>(ZKI k x).trans (ZL2 k x.1.2.1.1 x.1.2.1.2.1 x.1.2.1.2.2.1 x.1.2.2.1.1 x.1.2.2.1.2.1 x.1.2.2.2.1 x.1.2.2.2.2.1.1 x.1.2.2.2.2.1.2.1 x.1.2.2.2.2.2.1 x.2.1 x.2.2.2.2.2.1))
noncomputable def Zlg:Array Oper:=(findReg 26 Z61).getD #[]
theorem ZLs(k:Nat)(x:ZsN.D):execD Zh.T Zh.G Zh.mvs k Zlg (Z8W.inp.st Zh.n x) (outK Zh Z8W)=Zgm k x.1.2.1.1 x.1.2.1.2.1 x.1.2.1.2.2.1 x.1.2.2.1.1 x.1.2.2.1.2.1 x.1.2.2.2.1 x.1.2.2.2.2.1.1 x.1.2.2.2.2.1.2.1 x.1.2.2.2.2.2.1 x.2.1 x.2.2.2.2.2.1:=by kernel_rfl
theorem ZHt(k:Nat):EOK Tryz.prog Zh k Z8W.E (.region 26 Zlg true):=Z4n (D:=Z8W) (m:=2) T_ok (ZbH k) (fun x=>(ZLs k x).trans (ZKe k x.1.2.1.1 x.1.2.1.2.1 x.1.2.1.2.2.1 x.1.2.2.1.1 x.1.2.2.1.2.1 x.1.2.2.2.1 x.1.2.2.2.2.1.1 x.1.2.2.2.2.1.2.1 x.1.2.2.2.2.2.1 x.2.1 x.2.2.2.2.2.1))
noncomputable def Zl1:Array Oper:=(findReg 27 Z61).getD #[]
theorem ZJP(k:Nat)(x:ZrR.D):execD Zh.T Zh.G Zh.mvs k Zl1 (Z9m.inp.st Zh.n x) (outK Zh Z9m)=ZfT k x.1.2.1.1 x.1.2.1.2.1 x.1.2.1.2.2.1 x.1.2.2.1.1 x.1.2.2.1.2.1 x.1.2.2.1.2.2.1 x.1.2.2.2.1.1 x.1.2.2.2.1.2.1 x.1.2.2.2.2.1 x.1.2.2.2.2.2.1.1 x.1.2.2.2.2.2.1.2.1 x.1.2.2.2.2.2.2.1 x.2.1:=by kernel_rfl
theorem ZH3(k:Nat):EOK Tryz.prog Zh k Z9m.E (.region 27 Zl1 true):=Z4n (D:=Z9m) (m:=2) T_ok (ZbH k) (fun x=>(ZJP k x).trans (ZKg k x.1.2.1.1 x.1.2.1.2.1 x.1.2.1.2.2.1 x.1.2.2.1.1 x.1.2.2.1.2.1 x.1.2.2.1.2.2.1 x.1.2.2.2.1.1 x.1.2.2.2.1.2.1 x.1.2.2.2.2.1 x.1.2.2.2.2.2.1.1 x.1.2.2.2.2.2.1.2.1 x.1.2.2.2.2.2.2.1 x.2.1))
noncomputable def Zgk:Code:=((findCond 52 Z61).map (·.1)).getD .skip
noncomputable def Zg6:Code:=((findCond 52 Z61).map (·.2)).getD .skip
theorem ZLk(k:Nat)(i:Z22.inp.D):Z22.lp k i=branch (Z22.inp.st Zh.n i) (.tmp 52) (fun st=>exec Zh k Zgk st (outK Zh Z22) (fun _ _=>none) Z22.mkB) (fun st=>exec Zh k Zg6 st (outK Zh Z22) (fun _ _=>none) Z22.mkB):=by kernel_rfl
theorem ZIo(k:Nat):EOK Tryz.prog Zh k Z22.E (.cond (.tmp 52) Zgk Zg6):=ZNI (D:=Z22) T_ok (ZbH k) (ZLk k) (@LOK.by _ _ _ _ Zgk [] (by kernel_rfl) AllOK.nil) (@LOK.by _ _ _ _ Zg6 [] (by kernel_rfl) AllOK.nil)
noncomputable def ZiQ:Code:=(findLoop 2 Z61).getD .skip
theorem ZOz(k:Nat)(x:Zow.D):ZbV.lp (k+1) x=loopK Zh ZbV 2 ZiQ k x:=by kernel_rfl
theorem ZNh(k:Nat):LOK Tryz.prog Zh k ZiQ:=LOK.by [] (by kernel_rfl) AllOK.nil
theorem ZND(x:Zow.D):ZbV.lp 0 x=none:=by kernel_rfl
theorem ZMZ(k:Nat):EOK Tryz.prog Zh k ZbV.E (.block 2 (.loop ZiQ)):=Zd T_ok ZbH ZND ZOz ZNh k
noncomputable def ZiD:Code:=(findLoop 0 Z61).getD .skip
theorem ZOy(k:Nat)(x:Zo1.D):ZbS.lp (k+1) x=loopK Zh ZbS 0 ZiD k x:=by kernel_rfl
theorem ZNG(k:Nat):LOK Tryz.prog Zh k ZiD:=LOK.by [(Zaz.E,.region 9 Znc true),(Z8N.E,.region 11 Zl3 true),(Z22.E,.cond (.tmp 52) Zgk Zg6),(ZbV.E,.block 2 (.loop ZiQ)),(Z8W.E,.region 26 Zlg true)] (by kernel_rfl) (AllOK.cons (ZKa k) (AllOK.cons (ZHB k) (AllOK.cons (ZIo k) (AllOK.cons (ZMZ k) (AllOK.cons (ZHt k) AllOK.nil)))))
theorem ZP2(x:Zo1.D):ZbS.lp 0 x=none:=by kernel_rfl
theorem ZLW(k:Nat):EOK Tryz.prog Zh k ZbS.E (.block 0 (.loop ZiD)):=Zd T_ok ZbH ZP2 ZOy ZNG k
theorem ZT3(k:Nat)(x:Tup ZbG.ps):ZbG.f (k+1) x=fnK ZbG Zh Z61 k x:=by kernel_rfl
theorem ZST(x:Tup ZbG.ps):ZbG.f 0 x=none:=by kernel_rfl
theorem ZTu(k:Nat):LOK Tryz.prog Zh k Z61:=LOK.by [(ZbS.E,.block 0 (.loop ZiD)),(Z9m.E,.region 27 Zl1 true)] (by kernel_rfl) (AllOK.cons (ZLW k) (AllOK.cons (ZH3 k) AllOK.nil))
theorem ZTm(k:Nat):SoundAt Tryz.prog k 127 ZbG.E:= @Z5 Tryz.prog ZbG Zh 127 Tryz.f127 Z61 (by kernel_rfl) (by kernel_rfl) (by kernel_rfl) Tryz.func127 (by kernel_rfl) (by kernel_rfl) (by kernel_rfl) T_ok ZbH ZTu ZST ZT3 k
noncomputable def Zb7:List PK:=[PK.mk P6 true none false none]
noncomputable def ZqN:List PK:=[PK.mk (.pair (.slice 5 (.int .u8)) (.pair I6 (.int .u64))) false none false (some 105)]
noncomputable def Zph(r:(Int×Int)×Int×Int):Tup Zb7×OutD:=((r.1,()),some ⟨Ty.pair (Ty.slice (5:Nat) (Ty.int .u8)) (Ty.pair (Ty.int .i64) (Ty.int .u64)),[([],r.2)]⟩)
noncomputable def ZhO:Tup Zb7×OutD→Option ((Int×Int)×Int×Int)
 |(a,some ⟨u,ys⟩)=>if h:u=Ty.pair (Ty.slice (5:Nat) (Ty.int .u8)) (Ty.pair (Ty.int .i64) (Ty.int .u64)) then (match castU h ys with
  |[([],y)]=>some (a.1,y)
  |_=>none) else none
 |_=>none
theorem ZyS: ∀b r,ZhO b=some r→Zph r=b:=by
 rintro ⟨a,o⟩ r h
 cases o with
 |none=>cases h
 |some s=>
  obtain ⟨u,ys⟩:=s
  simp only[ZhO]at h
  split at h
  ·rename_i hu
   subst hu
   match ys,h with
   |[],h=>cases (show (none:Option _)=some r from h)
   |[([],y)],h=>injection (show some _=some r from h) with h;subst h;rfl
   |[(_::_,y)],h=>cases (show (none:Option _)=some r from h)
   |(h1,_)::_::_,h=>cases h1<;>cases (show (none:Option _)=some r from h)
  ·cases h
noncomputable def Z5y:Nat→List Int×Int×Int→Option ((Int×Int)×Int×Int)
 |0,_=>none
 |k+1,p0=>
  Option.bind (Zcb k) fun z0=>Option.bind (Z1 k (p0.1,p0.2.1,p0.2.2) (↑(List.length z0):Int)) fun z1=>if (0:Int)≤z1.1 then if z1.1<(↑(List.length z0):Int) then some ((Prod.fst (List.getD z0 (Int.toNat z1.1) ((0:Int),(0:Int))),Prod.snd (List.getD z0 (Int.toNat z1.1) ((0:Int),(0:Int)))),z1.2.1,z1.2.2) else none else none
noncomputable def Z3b:FnDef:= .of ZqN Zb7 ((Int×Int)×Int×Int) (fun k x=>Z5y k x.1) Zph ZhO ZyS
noncomputable def ZjJ:Code:=Tryz.f130.body.getD .skip
noncomputable def Zeo:Ctx (Tup Zb7×OutD):={T:=T,G:=[(120,Z7g.E),(116,Zq.E)],mvs:=[],no:=2,n:=12,res:=resOf T ZqN Zb7 Tryz.f130.results.toList,loops:=[],regs:=[],conds:=[],cuts:=[]}
theorem ZHG(k:Nat):EnvOK Tryz.prog k Zeo.G:=(EnvOK.cons (ZFG k) (EnvOK.cons (Z1I k) (EnvOK.nil mixed)))
theorem ZHs(k:Nat)(x:Tup Z3b.ps):Z3b.f (k+1) x=fnK Z3b Zeo ZjJ k x:=by kernel_rfl
theorem ZHW(x:Tup Z3b.ps):Z3b.f 0 x=none:=by kernel_rfl
theorem ZI7(k:Nat):LOK Tryz.prog Zeo k ZjJ:=LOK.by [] (by kernel_rfl) AllOK.nil
theorem ZqI(k:Nat):SoundAt Tryz.prog k 130 Z3b.E:= @Z5 Tryz.prog Z3b Zeo 130 Tryz.f130 ZjJ (by kernel_rfl) (by kernel_rfl) (by kernel_rfl) Tryz.func130 (by kernel_rfl) (by kernel_rfl) (by kernel_rfl) T_ok ZHG ZI7 ZHW ZHs k
end
end Go.Proofs.YtmhfhiofcoggbaaGreat.Vs
