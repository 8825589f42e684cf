/- The proof, part 10. -/
import Derived.Test.YtmhfhiofcoggbaaGreatqT2m8
set_option maxRecDepth 100000
set_option maxHeartbeats 2000000
set_option linter.unusedVariables false
set_option linter.unusedSimpArgs false
namespace Go.Proofs.YtmhfhiofcoggbaaGreat.Vs
open Go.RowKit
noncomputable section
noncomputable def Z8o:List PK:=[PK.mk .bool false none false none,PK.mk .bool false none false none]
noncomputable def ZnW:List PK:=[PK.mk (.pair I6 (.pair I6 (.slice 76 P6))) true none false none,PK.mk (.slice 58 T6) false none false none,PK.mk (.slice 3 I6) false none false none,PK.mk (.slice 40 T6) false none false none]
noncomputable def Zm4(r:Bool×Bool):Tup Z8o×OutD:=((r.1,r.2,()),none)
noncomputable def Zmr:Tup Z8o×OutD→Option (Bool×Bool)
 |(a,none)=>some (a.1,a.2.1)
 |_=>none
theorem ZtW: ∀b r,Zmr b=some r→Zm4 r=b:=by
 rintro ⟨a,_|_⟩ r h<;>cases h;rfl
noncomputable def ZcJ:Nat→Int×Int×List (Int×Int)→List (Int×Int×Int)→List Int→List (Int×Int×Int)→Option (Bool×Bool)
 |0,_,_,_,_=>none
 |k+1,p0,p1,p2,p3=>
  Option.bind (ZgC k (p0.1,p0.2.1,p0.2.2) p2 p3) fun z0=>if (!z0)=true then some (false,false) else Option.bind (Zc8 k (p0.1,p0.2.1,p0.2.2) p1) fun z1=>if (!z1)=true then some (false,false) else Option.bind (Z8u k (p0.1,p0.2.1,p0.2.2) p1 p2 p3) fun z2=>some (z2,true)
noncomputable def Z2Z:FnDef:= .of ZnW Z8o (Bool×Bool) (fun k x=>ZcJ k x.1 x.2.1 x.2.2.1 x.2.2.2.1) Zm4 Zmr ZtW
noncomputable def Zh4:Code:=Tryz.f24.body.getD .skip
noncomputable def ZcO:Ctx (Tup Z8o×OutD):={T:=T,G:=[(52,Z6e.E),(56,Z3G.E),(57,Z27.E)],mvs:=[],no:=0,n:=26,res:=resOf T ZnW Z8o Tryz.f24.results.toList,loops:=[],regs:=[],conds:=[],cuts:=[]}
theorem ZDc(k:Nat):EnvOK Tryz.prog k ZcO.G:=(EnvOK.cons (ZBa k) (EnvOK.cons (ZrM k) (EnvOK.cons (Znk k) (EnvOK.nil mixed))))
theorem ZDE(k:Nat)(x:Tup Z2Z.ps):Z2Z.f (k+1) x=fnK Z2Z ZcO Zh4 k x:=by kernel_rfl
theorem ZD7(x:Tup Z2Z.ps):Z2Z.f 0 x=none:=by kernel_rfl
theorem ZCK(k:Nat):LOK Tryz.prog ZcO k Zh4:=LOK.by [] (by kernel_rfl) AllOK.nil
theorem ZCM(k:Nat):SoundAt Tryz.prog k 24 Z2Z.E:= @Z5 Tryz.prog Z2Z ZcO 24 Tryz.f24 Zh4 (by kernel_rfl) (by kernel_rfl) (by kernel_rfl) Tryz.func24 (by kernel_rfl) (by kernel_rfl) (by kernel_rfl) T_ok ZDc ZCK ZD7 ZDE k
noncomputable def Za3:List PK:=[PK.mk (.slice 40 T6) false none false none,PK.mk (.pair I6 (.pair I6 (.slice 76 P6))) true none false none,PK.mk .bool false none false none]
noncomputable def ZpA:List PK:=[PK.mk (.pair I6 (.pair I6 (.slice 76 P6))) true none false none,PK.mk (.slice 58 T6) false none false none,PK.mk (.slice 3 I6) false none false none]
noncomputable def ZnD(r:List (Int×Int×Int)×(Int×Int×List (Int×Int))×Bool):Tup Za3×OutD:=((r.1,r.2.1,r.2.2,()),none)
noncomputable def Znj:Tup Za3×OutD→Option (List (Int×Int×Int)×(Int×Int×List (Int×Int))×Bool)
 |(a,none)=>some (a.1,a.2.1,a.2.2.1)
 |_=>none
theorem ZvR: ∀b r,Znj b=some r→ZnD r=b:=by
 rintro ⟨a,_|_⟩ r h<;>cases h;rfl
noncomputable def ZdS:Nat→Int×Int×List (Int×Int)→List (Int×Int×Int)→List Int→Option (List (Int×Int×Int)×(Int×Int×List (Int×Int))×Bool)
 |0,_,_,_=>none
 |k+1,p0,p1,p2=>
  Option.bind (Z8n k (p0.1,p0.2.1,p0.2.2) p2) fun z0=>if (!z0)=true then some ([],((0:Int),(0:Int),[]),false) else Option.bind (Zc8 k (p0.1,p0.2.1,p0.2.2) p1) fun z1=>if (!z1)=true then some ([],((0:Int),(0:Int),[]),false) else Option.bind (Z9S k (p0.1,p0.2.1,p0.2.2) p1 p2) fun z2=>some (z2.1,(z2.2.1,z2.2.2.1,z2.2.2.2),true)
noncomputable def Z3w:FnDef:= .of ZpA Za3 (List (Int×Int×Int)×(Int×Int×List (Int×Int))×Bool) (fun k x=>ZdS k x.1 x.2.1 x.2.2.1) ZnD Znj ZvR
noncomputable def ZhU:Code:=Tryz.f25.body.getD .skip
noncomputable def ZdI:Ctx (Tup Za3×OutD):={T:=T,G:=[(58,Z26.E),(56,Z3G.E),(59,Z2D.E)],mvs:=[],no:=0,n:=31,res:=resOf T ZpA Za3 Tryz.f25.results.toList,loops:=[],regs:=[],conds:=[],cuts:=[]}
theorem ZFA(k:Nat):EnvOK Tryz.prog k ZdI.G:=(EnvOK.cons (Zns k) (EnvOK.cons (ZrM k) (EnvOK.cons (ZpD k) (EnvOK.nil mixed))))
theorem ZG6(k:Nat)(x:Tup Z3w.ps):Z3w.f (k+1) x=fnK Z3w ZdI ZhU k x:=by kernel_rfl
theorem ZEe(x:Tup Z3w.ps):Z3w.f 0 x=none:=by kernel_rfl
theorem ZE4(k:Nat):LOK Tryz.prog ZdI k ZhU:=LOK.by [] (by kernel_rfl) AllOK.nil
theorem ZFS(k:Nat):SoundAt Tryz.prog k 25 Z3w.E:= @Z5 Tryz.prog Z3w ZdI 25 Tryz.f25 ZhU (by kernel_rfl) (by kernel_rfl) (by kernel_rfl) Tryz.func25 (by kernel_rfl) (by kernel_rfl) (by kernel_rfl) T_ok ZFA ZE4 ZEe ZG6 k
noncomputable def ZbX:List PK:=[PK.mk (.slice 3 I6) false none false none,PK.mk I6 false none false none,PK.mk I6 false none false none]
noncomputable def ZxL:List PK:=[PK.mk (.pair I6 (.pair I6 (.pair (.slice 76 P6) (.pair (.slice 3 I6) (.slice 3 I6))))) true none false none]
noncomputable def Zvp(r:List Int×Int×Int):Tup ZbX×OutD:=((r.1,r.2.1,r.2.2,()),none)
noncomputable def Zvg:Tup ZbX×OutD→Option (List Int×Int×Int)
 |(a,none)=>some (a.1,a.2.1,a.2.2.1)
 |_=>none
theorem ZFb: ∀b r,Zvg b=some r→Zvp r=b:=by
 rintro ⟨a,_|_⟩ r h<;>cases h;rfl
noncomputable def Z1k:Nat→Int→Int→List (Int×Int)→List Int→List Int→List Int→Int→Int→Int→Int→Option (List Int×Int×Int)
 |0,_,_,_,_,_,_,_,_,_,_=>none
 |k+1,b1_0,b1_1,b1_2,b1_3,b1_4,o2,v6,v7,v8,v9=>
  Option.bind (Z2v k (b1_0,b1_1,b1_2,b1_3,b1_4)) fun z0=>if decide (v9<z0)=true then Option.bind (Zi k (b1_0,b1_1,b1_2,b1_3,b1_4) v9) fun z1=>Option.bind (Zj2 k (b1_0,b1_1,b1_2,b1_3,b1_4) (z1.1,z1.2.1,z1.2.2)) fun z2=>if (!z2)=true then Z1k k b1_0 b1_1 b1_2 b1_3 b1_4 o2 v6 v7 v8 (wrap64 (v9+1)) else Option.bind (Zkg k (z1.1,z1.2.1,z1.2.2)) fun z3=>if (0:Int)≤z3 then if z3<(↑(List.length o2):Int) then if (0:Int)≤z3 then if z3<(↑(List.length o2):Int) then if decide (v6<0)=true then if decide (v7<0)=true then Z1k k b1_0 b1_1 b1_2 b1_3 b1_4 (List.set o2 (Int.toNat z3) (wrap64 (List.getD o2 (Int.toNat z3) (0:Int)+1))) v9 v9 z3 (wrap64 (v9+1)) else if decide (z3<v8)=true then Z1k k b1_0 b1_1 b1_2 b1_3 b1_4 (List.set o2 (Int.toNat z3) (wrap64 (List.getD o2 (Int.toNat z3) (0:Int)+1))) v9 v9 z3 (wrap64 (v9+1)) else Z1k k b1_0 b1_1 b1_2 b1_3 b1_4 (List.set o2 (Int.toNat z3) (wrap64 (List.getD o2 (Int.toNat z3) (0:Int)+1))) v9 v7 v8 (wrap64 (v9+1)) else if decide (v7<0)=true then Z1k k b1_0 b1_1 b1_2 b1_3 b1_4 (List.set o2 (Int.toNat z3) (wrap64 (List.getD o2 (Int.toNat z3) (0:Int)+1))) v6 v9 z3 (wrap64 (v9+1)) else if decide (z3<v8)=true then Z1k k b1_0 b1_1 b1_2 b1_3 b1_4 (List.set o2 (Int.toNat z3) (wrap64 (List.getD o2 (Int.toNat z3) (0:Int)+1))) v6 v9 z3 (wrap64 (v9+1)) else Z1k k b1_0 b1_1 b1_2 b1_3 b1_4 (List.set o2 (Int.toNat z3) (wrap64 (List.getD o2 (Int.toNat z3) (0:Int)+1))) v6 v7 v8 (wrap64 (v9+1)) else none else none else none else none else some (o2,v6,v7)
noncomputable def ZjP:Spec:=Spec.mk [.ro,O4,O1] [(1,.at (.ptr 1 0)),(5,.at (.sl 2)),(6,.at (.int .i64)),(7,.at (.int .i64)),(8,.at (.int .i64)),(9,.at (.int .i64))]
noncomputable def ZIG:Spec:=Spec.mk [.ro,O1] [(5,.at (.sl 1)),(6,.at (.int .i64)),(7,.at (.int .i64))]
noncomputable def Z7H:LoopDef (Tup ZbX×OutD):= .plain ZjP ZIG (List Int×Int×Int) (fun k x=>Z1k k x.1.2.1.1 x.1.2.1.2.1 x.1.2.1.2.2.1 x.1.2.1.2.2.2.1 x.1.2.1.2.2.2.2.1 x.1.2.2.1 x.2.2.2.1 x.2.2.2.2.1 x.2.2.2.2.2.1 x.2.2.2.2.2.2.1) (fun z=>(((),z.1,()),((),z.2.1,z.2.2,()))) (fun y=>(y.1.2.1,y.2.2.1,y.2.2.2.1)) (fun _=>rfl)
noncomputable def Zfa:Nat→Int×Int×List (Int×Int)×List Int×List Int→Option (List Int×Int×Int)
 |0,_=>none
 |k+1,p0=>
  if (0:Int)≤wrap64 (wrap64 (p0.1*p0.2.1)+1) then if Int.toNat (wrap64 (wrap64 (p0.1*p0.2.1)+1))*(8:Nat)≤(281474976710656:Nat) then Option.bind (Z1k k p0.1 p0.2.1 p0.2.2.1 p0.2.2.2.1 p0.2.2.2.2 (List.replicate (Int.toNat (wrap64 (wrap64 (p0.1*p0.2.1)+1))) (0:Int)) (-1:Int) (-1:Int) (0:Int) (0:Int)) fun z4=>some (z4.1,z4.2.1,z4.2.2) else none else none
noncomputable def Z5c:FnDef:= .of ZxL ZbX (List Int×Int×Int) (fun k x=>Zfa k x.1) Zvp Zvg ZFb
noncomputable def ZiR:Code:=Tryz.f46.body.getD .skip
noncomputable def Z8K:Ctx (Tup ZbX×OutD):={T:=T,G:=[(78,Z42.E),(47,Z3V.E),(79,Z6s.E),(80,Z82.E)],mvs:=[],no:=0,n:=55,res:=resOf T ZxL ZbX Tryz.f46.results.toList,loops:=[(0,Z7H.E)],regs:=[],conds:=[],cuts:=[]}
theorem ZxU(k:Nat):EnvOK Tryz.prog k Z8K.G:=(EnvOK.cons (ZoB k) (EnvOK.cons (Zo4 k) (EnvOK.cons (ZP7 k) (EnvOK.cons (ZQ7 k) (EnvOK.nil mixed)))))
noncomputable def ZeA:Code:=(findLoop 0 ZiR).getD .skip
theorem ZIF(k:Nat)(x:ZjP.D):Z7H.lp (k+1) x=loopK Z8K Z7H 0 ZeA k x:=by kernel_rfl
theorem ZIv(k:Nat):LOK Tryz.prog Z8K k ZeA:=LOK.by [] (by kernel_rfl) AllOK.nil
theorem ZHH(x:ZjP.D):Z7H.lp 0 x=none:=by kernel_rfl
theorem ZEy(k:Nat):EOK Tryz.prog Z8K k Z7H.E (.block 0 (.loop ZeA)):=Zd T_ok ZxU ZHH ZIF ZIv k
theorem ZOu(k:Nat)(x:Tup Z5c.ps):Z5c.f (k+1) x=fnK Z5c Z8K ZiR k x:=by kernel_rfl
theorem ZOf(x:Tup Z5c.ps):Z5c.f 0 x=none:=by kernel_rfl
theorem ZOB(k:Nat):LOK Tryz.prog Z8K k ZiR:=LOK.by [(Z7H.E,.block 0 (.loop ZeA))] (by kernel_rfl) (AllOK.cons (ZEy k) AllOK.nil)
theorem Zye(k:Nat):SoundAt Tryz.prog k 46 Z5c.E:= @Z5 Tryz.prog Z5c Z8K 46 Tryz.f46 ZiR (by kernel_rfl) (by kernel_rfl) (by kernel_rfl) Tryz.func46 (by kernel_rfl) (by kernel_rfl) (by kernel_rfl) T_ok ZxU ZOB ZOf ZOu k
noncomputable def Z5U:List PK:=[PK.mk (.slice 58 T6) false none false none]
noncomputable def ZnV:List PK:=[PK.mk (.pair I6 (.pair I6 (.slice 76 P6))) true none false none,PK.mk (.slice 3 I6) false none false none,PK.mk (.slice 40 T6) false none false none]
noncomputable def ZlQ(r:List (Int×Int×Int)):Tup Z5U×OutD:=((r,()),none)
noncomputable def Zmf:Tup Z5U×OutD→Option (List (Int×Int×Int))
 |(a,none)=>some (a.1)
 |_=>none
theorem ZtS: ∀b r,Zmf b=some r→ZlQ r=b:=by
 rintro ⟨a,_|_⟩ r h<;>cases h;rfl
noncomputable def Z3s:Nat→Int→Int→List (Int×Int)→List (Int×Int×Int)→List (Int×Int×Int)→List Int→List (Int×Int×Int)→Int→Int→Option (List (Int×Int×Int))
 |0,_,_,_,_,_,_,_,_,_=>none
 |k+1,b1_0,b1_1,b1_2,o2,o3,v1,v2,v13,v14=>
  if decide (v14<v13)=true then if (0:Int)≤v14 then if v14<(↑(List.length o3):Int) then Option.bind (Z8u k (b1_0,b1_1,b1_2) [(Prod.fst (List.getD o3 (Int.toNat v14) ((0:Int),(0:Int),(0:Int))),Prod.fst (Prod.snd (List.getD o3 (Int.toNat v14) ((0:Int),(0:Int),(0:Int)))),Prod.snd (Prod.snd (List.getD o3 (Int.toNat v14) ((0:Int),(0:Int),(0:Int)))))] v1 v2) fun z1=>if z1=true then if List.length o2+List.length [(Prod.fst (List.getD o3 (Int.toNat v14) ((0:Int),(0:Int),(0:Int))),Prod.fst (Prod.snd (List.getD o3 (Int.toNat v14) ((0:Int),(0:Int),(0:Int)))),Prod.snd (Prod.snd (List.getD o3 (Int.toNat v14) ((0:Int),(0:Int),(0:Int)))))]≤(140737488355328/24:Nat) then Z3s k b1_0 b1_1 b1_2 (o2++[(Prod.fst (List.getD o3 (Int.toNat v14) ((0:Int),(0:Int),(0:Int))),Prod.fst (Prod.snd (List.getD o3 (Int.toNat v14) ((0:Int),(0:Int),(0:Int)))),Prod.snd (Prod.snd (List.getD o3 (Int.toNat v14) ((0:Int),(0:Int),(0:Int)))))]) o3 v1 v2 v13 (wrap64 (v14+1)) else none else Z3s k b1_0 b1_1 b1_2 o2 o3 v1 v2 v13 (wrap64 (v14+1)) else none else none else some o2
noncomputable def Ze4:Spec:=Spec.mk [.ro,O2,Og,Og] [(1,.at (.snap 0 I6)),(2,.at (.snap 0 T6)),(3,.at (.ptr 1 0)),(7,.at (.sl 2)),(12,.at (.sl 3)),(13,.at (.int .i64)),(14,.at (.int .i64))]
noncomputable def ZwP:Spec:=Spec.mk [.ro,Og] [(7,.at (.sl 1))]
noncomputable def Z3X:LoopDef (Tup Z5U×OutD):= .plain Ze4 ZwP (List (Int×Int×Int)) (fun k x=>Z3s k x.1.2.1.1 x.1.2.1.2.1 x.1.2.1.2.2.1 x.1.2.2.1 x.1.2.2.2.1 x.2.1 x.2.2.1 x.2.2.2.2.2.2.1 x.2.2.2.2.2.2.2.1) (fun z=>(((),z,()),((),()))) (fun y=>(y.1.2.1)) (fun _=>rfl)
noncomputable def ZcI:Nat→Int×Int×List (Int×Int)→List Int→List (Int×Int×Int)→Option (List (Int×Int×Int))
 |0,_,_,_=>none
 |k+1,p0,p1,p2=>
  Option.bind (Zak k (p0.1,p0.2.1,p0.2.2)) fun z0=>Option.bind (Z3s k p0.1 p0.2.1 p0.2.2 [] z0 p1 p2 (↑(List.length z0):Int) (0:Int)) fun z2=>some z2
noncomputable def Z2U:FnDef:= .of ZnV Z5U (List (Int×Int×Int)) (fun k x=>ZcI k x.1 x.2.1 x.2.2.1) ZlQ Zmf ZtS
noncomputable def ZcV:Code:=Tryz.f53.body.getD .skip
noncomputable def Z4e:Ctx (Tup Z5U×OutD):={T:=T,G:=[(86,Z2d.E),(57,Z27.E)],mvs:=[],no:=0,n:=30,res:=resOf T ZnV Z5U Tryz.f53.results.toList,loops:=[(0,Z3X.E)],regs:=[],conds:=[],cuts:=[]}
theorem Znl(k:Nat):EnvOK Tryz.prog k Z4e.G:=(EnvOK.cons (Zyw k) (EnvOK.cons (Znk k) (EnvOK.nil mixed)))
noncomputable def Z9G:Code:=(findLoop 0 ZcV).getD .skip
theorem Zxc(k:Nat)(x:Ze4.D):Z3X.lp (k+1) x=loopK Z4e Z3X 0 Z9G k x:=by kernel_rfl
theorem Zwd(k:Nat):LOK Tryz.prog Z4e k Z9G:=LOK.by [] (by kernel_rfl) AllOK.nil
theorem Zwf(x:Ze4.D):Z3X.lp 0 x=none:=by kernel_rfl
theorem Zu6(k:Nat):EOK Tryz.prog Z4e k Z3X.E (.block 0 (.loop Z9G)):=Zd T_ok Znl Zwf Zxc Zwd k
theorem ZDj(k:Nat)(x:Tup Z2U.ps):Z2U.f (k+1) x=fnK Z2U Z4e ZcV k x:=by kernel_rfl
theorem ZCw(x:Tup Z2U.ps):Z2U.f 0 x=none:=by kernel_rfl
theorem ZCE(k:Nat):LOK Tryz.prog Z4e k ZcV:=LOK.by [(Z3X.E,.block 0 (.loop Z9G))] (by kernel_rfl) (AllOK.cons (Zu6 k) AllOK.nil)
theorem ZDz(k:Nat):SoundAt Tryz.prog k 53 Z2U.E:= @Z5 Tryz.prog Z2U Z4e 53 Tryz.f53 ZcV (by kernel_rfl) (by kernel_rfl) (by kernel_rfl) Tryz.func53 (by kernel_rfl) (by kernel_rfl) (by kernel_rfl) T_ok Znl ZCE ZCw ZDj k
noncomputable def Zaj:List PK:=[PK.mk (.slice 58 T6) false none false none]
noncomputable def Zvx:List PK:=[PK.mk (.pair I6 (.pair I6 (.slice 76 P6))) true none false none,PK.mk (.slice 3 I6) false none false none,PK.mk (.slice 40 T6) false none false none]
noncomputable def Ztr(r:List (Int×Int×Int)):Tup Zaj×OutD:=((r,()),none)
noncomputable def Ztg:Tup Zaj×OutD→Option (List (Int×Int×Int))
 |(a,none)=>some (a.1)
 |_=>none
theorem ZCI: ∀b r,Ztg b=some r→Ztr r=b:=by
 rintro ⟨a,_|_⟩ r h<;>cases h;rfl
noncomputable def Z5x:Nat→Int→Int→List (Int×Int)→List (Int×Int×Int)→List (Int×Int×Int)→List Int→List (Int×Int×Int)→Int→Int→Option (List (Int×Int×Int))
 |0,_,_,_,_,_,_,_,_,_=>none
 |k+1,b1_0,b1_1,b1_2,o2,o3,v1,v2,v12,v13=>
  if decide (v13<v12)=true then if (0:Int)≤v13 then if v13<(↑(List.length o3):Int) then Option.bind (ZeB k (b1_0,b1_1,b1_2) [(Prod.fst (List.getD o3 (Int.toNat v13) ((0:Int),(0:Int),(0:Int))),Prod.fst (Prod.snd (List.getD o3 (Int.toNat v13) ((0:Int),(0:Int),(0:Int)))),Prod.snd (Prod.snd (List.getD o3 (Int.toNat v13) ((0:Int),(0:Int),(0:Int)))))] v1 v2) fun z1=>if z1=true then if List.length o2+List.length [(Prod.fst (List.getD o3 (Int.toNat v13) ((0:Int),(0:Int),(0:Int))),Prod.fst (Prod.snd (List.getD o3 (Int.toNat v13) ((0:Int),(0:Int),(0:Int)))),Prod.snd (Prod.snd (List.getD o3 (Int.toNat v13) ((0:Int),(0:Int),(0:Int)))))]≤(140737488355328/24:Nat) then Z5x k b1_0 b1_1 b1_2 (o2++[(Prod.fst (List.getD o3 (Int.toNat v13) ((0:Int),(0:Int),(0:Int))),Prod.fst (Prod.snd (List.getD o3 (Int.toNat v13) ((0:Int),(0:Int),(0:Int)))),Prod.snd (Prod.snd (List.getD o3 (Int.toNat v13) ((0:Int),(0:Int),(0:Int)))))]) o3 v1 v2 v12 (wrap64 (v13+1)) else none else Z5x k b1_0 b1_1 b1_2 o2 o3 v1 v2 v12 (wrap64 (v13+1)) else none else none else some o2
noncomputable def ZhT:Spec:=Spec.mk [.ro,O2,Og,Og] [(1,.at (.snap 0 I6)),(2,.at (.snap 0 T6)),(3,.at (.ptr 1 0)),(7,.at (.sl 2)),(11,.at (.sl 3)),(12,.at (.int .i64)),(13,.at (.int .i64))]
noncomputable def ZGy:Spec:=Spec.mk [.ro,Og] [(7,.at (.sl 1))]
noncomputable def Z6q:LoopDef (Tup Zaj×OutD):= .plain ZhT ZGy (List (Int×Int×Int)) (fun k x=>Z5x k x.1.2.1.1 x.1.2.1.2.1 x.1.2.1.2.2.1 x.1.2.2.1 x.1.2.2.2.1 x.2.1 x.2.2.1 x.2.2.2.2.2.2.1 x.2.2.2.2.2.2.2.1) (fun z=>(((),z,()),((),()))) (fun y=>(y.1.2.1)) (fun _=>rfl)
noncomputable def Zhf:Nat→Int×Int×List (Int×Int)→List Int→List (Int×Int×Int)→Option (List (Int×Int×Int))
 |0,_,_,_=>none
 |k+1,p0,p1,p2=>
  Option.bind (Zbd k (p0.1,p0.2.1,p0.2.2)) fun z0=>Option.bind (Z5x k p0.1 p0.2.1 p0.2.2 [] z0 p1 p2 (↑(List.length z0):Int) (0:Int)) fun z2=>some z2
noncomputable def Z5I:FnDef:= .of Zvx Zaj (List (Int×Int×Int)) (fun k x=>Zhf k x.1 x.2.1 x.2.2.1) Ztr Ztg ZCI
noncomputable def Zhq:Code:=Tryz.f55.body.getD .skip
noncomputable def Z71:Ctx (Tup Zaj×OutD):={T:=T,G:=[(88,Z33.E),(89,Z47.E)],mvs:=[],no:=0,n:=29,res:=resOf T Zvx Zaj Tryz.f55.results.toList,loops:=[(0,Z6q.E)],regs:=[],conds:=[],cuts:=[]}
theorem ZvG(k:Nat):EnvOK Tryz.prog k Z71.G:=(EnvOK.cons (Zqq k) (EnvOK.cons (ZHF k) (EnvOK.nil mixed)))
noncomputable def ZdG:Code:=(findLoop 0 Zhq).getD .skip
theorem ZFe(k:Nat)(x:ZhT.D):Z6q.lp (k+1) x=loopK Z71 Z6q 0 ZdG k x:=by kernel_rfl
theorem ZG1(k:Nat):LOK Tryz.prog Z71 k ZdG:=LOK.by [] (by kernel_rfl) AllOK.nil
theorem ZFF(x:ZhT.D):Z6q.lp 0 x=none:=by kernel_rfl
theorem ZCW(k:Nat):EOK Tryz.prog Z71 k Z6q.E (.block 0 (.loop ZdG)):=Zd T_ok ZvG ZFF ZFe ZG1 k
theorem ZLK(k:Nat)(x:Tup Z5I.ps):Z5I.f (k+1) x=fnK Z5I Z71 Zhq k x:=by kernel_rfl
theorem ZM4(x:Tup Z5I.ps):Z5I.f 0 x=none:=by kernel_rfl
theorem ZMM(k:Nat):LOK Tryz.prog Z71 k Zhq:=LOK.by [(Z6q.E,.block 0 (.loop ZdG))] (by kernel_rfl) (AllOK.cons (ZCW k) AllOK.nil)
theorem ZMh(k:Nat):SoundAt Tryz.prog k 55 Z5I.E:= @Z5 Tryz.prog Z5I Z71 55 Tryz.f55 Zhq (by kernel_rfl) (by kernel_rfl) (by kernel_rfl) Tryz.func55 (by kernel_rfl) (by kernel_rfl) (by kernel_rfl) T_ok ZvG ZMM ZM4 ZLK k
noncomputable def Z8h:List PK:=[PK.mk I6 false none false none]
noncomputable def ZnA:List PK:=[PK.mk (.pair I6 (.pair I6 (.slice 76 P6))) true none false none,PK.mk I6 false none false none,PK.mk I6 false none false none]
noncomputable def Zm2(r:Int):Tup Z8h×OutD:=((r,()),none)
noncomputable def Zm5:Tup Z8h×OutD→Option (Int)
 |(a,none)=>some (a.1)
 |_=>none
theorem Zub: ∀b r,Zm5 b=some r→Zm2 r=b:=by
 rintro ⟨a,_|_⟩ r h<;>cases h;rfl
noncomputable def ZcU:Nat→Int×Int×List (Int×Int)→Int→Int→Option Int
 |0,_,_,_=>none
 |k+1,p0,p1,p2=>
  Option.bind (ZgO k (p0.1,p0.2.1,p0.2.2) p2) fun z0=>if decide (z0.1.1≠1)=true then some (-1:Int) else if decide (z0.1.2.2≥p1)=true then some (1:Int) else some (0:Int)
noncomputable def Z32:FnDef:= .of ZnA Z8h (Int) (fun k x=>ZcU k x.1 x.2.1 x.2.2.1) Zm2 Zm5 Zub
noncomputable def Zh0:Code:=Tryz.f68.body.getD .skip
noncomputable def ZcW:Ctx (Tup Z8h×OutD):={T:=T,G:=[(11,Z6b.E)],mvs:=[],no:=0,n:=24,res:=resOf T ZnA Z8h Tryz.f68.results.toList,loops:=[],regs:=[],conds:=[],cuts:=[]}
theorem ZCZ(k:Nat):EnvOK Tryz.prog k ZcW.G:=(EnvOK.cons (ZB5 k) (EnvOK.nil mixed))
theorem ZDL(k:Nat)(x:Tup Z32.ps):Z32.f (k+1) x=fnK Z32 ZcW Zh0 k x:=by kernel_rfl
theorem ZD8(x:Tup Z32.ps):Z32.f 0 x=none:=by kernel_rfl
theorem ZCB(k:Nat):LOK Tryz.prog ZcW k Zh0:=LOK.by [] (by kernel_rfl) AllOK.nil
theorem ZCq(k:Nat):SoundAt Tryz.prog k 68 Z32.E:= @Z5 Tryz.prog Z32 ZcW 68 Tryz.f68 Zh0 (by kernel_rfl) (by kernel_rfl) (by kernel_rfl) Tryz.func68 (by kernel_rfl) (by kernel_rfl) (by kernel_rfl) T_ok ZCZ ZCB ZD8 ZDL k
noncomputable def Z4K:List PK:=[PK.mk (.pair I6 (.slice 3 I6)) true none false none]
noncomputable def ZlJ:List PK:=[PK.mk (.pair (.slice 5 (.int .u8)) (.pair I6 (.int .u64))) false none false (some 105)]
noncomputable def Zk3(r:(Int×List Int)×Int×Int):Tup Z4K×OutD:=((r.1,()),some ⟨Ty.pair (Ty.slice (5:Nat) (Ty.int .u8)) (Ty.pair (Ty.int .i64) (Ty.int .u64)),[([],r.2)]⟩)
noncomputable def Zek:Tup Z4K×OutD→Option ((Int×List Int)×Int×Int)
 |(a,some ⟨u,ys⟩)=>if h:u=Ty.pair (Ty.slice (5:Nat) (Ty.int .u8)) (Ty.pair (Ty.int .i64) (Ty.int .u64)) then (match castU h ys with
  |[([],y)]=>some (a.1,y)
  |_=>none) else none
 |_=>none
theorem Zr9: ∀b r,Zek b=some r→Zk3 r=b:=by
 rintro ⟨a,o⟩ r h
 cases o with
 |none=>cases h
 |some s=>
  obtain ⟨u,ys⟩:=s
  simp only[Zek]at h
  split at h
  ·rename_i hu
   subst hu
   match ys,h with
   |[],h=>cases (show (none:Option _)=some r from h)
   |[([],y)],h=>injection (show some _=some r from h) with h;subst h;rfl
   |[(_::_,y)],h=>cases (show (none:Option _)=some r from h)
   |(h1,_)::_::_,h=>cases h1<;>cases (show (none:Option _)=some r from h)
  ·cases h
noncomputable def Z3q:Nat→Int→Int→List Int→Int→List Int→Int→List Int→Option (Int×Int×List Int×Int×List Int×Int×List Int):=fun k b1_1 b1_2 o2 b3_0 o4 b5_0 o6=>
  Option.bind (Z1 k (o2,b1_1,b1_2) (↑(List.length o6):Int)) fun z3=>Option.bind (Zb k (o2,z3.2.1,z3.2.2) [(-1:Int),(2:Int)]) fun z4=>if (0:Int)≤z3.1 then if z3.1<(↑(List.length o6):Int) then some (z4.2.1,z4.2.2,o2,b3_0,o4,b5_0,List.set o6 (Int.toNat z3.1) z4.1) else none else none
noncomputable def Z6U:Nat→Int→Int→List Int→Int→List Int→Int→List Int→Option (List (Int×Int×List Int×Int×List Int×Int×List Int)):=fun k b1_1 b1_2 o2 b3_0 o4 b5_0 o6=>
  joinL (joinL (Option.bind (Z1 k (o2,b1_1,b1_2) (↑(List.length o6):Int)) fun z5=>Option.bind (Zb k (o2,z5.2.1,z5.2.2) [(-1:Int),(2:Int)]) fun z6=>if (0:Int)≤z5.1 then if z5.1<(↑(List.length o6):Int) then some [(z6.2.1,z6.2.2,o2,b3_0,o4,b5_0,List.set o6 (Int.toNat z5.1) z6.1)] else none else none) (Option.bind (Z1 k (o2,b1_1,b1_2) (↑(List.length o6):Int)) fun z7=>Option.bind (Zb k (o2,z7.2.1,z7.2.2) [(-1:Int),(2:Int)]) fun z8=>if (0:Int)≤z7.1 then if z7.1<(↑(List.length o6):Int) then some [(z8.2.1,z8.2.2,o2,b3_0,o4,b5_0,List.set o6 (Int.toNat z7.1) z8.1)] else none else none)) (joinL (Option.bind (Z1 k (o2,b1_1,b1_2) (↑(List.length o6):Int)) fun z9=>joinL (Option.bind (Zb k (o2,z9.2.1,z9.2.2) [(-1:Int),(2:Int)]) fun z10=>if (0:Int)≤z9.1 then if z9.1<(↑(List.length o6):Int) then some [(z10.2.1,z10.2.2,o2,b3_0,o4,b5_0,List.set o6 (Int.toNat z9.1) z10.1)] else none else none) (joinL (Option.bind (Zb k (o2,z9.2.1,z9.2.2) [(-1:Int),(2:Int)]) fun z11=>if (0:Int)≤z9.1 then if z9.1<(↑(List.length o6):Int) then some [(z11.2.1,z11.2.2,o2,b3_0,o4,b5_0,List.set o6 (Int.toNat z9.1) z11.1)] else none else none) (Option.bind (Zb k (o2,z9.2.1,z9.2.2) [(-1:Int),(2:Int)]) fun z12=>if (0:Int)≤z9.1 then if z9.1<(↑(List.length o6):Int) then some [(z12.2.1,z12.2.2,o2,b3_0,o4,b5_0,List.set o6 (Int.toNat z9.1) z12.1)] else none else none))) (joinL (Option.bind (Z1 k (o2,b1_1,b1_2) (↑(List.length o6):Int)) fun z13=>Option.bind (Zb k (o2,z13.2.1,z13.2.2) [(-1:Int),(2:Int)]) fun z14=>if (0:Int)≤z13.1 then if z13.1<(↑(List.length o6):Int) then some [(z14.2.1,z14.2.2,o2,b3_0,o4,b5_0,List.set o6 (Int.toNat z13.1) z14.1)] else none else none) (Option.bind (Z1 k (o2,b1_1,b1_2) (↑(List.length o6):Int)) fun z15=>joinL (Option.bind (Zb k (o2,z15.2.1,z15.2.2) [(-1:Int),(2:Int)]) fun z16=>if (0:Int)≤z15.1 then if z15.1<(↑(List.length o6):Int) then some [(z16.2.1,z16.2.2,o2,b3_0,o4,b5_0,List.set o6 (Int.toNat z15.1) z16.1)] else none else none) (Option.bind (Zb k (o2,z15.2.1,z15.2.2) [(-1:Int),(2:Int)]) fun z17=>if (0:Int)≤z15.1 then if z15.1<(↑(List.length o6):Int) then some [(z17.2.1,z17.2.2,o2,b3_0,o4,b5_0,List.set o6 (Int.toNat z15.1) z17.1)] else none else none))))
noncomputable def Zhg:Spec:=Spec.mk [.ro,O3,Oc,Oj,O1,Ok,O1] [(0,.at (.ptr 1 0)),(2,.at (.ptr 3 0)),(3,.at (.ptr 5 0))]
noncomputable def Zrn:Spec:=Spec.mk [.ro,O3,Oc,Oj,O1,Ok,O1] [(2,.at (.ptr 3 0)),(3,.at (.ptr 5 0))]
noncomputable def Z2M:LoopDef (Tup Z4K×OutD):= .plain Zhg Zrn (Int×Int×List Int×Int×List Int×Int×List Int) (fun k x=>Z3q k x.1.2.1.2.1 x.1.2.1.2.2.1 x.1.2.2.1 x.1.2.2.2.1.1 x.1.2.2.2.2.1 x.1.2.2.2.2.2.1.1 x.1.2.2.2.2.2.2.1) (fun z=>(((),((),z.1,z.2.1,()),z.2.2.1,(z.2.2.2.1,(),()),z.2.2.2.2.1,(z.2.2.2.2.2.1,(),()),z.2.2.2.2.2.2,()),((),(),()))) (fun y=>(y.1.2.1.2.1,y.1.2.1.2.2.1,y.1.2.2.1,y.1.2.2.2.1.1,y.1.2.2.2.2.1,y.1.2.2.2.2.2.1.1,y.1.2.2.2.2.2.2.1)) (fun _=>rfl)
theorem ZrA(k:Nat)(b1_1:Int)(b1_2:Int)(o2:List Int)(b3_0:Int)(o4:List Int)(b5_0:Int)(o6:List Int):Z6U k b1_1 b1_2 o2 b3_0 o4 b5_0 o6=repl 8 (Z3q k b1_1 b1_2 o2 b3_0 o4 b5_0 o6):=by
 first
 |(simp only[Z6U,Z3q,Z7,Zc,Z8,Z9,Z6,Z3,if_true];done)
 |(simp only[Z6U,Z3q,Z7,Zc,Z8,Z9,Z6,Z3,if_true];simp only[Z1g,Z1i,Z2p,Z3];simp only[Z3E];exact Z1H ⟨fun h=>by simp only[h,and_self],fun h=>by simp only[h,and_self]⟩)
noncomputable def Zaw:Nat→List Int×Int×Int→Option ((Int×List Int)×Int×Int)
 |0,_=>none
 |k+1,p0=>
  Option.bind (Zdq k (p0.1,p0.2.1,p0.2.2)) fun z0=>Option.bind (Z1 k (p0.1,z0.2.1,z0.2.2) (30:Int)) fun z1=>if decide (z1.1=0)=true then Option.bind (Zb k (p0.1,z1.2.1,z1.2.2) [(-1:Int),wrap64 (z0.1.1+1)]) fun z2=>some ((z2.1,z0.1.2),z2.2.1,z2.2.2) else if decide (z1.1=1)=true then Option.bind (Z3q k z1.2.1 z1.2.2 p0.1 (0:Int) [] z0.1.1 z0.1.2) fun z18=>some ((z18.2.2.2.2.2.1,z18.2.2.2.2.2.2),z18.1,z18.2.1) else if decide (z1.1=2)=true then if (1:Int)≤(↑(List.length z0.1.2):Int) then if (↑(List.length z0.1.2):Int)≤(↑(List.length z0.1.2):Int) then some ((z0.1.1,List.drop (Int.toNat (1:Int)) z0.1.2),z1.2.1,z1.2.2) else none else none else if decide (z1.1=3)=true then some (((5:Int),List.replicate (Int.toNat (32:Int)) (0:Int)),z1.2.1,z1.2.2) else some ((z0.1.1,z0.1.2),z1.2.1,z1.2.2)
noncomputable def Z2h:FnDef:= .of ZlJ Z4K ((Int×List Int)×Int×Int) (fun k x=>Zaw k x.1) Zk3 Zek Zr9
noncomputable def Zad:Code:=Tryz.f96.body.getD .skip
noncomputable def Z1c:Ctx (Tup Z4K×OutD):={T:=T,G:=[(117,Z3z.E),(116,Zq.E),(98,Zp.E)],mvs:=[34],no:=2,n:=41,res:=resOf T ZlJ Z4K Tryz.f96.results.toList,loops:=[],regs:=[(6,Z2M.E)],conds:=[],cuts:=[]}
theorem Zlv(k:Nat):EnvOK Tryz.prog k Z1c.G:=(EnvOK.cons (ZGv k) (EnvOK.cons (Z1I k) (EnvOK.cons (Z1T k) (EnvOK.nil mixed))))
noncomputable def Zbl:Array Oper:=(findReg 6 Zad).getD #[]
theorem Zrx(k:Nat)(x:Zhg.D):execD Z1c.T Z1c.G Z1c.mvs k Zbl (Z2M.inp.st Z1c.n x) (outK Z1c Z2M)=Z6U k x.1.2.1.2.1 x.1.2.1.2.2.1 x.1.2.2.1 x.1.2.2.2.1.1 x.1.2.2.2.2.1 x.1.2.2.2.2.2.1.1 x.1.2.2.2.2.2.2.1:=by kernel_rfl
theorem Zqd(k:Nat):EOK Tryz.prog Z1c k Z2M.E (.region 6 Zbl true):=Z4n (D:=Z2M) (m:=8) T_ok (Zlv k) (fun x=>(Zrx k x).trans (ZrA k x.1.2.1.2.1 x.1.2.1.2.2.1 x.1.2.2.1 x.1.2.2.2.1.1 x.1.2.2.2.2.1 x.1.2.2.2.2.2.1.1 x.1.2.2.2.2.2.2.1))
theorem Zz5(k:Nat)(x:Tup Z2h.ps):Z2h.f (k+1) x=fnK Z2h Z1c Zad k x:=by kernel_rfl
theorem Zyj(x:Tup Z2h.ps):Z2h.f 0 x=none:=by kernel_rfl
theorem ZzB(k:Nat):LOK Tryz.prog Z1c k Zad:=LOK.by [(Z2M.E,.region 6 Zbl true)] (by kernel_rfl) (AllOK.cons (Zqd k) AllOK.nil)
theorem Zzc(k:Nat):SoundAt Tryz.prog k 96 Z2h.E:= @Z5 Tryz.prog Z2h Z1c 96 Tryz.f96 Zad (by kernel_rfl) (by kernel_rfl) (by kernel_rfl) Tryz.func96 (by kernel_rfl) (by kernel_rfl) (by kernel_rfl) T_ok Zlv ZzB Zyj Zz5 k
noncomputable def ZP:List PK:=[PK.mk (.pair I6 (.pair I6 (.pair (.slice 76 P6) (.pair (.slice 3 I6) (.slice 3 I6))))) true none false none]
noncomputable def Zhr:List PK:=[PK.mk (.pair (.slice 5 (.int .u8)) (.pair I6 (.int .u64))) false none false (some 105)]
noncomputable def ZgQ(r:(Int×Int×List (Int×Int)×List Int×List Int)×Int×Int):Tup ZP×OutD:=((r.1,()),some ⟨Ty.pair (Ty.slice (5:Nat) (Ty.int .u8)) (Ty.pair (Ty.int .i64) (Ty.int .u64)),[([],r.2)]⟩)
noncomputable def Zb0:Tup ZP×OutD→Option ((Int×Int×List (Int×Int)×List Int×List Int)×Int×Int)
 |(a,some ⟨u,ys⟩)=>if h:u=Ty.pair (Ty.slice (5:Nat) (Ty.int .u8)) (Ty.pair (Ty.int .i64) (Ty.int .u64)) then (match castU h ys with
  |[([],y)]=>some (a.1,y)
  |_=>none) else none
 |_=>none
theorem Zne: ∀b r,Zb0 b=some r→ZgQ r=b:=by
 rintro ⟨a,o⟩ r h
 cases o with
 |none=>cases h
 |some s=>
  obtain ⟨u,ys⟩:=s
  simp only[Zb0]at h
  split at h
  ·rename_i hu
   subst hu
   match ys,h with
   |[],h=>cases (show (none:Option _)=some r from h)
   |[([],y)],h=>injection (show some _=some r from h) with h;subst h;rfl
   |[(_::_,y)],h=>cases (show (none:Option _)=some r from h)
   |(h1,_)::_::_,h=>cases h1<;>cases (show (none:Option _)=some r from h)
  ·cases h
noncomputable def Z1L:Nat→Int→Int→List Int→Int→Int→List (Int×Int)→List Int→List Int→Int→Int→List (Int×Int)→List Int→List Int→Option (Int×Int×List Int×Int×Int×List (Int×Int)×List Int×List Int×Int×Int×List (Int×Int)×List Int×List Int):=fun k b1_1 b1_2 o2 b3_0 b3_1 o4 o5 o6 b7_0 b7_1 o8 o9 o10=>
  Option.bind (Zb k (o2,b1_1,b1_2) [(-1:Int),b7_1]) fun z4=>if (0:Int)<(↑(List.length o9):Int) then some (z4.2.1,z4.2.2,o2,b3_0,b3_1,o4,o5,o6,b7_0,b7_1,o8,List.set o9 (Int.toNat (0:Int)) z4.1,o10) else none
noncomputable def Z4r:Nat→Int→Int→List Int→Int→Int→List (Int×Int)→List Int→List Int→Int→Int→List (Int×Int)→List Int→List Int→Option (List (Int×Int×List Int×Int×Int×List (Int×Int)×List Int×List Int×Int×Int×List (Int×Int)×List Int×List Int)):=fun k b1_1 b1_2 o2 b3_0 b3_1 o4 o5 o6 b7_0 b7_1 o8 o9 o10=>
  joinL (Option.bind (Zb k (o2,b1_1,b1_2) [(-1:Int),b7_1]) fun z5=>if (0:Int)<(↑(List.length o9):Int) then some [(z5.2.1,z5.2.2,o2,b3_0,b3_1,o4,o5,o6,b7_0,b7_1,o8,List.set o9 (Int.toNat (0:Int)) z5.1,o10)] else none) (joinL (Option.bind (Zb k (o2,b1_1,b1_2) [(-1:Int),b7_1]) fun z6=>if (0:Int)<(↑(List.length o9):Int) then some [(z6.2.1,z6.2.2,o2,b3_0,b3_1,o4,o5,o6,b7_0,b7_1,o8,List.set o9 (Int.toNat (0:Int)) z6.1,o10)] else none) (Option.bind (Zb k (o2,b1_1,b1_2) [(-1:Int),b7_1]) fun z7=>if (0:Int)<(↑(List.length o9):Int) then some [(z7.2.1,z7.2.2,o2,b3_0,b3_1,o4,o5,o6,b7_0,b7_1,o8,List.set o9 (Int.toNat (0:Int)) z7.1,o10)] else none))
noncomputable def Zds:Spec:=Spec.mk [.ro,O3,Oc,O9,O0,O1,O1,O8,O0,O1,O1] [(0,.at (.ptr 1 0)),(2,.at (.ptr 3 0)),(3,.at (.ptr 7 0))]
noncomputable def Zmy:Spec:=Spec.mk [.ro,O3,Oc,O9,O0,O1,O1,O8,O0,O1,O1] [(2,.at (.ptr 3 0)),(3,.at (.ptr 7 0))]
noncomputable def Z1u:LoopDef (Tup ZP×OutD):= .plain Zds Zmy (Int×Int×List Int×Int×Int×List (Int×Int)×List Int×List Int×Int×Int×List (Int×Int)×List Int×List Int) (fun k x=>Z1L k x.1.2.1.2.1 x.1.2.1.2.2.1 x.1.2.2.1 x.1.2.2.2.1.1 x.1.2.2.2.1.2.1 x.1.2.2.2.2.1 x.1.2.2.2.2.2.1 x.1.2.2.2.2.2.2.1 x.1.2.2.2.2.2.2.2.1.1 x.1.2.2.2.2.2.2.2.1.2.1 x.1.2.2.2.2.2.2.2.2.1 x.1.2.2.2.2.2.2.2.2.2.1 x.1.2.2.2.2.2.2.2.2.2.2.1) (fun z=>(((),((),z.1,z.2.1,()),z.2.2.1,(z.2.2.2.1,z.2.2.2.2.1,(),(),(),()),z.2.2.2.2.2.1,z.2.2.2.2.2.2.1,z.2.2.2.2.2.2.2.1,(z.2.2.2.2.2.2.2.2.1,z.2.2.2.2.2.2.2.2.2.1,(),(),(),()),z.2.2.2.2.2.2.2.2.2.2.1,z.2.2.2.2.2.2.2.2.2.2.2.1,z.2.2.2.2.2.2.2.2.2.2.2.2,()),((),(),()))) (fun y=>(y.1.2.1.2.1,y.1.2.1.2.2.1,y.1.2.2.1,y.1.2.2.2.1.1,y.1.2.2.2.1.2.1,y.1.2.2.2.2.1,y.1.2.2.2.2.2.1,y.1.2.2.2.2.2.2.1,y.1.2.2.2.2.2.2.2.1.1,y.1.2.2.2.2.2.2.2.1.2.1,y.1.2.2.2.2.2.2.2.2.1,y.1.2.2.2.2.2.2.2.2.2.1,y.1.2.2.2.2.2.2.2.2.2.2.1)) (fun _=>rfl)
theorem Zmz(k:Nat)(b1_1:Int)(b1_2:Int)(o2:List Int)(b3_0:Int)(b3_1:Int)(o4:List (Int×Int))(o5:List Int)(o6:List Int)(b7_0:Int)(b7_1:Int)(o8:List (Int×Int))(o9:List Int)(o10:List Int):Z4r k b1_1 b1_2 o2 b3_0 b3_1 o4 o5 o6 b7_0 b7_1 o8 o9 o10=repl 3 (Z1L k b1_1 b1_2 o2 b3_0 b3_1 o4 o5 o6 b7_0 b7_1 o8 o9 o10):=by
 first
 |(simp only[Z4r,Z1L,Z7,Zc,Z8,Z9,Z6,Z3,if_true];done)
 |(simp only[Z4r,Z1L,Z7,Zc,Z8,Z9,Z6,Z3,if_true];simp only[Z1g,Z1i,Z2p,Z3];simp only[Z3E];exact Z1H ⟨fun h=>by simp only[h,and_self],fun h=>by simp only[h,and_self]⟩)
noncomputable def Z1K:Nat→Int→Int→List Int→Int→Int→List (Int×Int)→List Int→List Int→Int→Int→List (Int×Int)→List Int→List Int→Option (Int×Int×List Int×Int×Int×List (Int×Int)×List Int×List Int×Int×Int×List (Int×Int)×List Int×List Int):=fun k b1_1 b1_2 o2 b3_0 b3_1 o4 o5 o6 b7_0 b7_1 o8 o9 o10=>
  Option.bind (Zb k (o2,b1_1,b1_2) [(-1:Int),wrap64 (b7_1+2)]) fun z9=>if (0:Int)<(↑(List.length o10):Int) then some (z9.2.1,z9.2.2,o2,b3_0,b3_1,o4,o5,o6,b7_0,b7_1,o8,o9,List.set o10 (Int.toNat (0:Int)) z9.1) else none
noncomputable def Z4q:Nat→Int→Int→List Int→Int→Int→List (Int×Int)→List Int→List Int→Int→Int→List (Int×Int)→List Int→List Int→Option (List (Int×Int×List Int×Int×Int×List (Int×Int)×List Int×List Int×Int×Int×List (Int×Int)×List Int×List Int)):=fun k b1_1 b1_2 o2 b3_0 b3_1 o4 o5 o6 b7_0 b7_1 o8 o9 o10=>
  joinL (Option.bind (Zb k (o2,b1_1,b1_2) [(-1:Int),wrap64 (b7_1+2)]) fun z10=>if (0:Int)<(↑(List.length o10):Int) then some [(z10.2.1,z10.2.2,o2,b3_0,b3_1,o4,o5,o6,b7_0,b7_1,o8,o9,List.set o10 (Int.toNat (0:Int)) z10.1)] else none) (joinL (Option.bind (Zb k (o2,b1_1,b1_2) [(-1:Int),wrap64 (b7_1+2)]) fun z11=>if (0:Int)<(↑(List.length o10):Int) then some [(z11.2.1,z11.2.2,o2,b3_0,b3_1,o4,o5,o6,b7_0,b7_1,o8,o9,List.set o10 (Int.toNat (0:Int)) z11.1)] else none) (Option.bind (Zb k (o2,b1_1,b1_2) [(-1:Int),wrap64 (b7_1+2)]) fun z12=>if (0:Int)<(↑(List.length o10):Int) then some [(z12.2.1,z12.2.2,o2,b3_0,b3_1,o4,o5,o6,b7_0,b7_1,o8,o9,List.set o10 (Int.toNat (0:Int)) z12.1)] else none))
noncomputable def Zdr:Spec:=Spec.mk [.ro,O3,Oc,O9,O0,O1,O1,O8,O0,O1,O1] [(0,.at (.ptr 1 0)),(2,.at (.ptr 3 0)),(3,.at (.ptr 7 0))]
noncomputable def ZmL:Spec:=Spec.mk [.ro,O3,Oc,O9,O0,O1,O1,O8,O0,O1,O1] [(2,.at (.ptr 3 0)),(3,.at (.ptr 7 0))]
noncomputable def Z1A:LoopDef (Tup ZP×OutD):= .plain Zdr ZmL (Int×Int×List Int×Int×Int×List (Int×Int)×List Int×List Int×Int×Int×List (Int×Int)×List Int×List Int) (fun k x=>Z1K k x.1.2.1.2.1 x.1.2.1.2.2.1 x.1.2.2.1 x.1.2.2.2.1.1 x.1.2.2.2.1.2.1 x.1.2.2.2.2.1 x.1.2.2.2.2.2.1 x.1.2.2.2.2.2.2.1 x.1.2.2.2.2.2.2.2.1.1 x.1.2.2.2.2.2.2.2.1.2.1 x.1.2.2.2.2.2.2.2.2.1 x.1.2.2.2.2.2.2.2.2.2.1 x.1.2.2.2.2.2.2.2.2.2.2.1) (fun z=>(((),((),z.1,z.2.1,()),z.2.2.1,(z.2.2.2.1,z.2.2.2.2.1,(),(),(),()),z.2.2.2.2.2.1,z.2.2.2.2.2.2.1,z.2.2.2.2.2.2.2.1,(z.2.2.2.2.2.2.2.2.1,z.2.2.2.2.2.2.2.2.2.1,(),(),(),()),z.2.2.2.2.2.2.2.2.2.2.1,z.2.2.2.2.2.2.2.2.2.2.2.1,z.2.2.2.2.2.2.2.2.2.2.2.2,()),((),(),()))) (fun y=>(y.1.2.1.2.1,y.1.2.1.2.2.1,y.1.2.2.1,y.1.2.2.2.1.1,y.1.2.2.2.1.2.1,y.1.2.2.2.2.1,y.1.2.2.2.2.2.1,y.1.2.2.2.2.2.2.1,y.1.2.2.2.2.2.2.2.1.1,y.1.2.2.2.2.2.2.2.1.2.1,y.1.2.2.2.2.2.2.2.2.1,y.1.2.2.2.2.2.2.2.2.2.1,y.1.2.2.2.2.2.2.2.2.2.2.1)) (fun _=>rfl)
theorem Zm3(k:Nat)(b1_1:Int)(b1_2:Int)(o2:List Int)(b3_0:Int)(b3_1:Int)(o4:List (Int×Int))(o5:List Int)(o6:List Int)(b7_0:Int)(b7_1:Int)(o8:List (Int×Int))(o9:List Int)(o10:List Int):Z4q k b1_1 b1_2 o2 b3_0 b3_1 o4 o5 o6 b7_0 b7_1 o8 o9 o10=repl 3 (Z1K k b1_1 b1_2 o2 b3_0 b3_1 o4 o5 o6 b7_0 b7_1 o8 o9 o10):=by
 first
 |(simp only[Z4q,Z1K,Z7,Zc,Z8,Z9,Z6,Z3,if_true];done)
 |(simp only[Z4q,Z1K,Z7,Zc,Z8,Z9,Z6,Z3,if_true];simp only[Z1g,Z1i,Z2p,Z3];simp only[Z3E];exact Z1H ⟨fun h=>by simp only[h,and_self],fun h=>by simp only[h,and_self]⟩)
noncomputable def Z2a:Nat→Int→Int→List Int→Int→Int→List (Int×Int)→List Int→List Int→Int→Int→List (Int×Int)→List Int→List Int→Int→Option (Int×Int×List Int×Int×Int×List (Int×Int)×List Int×List Int×Int×Int×List (Int×Int)×List Int×List Int)
 |0,_,_,_,_,_,_,_,_,_,_,_,_,_,_=>none
 |k+1,b1_1,b1_2,o2,b3_0,b3_1,o4,o5,o6,b7_0,b7_1,o8,o9,o10,v4=>
  if decide ((↑(List.length o9):Int)<v4)=true then if List.length o9+List.length [(0:Int)]≤(140737488355328/8:Nat) then if List.length o10+List.length [(0:Int)]≤(140737488355328/8:Nat) then Z2a k b1_1 b1_2 o2 b3_0 b3_1 o4 o5 o6 b7_0 b7_1 o8 (o9++[(0:Int)]) (o10++[(0:Int)]) v4 else none else none else some (b1_1,b1_2,o2,b3_0,b3_1,o4,o5,o6,b7_0,b7_1,o8,o9,o10)
noncomputable def Z9j:Spec:=Spec.mk [.ro,O3,Oc,O9,O0,O1,O1,O8,O0,O1,O1] [(2,.at (.ptr 3 0)),(3,.at (.ptr 7 0)),(4,.at (.int .i64))]
noncomputable def ZoF:Spec:=Spec.mk [.ro,O3,Oc,O9,O0,O1,O1,O8,O0,O1,O1] [(2,.at (.ptr 3 0)),(3,.at (.ptr 7 0))]
noncomputable def Z1Y:LoopDef (Tup ZP×OutD):= .plain Z9j ZoF (Int×Int×List Int×Int×Int×List (Int×Int)×List Int×List Int×Int×Int×List (Int×Int)×List Int×List Int) (fun k x=>Z2a k x.1.2.1.2.1 x.1.2.1.2.2.1 x.1.2.2.1 x.1.2.2.2.1.1 x.1.2.2.2.1.2.1 x.1.2.2.2.2.1 x.1.2.2.2.2.2.1 x.1.2.2.2.2.2.2.1 x.1.2.2.2.2.2.2.2.1.1 x.1.2.2.2.2.2.2.2.1.2.1 x.1.2.2.2.2.2.2.2.2.1 x.1.2.2.2.2.2.2.2.2.2.1 x.1.2.2.2.2.2.2.2.2.2.2.1 x.2.2.2.1) (fun z=>(((),((),z.1,z.2.1,()),z.2.2.1,(z.2.2.2.1,z.2.2.2.2.1,(),(),(),()),z.2.2.2.2.2.1,z.2.2.2.2.2.2.1,z.2.2.2.2.2.2.2.1,(z.2.2.2.2.2.2.2.2.1,z.2.2.2.2.2.2.2.2.2.1,(),(),(),()),z.2.2.2.2.2.2.2.2.2.2.1,z.2.2.2.2.2.2.2.2.2.2.2.1,z.2.2.2.2.2.2.2.2.2.2.2.2,()),((),(),()))) (fun y=>(y.1.2.1.2.1,y.1.2.1.2.2.1,y.1.2.2.1,y.1.2.2.2.1.1,y.1.2.2.2.1.2.1,y.1.2.2.2.2.1,y.1.2.2.2.2.2.1,y.1.2.2.2.2.2.2.1,y.1.2.2.2.2.2.2.2.1.1,y.1.2.2.2.2.2.2.2.1.2.1,y.1.2.2.2.2.2.2.2.2.1,y.1.2.2.2.2.2.2.2.2.2.1,y.1.2.2.2.2.2.2.2.2.2.2.1)) (fun _=>rfl)
noncomputable def Z2e:Nat→Int→Int→List Int→Int→Int→List (Int×Int)→List Int→List Int→Int→Int→List (Int×Int)→List Int→List Int→Int→Option (Int×Int×List Int×Int×Int×List (Int×Int)×List Int×List Int×Int×Int×List (Int×Int)×List Int×List Int)
 |0,_,_,_,_,_,_,_,_,_,_,_,_,_,_=>none
 |k+1,b1_1,b1_2,o2,b3_0,b3_1,o4,o5,o6,b7_0,b7_1,o8,o9,o10,v5=>
  if decide ((↑(List.length o8):Int)<v5)=true then Option.bind (Zcb k) fun z17=>if (0:Int)≤addS (1:Int) (↑(List.length o8):Int) then if addS (1:Int) (↑(List.length o8):Int)<(↑(List.length z17):Int) then if List.length o8+List.length [(Prod.fst (List.getD z17 (Int.toNat (addS (1:Int) (↑(List.length o8):Int))) ((0:Int),(0:Int))),Prod.snd (List.getD z17 (Int.toNat (addS (1:Int) (↑(List.length o8):Int))) ((0:Int),(0:Int))))]≤(140737488355328/16:Nat) then Z2e k b1_1 b1_2 o2 b3_0 b3_1 o4 o5 o6 b7_0 b7_1 (o8++[(Prod.fst (List.getD z17 (Int.toNat (addS (1:Int) (↑(List.length o8):Int))) ((0:Int),(0:Int))),Prod.snd (List.getD z17 (Int.toNat (addS (1:Int) (↑(List.length o8):Int))) ((0:Int),(0:Int))))]) o9 o10 v5 else none else none else none else some (b1_1,b1_2,o2,b3_0,b3_1,o4,o5,o6,b7_0,b7_1,o8,o9,o10)
noncomputable def Z8H:Spec:=Spec.mk [.ro,O3,Oc,O9,O0,O1,O1,O8,O0,O1,O1] [(2,.at (.ptr 3 0)),(3,.at (.ptr 7 0)),(5,.at (.int .i64))]
noncomputable def ZnY:Spec:=Spec.mk [.ro,O3,Oc,O9,O0,O1,O1,O8,O0,O1,O1] [(2,.at (.ptr 3 0)),(3,.at (.ptr 7 0))]
noncomputable def Z1Z:LoopDef (Tup ZP×OutD):= .plain Z8H ZnY (Int×Int×List Int×Int×Int×List (Int×Int)×List Int×List Int×Int×Int×List (Int×Int)×List Int×List Int) (fun k x=>Z2e k x.1.2.1.2.1 x.1.2.1.2.2.1 x.1.2.2.1 x.1.2.2.2.1.1 x.1.2.2.2.1.2.1 x.1.2.2.2.2.1 x.1.2.2.2.2.2.1 x.1.2.2.2.2.2.2.1 x.1.2.2.2.2.2.2.2.1.1 x.1.2.2.2.2.2.2.2.1.2.1 x.1.2.2.2.2.2.2.2.2.1 x.1.2.2.2.2.2.2.2.2.2.1 x.1.2.2.2.2.2.2.2.2.2.2.1 x.2.2.2.1) (fun z=>(((),((),z.1,z.2.1,()),z.2.2.1,(z.2.2.2.1,z.2.2.2.2.1,(),(),(),()),z.2.2.2.2.2.1,z.2.2.2.2.2.2.1,z.2.2.2.2.2.2.2.1,(z.2.2.2.2.2.2.2.2.1,z.2.2.2.2.2.2.2.2.2.1,(),(),(),()),z.2.2.2.2.2.2.2.2.2.2.1,z.2.2.2.2.2.2.2.2.2.2.2.1,z.2.2.2.2.2.2.2.2.2.2.2.2,()),((),(),()))) (fun y=>(y.1.2.1.2.1,y.1.2.1.2.2.1,y.1.2.2.1,y.1.2.2.2.1.1,y.1.2.2.2.1.2.1,y.1.2.2.2.2.1,y.1.2.2.2.2.2.1,y.1.2.2.2.2.2.2.1,y.1.2.2.2.2.2.2.2.1.1,y.1.2.2.2.2.2.2.2.1.2.1,y.1.2.2.2.2.2.2.2.2.1,y.1.2.2.2.2.2.2.2.2.2.1,y.1.2.2.2.2.2.2.2.2.2.2.1)) (fun _=>rfl)
noncomputable def Z6T:Nat→List Int×Int×Int→Option ((Int×Int×List (Int×Int)×List Int×List Int)×Int×Int)
 |0,_=>none
 |k+1,p0=>
  Option.bind (Z9w k (p0.1,p0.2.1,p0.2.2)) fun z0=>Option.bind (Z1 k (p0.1,z0.2.1,z0.2.2) (36:Int)) fun z1=>if decide (z1.1=0)=true then Option.bind (Zb k (p0.1,z1.2.1,z1.2.2) [(0:Int),(4:Int),(5:Int)]) fun z2=>some ((z2.1,z0.1.2.1,z0.1.2.2.1,z0.1.2.2.2.1,z0.1.2.2.2.2),z2.2.1,z2.2.2) else if decide (z1.1=1)=true then Option.bind (Zb k (p0.1,z1.2.1,z1.2.2) [(0:Int),(4:Int),(5:Int)]) fun z3=>some ((z0.1.1,z3.1,z0.1.2.2.1,z0.1.2.2.2.1,z0.1.2.2.2.2),z3.2.1,z3.2.2) else if decide (z1.1=2)=true then if (0:Int)<(↑(List.length z0.1.2.2.1):Int) then if List.length z0.1.2.2.1+List.length [(Prod.fst (List.getD z0.1.2.2.1 (Int.toNat (0:Int)) ((0:Int),(0:Int))),Prod.snd (List.getD z0.1.2.2.1 (Int.toNat (0:Int)) ((0:Int),(0:Int))))]≤(140737488355328/16:Nat) then some ((z0.1.1,z0.1.2.1,z0.1.2.2.1++[(Prod.fst (List.getD z0.1.2.2.1 (Int.toNat (0:Int)) ((0:Int),(0:Int))),Prod.snd (List.getD z0.1.2.2.1 (Int.toNat (0:Int)) ((0:Int),(0:Int))))],z0.1.2.2.2.1,z0.1.2.2.2.2),z1.2.1,z1.2.2) else none else none else if decide (z1.1=3)=true then if List.length z0.1.2.2.1+List.length [((0:Int),(0:Int))]≤(140737488355328/16:Nat) then some ((z0.1.1,z0.1.2.1,z0.1.2.2.1++[((0:Int),(0:Int))],z0.1.2.2.2.1,z0.1.2.2.2.2),z1.2.1,z1.2.2) else none else if decide (z1.1=4)=true then some ((z0.1.1,z0.1.2.1,[],z0.1.2.2.2.1,z0.1.2.2.2.2),z1.2.1,z1.2.2) else if decide (z1.1=5)=true then Option.bind (Z1L k z1.2.1 z1.2.2 p0.1 (0:Int) (0:Int) [] [] [] z0.1.1 z0.1.2.1 z0.1.2.2.1 z0.1.2.2.2.1 z0.1.2.2.2.2) fun z8=>some ((z8.2.2.2.2.2.2.2.2.1,z8.2.2.2.2.2.2.2.2.2.1,z8.2.2.2.2.2.2.2.2.2.2.1,z8.2.2.2.2.2.2.2.2.2.2.2.1,z8.2.2.2.2.2.2.2.2.2.2.2.2),z8.1,z8.2.1) else if decide (z1.1=6)=true then Option.bind (Z1K k z1.2.1 z1.2.2 p0.1 (0:Int) (0:Int) [] [] [] z0.1.1 z0.1.2.1 z0.1.2.2.1 z0.1.2.2.2.1 z0.1.2.2.2.2) fun z13=>some ((z13.2.2.2.2.2.2.2.2.1,z13.2.2.2.2.2.2.2.2.2.1,z13.2.2.2.2.2.2.2.2.2.2.1,z13.2.2.2.2.2.2.2.2.2.2.2.1,z13.2.2.2.2.2.2.2.2.2.2.2.2),z13.1,z13.2.1) else if decide (z1.1=7)=true then Option.bind (Z1 k (p0.1,z1.2.1,z1.2.2) (2:Int)) fun z14=>Option.bind (Z2a k z14.2.1 z14.2.2 p0.1 (0:Int) (0:Int) [] [] [] z0.1.1 z0.1.2.1 z0.1.2.2.1 z0.1.2.2.2.1 z0.1.2.2.2.2 (wrap64 ((8:Int)+z14.1))) fun z15=>some ((z15.2.2.2.2.2.2.2.2.1,z15.2.2.2.2.2.2.2.2.2.1,z15.2.2.2.2.2.2.2.2.2.2.1,z15.2.2.2.2.2.2.2.2.2.2.2.1,z15.2.2.2.2.2.2.2.2.2.2.2.2),z15.1,z15.2.1) else if decide (z1.1=8)=true then Option.bind (Z1 k (p0.1,z1.2.1,z1.2.2) (2:Int)) fun z16=>Option.bind (Z2e k z16.2.1 z16.2.2 p0.1 (0:Int) (0:Int) [] [] [] (1:Int) (1:Int) [] [(0:Int)] [(0:Int)] (wrap64 ((6:Int)+z16.1))) fun z18=>some ((z18.2.2.2.2.2.2.2.2.1,z18.2.2.2.2.2.2.2.2.2.1,z18.2.2.2.2.2.2.2.2.2.2.1,z18.2.2.2.2.2.2.2.2.2.2.2.1,z18.2.2.2.2.2.2.2.2.2.2.2.2),z18.1,z18.2.1) else if decide (z1.1=9)=true then Option.bind (ZK k (p0.1,z1.2.1,z1.2.2) (2:Int)) fun z19=>if z19.1=true then some (((2:Int),(4:Int),[((3:Int),(0:Int)),((2:Int),(0:Int))]++[((1:Int),(0:Int))],[(0:Int),(1:Int)],[(1:Int),(1:Int)]),z19.2.1,z19.2.2) else some (((2:Int),(4:Int),[((3:Int),(0:Int)),((2:Int),(0:Int))],[(0:Int),(1:Int)],[(1:Int),(1:Int)]),z19.2.1,z19.2.2) else some ((z0.1.1,z0.1.2.1,z0.1.2.2.1,z0.1.2.2.2.1,z0.1.2.2.2.2),z1.2.1,z1.2.2)
noncomputable def Z1j:FnDef:= .of Zhr ZP ((Int×Int×List (Int×Int)×List Int×List Int)×Int×Int) (fun k x=>Z6T k x.1) ZgQ Zb0 Zne
noncomputable def Z1O:Code:=Tryz.f99.body.getD .skip
noncomputable def Zf:Ctx (Tup ZP×OutD):={T:=T,G:=[(119,Z1Q.E),(116,Zq.E),(98,Zp.E),(120,Z7g.E),(95,ZZ.E)],mvs:=[200104],no:=2,n:=127,res:=resOf T Zhr ZP Tryz.f99.results.toList,loops:=[(1,Z1Y.E),(3,Z1Z.E)],regs:=[(14,Z1u.E),(16,Z1A.E)],conds:=[],cuts:=[]}
theorem Z4o(k:Nat):EnvOK Tryz.prog k Zf.G:=(EnvOK.cons (Zxl k) (EnvOK.cons (Z1I k) (EnvOK.cons (Z1T k) (EnvOK.cons (ZFG k) (EnvOK.cons (Z6n k) (EnvOK.nil mixed))))))
noncomputable def Z7l:Array Oper:=(findReg 14 Z1O).getD #[]
theorem Zmg(k:Nat)(x:Zds.D):execD Zf.T Zf.G Zf.mvs k Z7l (Z1u.inp.st Zf.n x) (outK Zf Z1u)=Z4r k x.1.2.1.2.1 x.1.2.1.2.2.1 x.1.2.2.1 x.1.2.2.2.1.1 x.1.2.2.2.1.2.1 x.1.2.2.2.2.1 x.1.2.2.2.2.2.1 x.1.2.2.2.2.2.2.1 x.1.2.2.2.2.2.2.2.1.1 x.1.2.2.2.2.2.2.2.1.2.1 x.1.2.2.2.2.2.2.2.2.1 x.1.2.2.2.2.2.2.2.2.2.1 x.1.2.2.2.2.2.2.2.2.2.2.1:=by kernel_rfl
theorem ZlN(k:Nat):EOK Tryz.prog Zf k Z1u.E (.region 14 Z7l true):=Z4n (D:=Z1u) (m:=3) T_ok (Z4o k) (fun x=>(Zmg k x).trans (Zmz k x.1.2.1.2.1 x.1.2.1.2.2.1 x.1.2.2.1 x.1.2.2.2.1.1 x.1.2.2.2.1.2.1 x.1.2.2.2.2.1 x.1.2.2.2.2.2.1 x.1.2.2.2.2.2.2.1 x.1.2.2.2.2.2.2.2.1.1 x.1.2.2.2.2.2.2.2.1.2.1 x.1.2.2.2.2.2.2.2.2.1 x.1.2.2.2.2.2.2.2.2.2.1 x.1.2.2.2.2.2.2.2.2.2.2.1))
noncomputable def Z7f:Array Oper:=(findReg 16 Z1O).getD #[]
theorem Zn8(k:Nat)(x:Zdr.D):execD Zf.T Zf.G Zf.mvs k Z7f (Z1A.inp.st Zf.n x) (outK Zf Z1A)=Z4q k x.1.2.1.2.1 x.1.2.1.2.2.1 x.1.2.2.1 x.1.2.2.2.1.1 x.1.2.2.2.1.2.1 x.1.2.2.2.2.1 x.1.2.2.2.2.2.1 x.1.2.2.2.2.2.2.1 x.1.2.2.2.2.2.2.2.1.1 x.1.2.2.2.2.2.2.2.1.2.1 x.1.2.2.2.2.2.2.2.2.1 x.1.2.2.2.2.2.2.2.2.2.1 x.1.2.2.2.2.2.2.2.2.2.2.1:=by kernel_rfl
theorem ZlO(k:Nat):EOK Tryz.prog Zf k Z1A.E (.region 16 Z7f true):=Z4n (D:=Z1A) (m:=3) T_ok (Z4o k) (fun x=>(Zn8 k x).trans (Zm3 k x.1.2.1.2.1 x.1.2.1.2.2.1 x.1.2.2.1 x.1.2.2.2.1.1 x.1.2.2.2.1.2.1 x.1.2.2.2.2.1 x.1.2.2.2.2.2.1 x.1.2.2.2.2.2.2.1 x.1.2.2.2.2.2.2.2.1.1 x.1.2.2.2.2.2.2.2.1.2.1 x.1.2.2.2.2.2.2.2.2.1 x.1.2.2.2.2.2.2.2.2.2.1 x.1.2.2.2.2.2.2.2.2.2.2.1))
noncomputable def Z52:Code:=(findLoop 1 Z1O).getD .skip
theorem ZoC(k:Nat)(x:Z9j.D):Z1Y.lp (k+1) x=loopK Zf Z1Y 1 Z52 k x:=by kernel_rfl
theorem Zop(k:Nat):LOK Tryz.prog Zf k Z52:=LOK.by [] (by kernel_rfl) AllOK.nil
theorem Zoz(x:Z9j.D):Z1Y.lp 0 x=none:=by kernel_rfl
theorem Zng(k:Nat):EOK Tryz.prog Zf k Z1Y.E (.block 1 (.loop Z52)):=Zd T_ok Z4o Zoz ZoC Zop k
noncomputable def Z5n:Code:=(findLoop 3 Z1O).getD .skip
theorem Zou(k:Nat)(x:Z8H.D):Z1Z.lp (k+1) x=loopK Zf Z1Z 3 Z5n k x:=by kernel_rfl
theorem ZoG(k:Nat):LOK Tryz.prog Zf k Z5n:=LOK.by [] (by kernel_rfl) AllOK.nil
theorem Zob(x:Z8H.D):Z1Z.lp 0 x=none:=by kernel_rfl
theorem Znf(k:Nat):EOK Tryz.prog Zf k Z1Z.E (.block 3 (.loop Z5n)):=Zd T_ok Z4o Zob Zou ZoG k
theorem Zrh(k:Nat)(x:Tup Z1j.ps):Z1j.f (k+1) x=fnK Z1j Zf Z1O k x:=by kernel_rfl
theorem Zrp(x:Tup Z1j.ps):Z1j.f 0 x=none:=by kernel_rfl
theorem Zr7(k:Nat):LOK Tryz.prog Zf k Z1O:=LOK.by [(Z1u.E,.region 14 Z7l true),(Z1A.E,.region 16 Z7f true),(Z1Y.E,.block 1 (.loop Z52)),(Z1Z.E,.block 3 (.loop Z5n))] (by kernel_rfl) (AllOK.cons (ZlN k) (AllOK.cons (ZlO k) (AllOK.cons (Zng k) (AllOK.cons (Znf k) AllOK.nil))))
theorem Zrt(k:Nat):SoundAt Tryz.prog k 99 Z1j.E:= @Z5 Tryz.prog Z1j Zf 99 Tryz.f99 Z1O (by kernel_rfl) (by kernel_rfl) (by kernel_rfl) Tryz.func99 (by kernel_rfl) (by kernel_rfl) (by kernel_rfl) T_ok Z4o Zr7 Zrp Zrh k
noncomputable def Z4G:List PK:=[PK.mk (.pair I6 (.pair I6 (.slice 76 P6))) true none false none]
noncomputable def ZlD:List PK:=[PK.mk (.pair (.slice 5 (.int .u8)) (.pair I6 (.int .u64))) false none false (some 105)]
noncomputable def Zkb(r:(Int×Int×List (Int×Int))×Int×Int):Tup Z4G×OutD:=((r.1,()),some ⟨Ty.pair (Ty.slice (5:Nat) (Ty.int .u8)) (Ty.pair (Ty.int .i64) (Ty.int .u64)),[([],r.2)]⟩)
noncomputable def Zeb:Tup Z4G×OutD→Option ((Int×Int×List (Int×Int))×Int×Int)
 |(a,some ⟨u,ys⟩)=>if h:u=Ty.pair (Ty.slice (5:Nat) (Ty.int .u8)) (Ty.pair (Ty.int .i64) (Ty.int .u64)) then (match castU h ys with
  |[([],y)]=>some (a.1,y)
  |_=>none) else none
 |_=>none
theorem Zre: ∀b r,Zeb b=some r→Zkb r=b:=by
 rintro ⟨a,o⟩ r h
 cases o with
 |none=>cases h
 |some s=>
  obtain ⟨u,ys⟩:=s
  simp only[Zeb]at h
  split at h
  ·rename_i hu
   subst hu
   match ys,h with
   |[],h=>cases (show (none:Option _)=some r from h)
   |[([],y)],h=>injection (show some _=some r from h) with h;subst h;rfl
   |[(_::_,y)],h=>cases (show (none:Option _)=some r from h)
   |(h1,_)::_::_,h=>cases h1<;>cases (show (none:Option _)=some r from h)
  ·cases h
noncomputable def Z21:Nat→Int→Int→List Int→Int→Int→List (Int×Int)→Int→Int→List (Int×Int)→Option (Int×Int×List Int×Int×Int×List (Int×Int)×Int×Int×List (Int×Int)):=fun k b1_1 b1_2 o2 b3_0 b3_1 o4 b5_0 b5_1 o6=>
  Option.bind (Z1 k (o2,b1_1,b1_2) (↑(List.length o6):Int)) fun z4=>Option.bind (Z1M k (o2,z4.2.1,z4.2.2)) fun z5=>if (0:Int)≤z4.1 then if z4.1<(↑(List.length o6):Int) then some (z5.2.1,z5.2.2,o2,b3_0,b3_1,o4,b5_0,b5_1,List.set o6 (Int.toNat z4.1) (z5.1.1,z5.1.2)) else none else none
noncomputable def Z6W:Nat→Int→Int→List Int→Int→Int→List (Int×Int)→Int→Int→List (Int×Int)→Option (List (Int×Int×List Int×Int×Int×List (Int×Int)×Int×Int×List (Int×Int))):=fun k b1_1 b1_2 o2 b3_0 b3_1 o4 b5_0 b5_1 o6=>
  joinL (Option.bind (Z1 k (o2,b1_1,b1_2) (↑(List.length o6):Int)) fun z6=>Option.bind (Z1M k (o2,z6.2.1,z6.2.2)) fun z7=>if (0:Int)≤z6.1 then if z6.1<(↑(List.length o6):Int) then some [(z7.2.1,z7.2.2,o2,b3_0,b3_1,o4,b5_0,b5_1,List.set o6 (Int.toNat z6.1) (z7.1.1,z7.1.2))] else none else none) (Option.bind (Z1 k (o2,b1_1,b1_2) (↑(List.length o6):Int)) fun z8=>joinL (Option.bind (Z1M k (o2,z8.2.1,z8.2.2)) fun z9=>if (0:Int)≤z8.1 then if z8.1<(↑(List.length o6):Int) then some [(z9.2.1,z9.2.2,o2,b3_0,b3_1,o4,b5_0,b5_1,List.set o6 (Int.toNat z8.1) (z9.1.1,z9.1.2))] else none else none) (Option.bind (Z1M k (o2,z8.2.1,z8.2.2)) fun z10=>if (0:Int)≤z8.1 then if z8.1<(↑(List.length o6):Int) then some [(z10.2.1,z10.2.2,o2,b3_0,b3_1,o4,b5_0,b5_1,List.set o6 (Int.toNat z8.1) (z10.1.1,z10.1.2))] else none else none))
noncomputable def Zhk:Spec:=Spec.mk [.ro,O3,Oc,O6,O0,O7,O0] [(0,.at (.ptr 1 0)),(2,.at (.ptr 3 0)),(3,.at (.ptr 5 0))]
noncomputable def Zrv:Spec:=Spec.mk [.ro,O3,Oc,O6,O0,O7,O0] [(2,.at (.ptr 3 0)),(3,.at (.ptr 5 0))]
noncomputable def Z2L:LoopDef (Tup Z4G×OutD):= .plain Zhk Zrv (Int×Int×List Int×Int×Int×List (Int×Int)×Int×Int×List (Int×Int)) (fun k x=>Z21 k x.1.2.1.2.1 x.1.2.1.2.2.1 x.1.2.2.1 x.1.2.2.2.1.1 x.1.2.2.2.1.2.1 x.1.2.2.2.2.1 x.1.2.2.2.2.2.1.1 x.1.2.2.2.2.2.1.2.1 x.1.2.2.2.2.2.2.1) (fun z=>(((),((),z.1,z.2.1,()),z.2.2.1,(z.2.2.2.1,z.2.2.2.2.1,(),()),z.2.2.2.2.2.1,(z.2.2.2.2.2.2.1,z.2.2.2.2.2.2.2.1,(),()),z.2.2.2.2.2.2.2.2,()),((),(),()))) (fun y=>(y.1.2.1.2.1,y.1.2.1.2.2.1,y.1.2.2.1,y.1.2.2.2.1.1,y.1.2.2.2.1.2.1,y.1.2.2.2.2.1,y.1.2.2.2.2.2.1.1,y.1.2.2.2.2.2.1.2.1,y.1.2.2.2.2.2.2.1)) (fun _=>rfl)
theorem ZrB(k:Nat)(b1_1:Int)(b1_2:Int)(o2:List Int)(b3_0:Int)(b3_1:Int)(o4:List (Int×Int))(b5_0:Int)(b5_1:Int)(o6:List (Int×Int)):Z6W k b1_1 b1_2 o2 b3_0 b3_1 o4 b5_0 b5_1 o6=repl 3 (Z21 k b1_1 b1_2 o2 b3_0 b3_1 o4 b5_0 b5_1 o6):=by
 first
 |(simp only[Z6W,Z21,Z7,Zc,Z8,Z9,Z6,Z3,if_true];done)
 |(simp only[Z6W,Z21,Z7,Zc,Z8,Z9,Z6,Z3,if_true];simp only[Z1g,Z1i,Z2p,Z3];simp only[Z3E];exact Z1H ⟨fun h=>by simp only[h,and_self],fun h=>by simp only[h,and_self]⟩)
noncomputable def ZO:Nat→List Int×Int×Int→Option ((Int×Int×List (Int×Int))×Int×Int)
 |0,_=>none
 |k+1,p0=>
  Option.bind (Za7 k (p0.1,p0.2.1,p0.2.2)) fun z0=>Option.bind (Z1 k (p0.1,z0.2.1,z0.2.2) (36:Int)) fun z1=>if decide (z1.1=0)=true then Option.bind (Zb k (p0.1,z1.2.1,z1.2.2) [(0:Int),wrap64 (z0.1.1+1),(10:Int),(11:Int)]) fun z2=>some ((z2.1,z0.1.2.1,z0.1.2.2),z2.2.1,z2.2.2) else if decide (z1.1=1)=true then Option.bind (Zb k (p0.1,z1.2.1,z1.2.2) [(0:Int),wrap64 (z0.1.2.1+1),(9:Int),(10:Int)]) fun z3=>some ((z0.1.1,z3.1,z0.1.2.2),z3.2.1,z3.2.2) else if decide (z1.1=2)=true then Option.bind (Z21 k z1.2.1 z1.2.2 p0.1 (0:Int) (0:Int) [] z0.1.1 z0.1.2.1 z0.1.2.2) fun z11=>some ((z11.2.2.2.2.2.2.1,z11.2.2.2.2.2.2.2.1,z11.2.2.2.2.2.2.2.2),z11.1,z11.2.1) else if decide (z1.1=3)=true then if (1:Int)≤(↑(List.length z0.1.2.2):Int) then if (↑(List.length z0.1.2.2):Int)≤(↑(List.length z0.1.2.2):Int) then some ((z0.1.1,z0.1.2.1,List.drop (Int.toNat (1:Int)) z0.1.2.2),z1.2.1,z1.2.2) else none else none else if decide (z1.1=4)=true then some (((11:Int),(2:Int),List.replicate (Int.toNat (22:Int)) ((0:Int),(0:Int))),z1.2.1,z1.2.2) else if decide (z1.1=5)=true then some (((2:Int),(10:Int),List.replicate (Int.toNat (20:Int)) ((0:Int),(0:Int))),z1.2.1,z1.2.2) else some ((z0.1.1,z0.1.2.1,z0.1.2.2),z1.2.1,z1.2.2)
noncomputable def Z28:FnDef:= .of ZlD Z4G ((Int×Int×List (Int×Int))×Int×Int) (fun k x=>ZO k x.1) Zkb Zeb Zre
noncomputable def ZaM:Code:=Tryz.f122.body.getD .skip
noncomputable def Z1d:Ctx (Tup Z4G×OutD):={T:=T,G:=[(131,Z3y.E),(116,Zq.E),(98,Zp.E),(132,Z2x.E)],mvs:=[42],no:=2,n:=53,res:=resOf T ZlD Z4G Tryz.f122.results.toList,loops:=[],regs:=[(8,Z2L.E)],conds:=[],cuts:=[]}
theorem Zlx(k:Nat):EnvOK Tryz.prog k Z1d.G:=(EnvOK.cons (ZFz k) (EnvOK.cons (Z1I k) (EnvOK.cons (Z1T k) (EnvOK.cons (ZAk k) (EnvOK.nil mixed)))))
noncomputable def Zbx:Array Oper:=(findReg 8 ZaM).getD #[]
theorem Zr1(k:Nat)(x:Zhk.D):execD Z1d.T Z1d.G Z1d.mvs k Zbx (Z2L.inp.st Z1d.n x) (outK Z1d Z2L)=Z6W k x.1.2.1.2.1 x.1.2.1.2.2.1 x.1.2.2.1 x.1.2.2.2.1.1 x.1.2.2.2.1.2.1 x.1.2.2.2.2.1 x.1.2.2.2.2.2.1.1 x.1.2.2.2.2.2.1.2.1 x.1.2.2.2.2.2.2.1:=by kernel_rfl
theorem ZpX(k:Nat):EOK Tryz.prog Z1d k Z2L.E (.region 8 Zbx true):=Z4n (D:=Z2L) (m:=3) T_ok (Zlx k) (fun x=>(Zr1 k x).trans (ZrB k x.1.2.1.2.1 x.1.2.1.2.2.1 x.1.2.2.1 x.1.2.2.2.1.1 x.1.2.2.2.1.2.1 x.1.2.2.2.2.1 x.1.2.2.2.2.2.1.1 x.1.2.2.2.2.2.1.2.1 x.1.2.2.2.2.2.2.1))
theorem ZxQ(k:Nat)(x:Tup Z28.ps):Z28.f (k+1) x=fnK Z28 Z1d ZaM k x:=by kernel_rfl
theorem Zyv(x:Tup Z28.ps):Z28.f 0 x=none:=by kernel_rfl
theorem ZxY(k:Nat):LOK Tryz.prog Z1d k ZaM:=LOK.by [(Z2L.E,.region 8 Zbx true)] (by kernel_rfl) (AllOK.cons (ZpX k) AllOK.nil)
theorem Zzy(k:Nat):SoundAt Tryz.prog k 122 Z28.E:= @Z5 Tryz.prog Z28 Z1d 122 Tryz.f122 ZaM (by kernel_rfl) (by kernel_rfl) (by kernel_rfl) Tryz.func122 (by kernel_rfl) (by kernel_rfl) (by kernel_rfl) T_ok Zlx ZxY Zyv ZxQ k
end
end Go.Proofs.YtmhfhiofcoggbaaGreat.Vs
