/- The proof, part 9. -/
import Derived.Test.YtmhfhiofcoggbaaGreatqT2m7
set_option maxRecDepth 100000
set_option maxHeartbeats 2000000
set_option linter.unusedVariables false
set_option linter.unusedSimpArgs false
namespace Go.Proofs.YtmhfhiofcoggbaaGreat.Vs
open Go.RowKit
noncomputable section
noncomputable def Z8i:List PK:=[PK.mk (.pair I6 (.pair I6 (.slice 76 P6))) true none false none,PK.mk I6 false none false none,PK.mk .bool false none false none]
noncomputable def Zno:List PK:=[PK.mk (.pair I6 (.slice 3 I6)) true none false none]
noncomputable def ZlZ(r:(Int×Int×List (Int×Int))×Int×Bool):Tup Z8i×OutD:=((r.1,r.2.1,r.2.2,()),none)
noncomputable def ZmW:Tup Z8i×OutD→Option ((Int×Int×List (Int×Int))×Int×Bool)
 |(a,none)=>some (a.1,a.2.1,a.2.2.1)
 |_=>none
theorem Zu9: ∀b r,ZmW b=some r→ZlZ r=b:=by
 rintro ⟨a,_|_⟩ r h<;>cases h;rfl
noncomputable def ZcD:Nat→Int×List Int→Option ((Int×Int×List (Int×Int))×Int×Bool)
 |0,_=>none
 |k+1,p0=>
  Option.bind (ZiB k (p0.1,p0.2)) fun z0=>if (!z0)=true then some (((0:Int),(0:Int),[]),(0:Int),false) else Option.bind (Zfe k (p0.1,p0.2)) fun z1=>Option.bind (ZeV k (p0.1,p0.2)) fun z2=>some ((z1.1,z1.2.1,z1.2.2),z2,true)
noncomputable def Z32:FnDef:= .of Zno Z8i ((Int×Int×List (Int×Int))×Int×Bool) (fun k x=>ZcD k x.1) ZlZ ZmW Zu9
noncomputable def Zh3:Code:=Tryz.f6.body.getD .skip
noncomputable def ZcJ:Ctx (Tup Z8i×OutD):={T:=T,G:=[(32,Z6O.E),(33,Z6u.E),(34,Z6I.E)],mvs:=[],no:=0,n:=13,res:=resOf T Zno Z8i Tryz.f6.results.toList,loops:=[],regs:=[],conds:=[],cuts:=[]}
theorem ZCq(k:Nat):EnvOK Tryz.prog k ZcJ.G:=(EnvOK.cons (ZNU k) (EnvOK.cons (ZNp k) (EnvOK.cons (ZOP k) (EnvOK.nil mixed))))
theorem ZCz(k:Nat)(x:Tup Z32.ps):Z32.f (k+1) x=fnK Z32 ZcJ Zh3 k x:=by kernel_rfl
theorem ZDe(x:Tup Z32.ps):Z32.f 0 x=none:=by kernel_rfl
theorem ZCB(k:Nat):LOK Tryz.prog ZcJ k Zh3:=LOK.by [] (by kernel_rfl) AllOK.nil
theorem ZCI(k:Nat):SoundAt Tryz.prog k 6 Z32.E:= @Z5 Tryz.prog Z32 ZcJ 6 Tryz.f6 Zh3 (by kernel_rfl) (by kernel_rfl) (by kernel_rfl) Tryz.func6 (by kernel_rfl) (by kernel_rfl) (by kernel_rfl) T_ok ZCq ZCB ZDe ZCz k
noncomputable def Zdm:List PK:=[PK.mk T6 true none false none,PK.mk .bool false none false none]
noncomputable def ZBp:List PK:=[PK.mk (.pair I6 (.pair I6 (.slice 76 P6))) true none false none,PK.mk I6 false none false none]
noncomputable def ZxW(r:(Int×Int×Int)×Bool):Tup Zdm×OutD:=((r.1,r.2,()),none)
noncomputable def Zzr:Tup Zdm×OutD→Option ((Int×Int×Int)×Bool)
 |(a,none)=>some (a.1,a.2.1)
 |_=>none
theorem ZGR: ∀b r,Zzr b=some r→ZxW r=b:=by
 rintro ⟨a,_|_⟩ r h<;>cases h;rfl
noncomputable def Z8I:Nat→Int→Int→List (Int×Int)→Int→Int→Int→Int→Option (Int×Int×Int×Int×Int×Int):=fun k b1_0 b1_1 b1_2 b2_0 b2_1 b2_2 v1=>
  Option.bind (Z4P k (b1_0,b1_1,b1_2)) fun z1=>Option.bind (Z24 k (b1_0,b1_1,b1_2)) fun z2=>Option.bind (Z9Q k (z1.1,z1.2.1,z1.2.2) z2 v1) fun z3=>some (b2_0,b2_1,b2_2,z3.1.1,z3.1.2.1,z3.1.2.2)
noncomputable def ZeN:Nat→Int→Int→List (Int×Int)→Int→Int→Int→Int→Option (List (Int×Int×Int×Int×Int×Int)):=fun k b1_0 b1_1 b1_2 b2_0 b2_1 b2_2 v1=>
  joinL (Option.bind (Z4P k (b1_0,b1_1,b1_2)) fun z4=>joinL (Option.bind (Z24 k (b1_0,b1_1,b1_2)) fun z5=>joinL (Option.bind (Z9Q k (z4.1,z4.2.1,z4.2.2) z5 v1) fun z6=>some [(b2_0,b2_1,b2_2,z6.1.1,z6.1.2.1,z6.1.2.2)]) (Option.bind (Z9Q k (z4.1,z4.2.1,z4.2.2) z5 v1) fun z7=>some [(b2_0,b2_1,b2_2,z7.1.1,z7.1.2.1,z7.1.2.2)])) (Option.bind (Z24 k (b1_0,b1_1,b1_2)) fun z8=>Option.bind (Z9Q k (z4.1,z4.2.1,z4.2.2) z8 v1) fun z9=>some [(b2_0,b2_1,b2_2,z9.1.1,z9.1.2.1,z9.1.2.2)])) (Option.bind (Z4P k (b1_0,b1_1,b1_2)) fun z10=>Option.bind (Z24 k (b1_0,b1_1,b1_2)) fun z11=>Option.bind (Z9Q k (z10.1,z10.2.1,z10.2.2) z11 v1) fun z12=>some [(b2_0,b2_1,b2_2,z12.1.1,z12.1.2.1,z12.1.2.2)])
noncomputable def ZqL:Spec:=Spec.mk [.ro,O2,O5] [(1,.at (.int .i64)),(2,.at (.ptr 1 0)),(4,.at (.ptr 2 0))]
noncomputable def ZHp:Spec:=Spec.mk [.ro,O5,O5] [(4,.at (.ptr 1 0)),(6,.at (.ptr 2 0))]
noncomputable def Z7M:LoopDef (Tup Zdm×OutD):= .plain ZqL ZHp (Int×Int×Int×Int×Int×Int) (fun k x=>Z8I k x.1.2.1.1 x.1.2.1.2.1 x.1.2.1.2.2.1 x.1.2.2.1.1 x.1.2.2.1.2.1 x.1.2.2.1.2.2.1 x.2.1) (fun z=>(((),(z.1,z.2.1,z.2.2.1,()),(z.2.2.2.1,z.2.2.2.2.1,z.2.2.2.2.2,()),()),((),(),()))) (fun y=>(y.1.2.1.1,y.1.2.1.2.1,y.1.2.1.2.2.1,y.1.2.2.1.1,y.1.2.2.1.2.1,y.1.2.2.1.2.2.1)) (fun _=>rfl)
theorem ZHP(k:Nat)(b1_0:Int)(b1_1:Int)(b1_2:List (Int×Int))(b2_0:Int)(b2_1:Int)(b2_2:Int)(v1:Int):ZeN k b1_0 b1_1 b1_2 b2_0 b2_1 b2_2 v1=repl 4 (Z8I k b1_0 b1_1 b1_2 b2_0 b2_1 b2_2 v1):=by
 first
 |(simp only[ZeN,Z8I,Z9,Zc,Z6,Z8,Z7,Z3,if_true];done)
 |(simp only[ZeN,Z8I,Z9,Zc,Z6,Z8,Z7,Z3,if_true];simp only[Z1g,Z1i,Z2p,Z3];simp only[Z3E];exact Z1F ⟨fun h=>by simp only[h,and_self],fun h=>by simp only[h,and_self]⟩)
noncomputable def ZgF:Nat→Int×Int×List (Int×Int)→Int→Option ((Int×Int×Int)×Bool)
 |0,_,_=>none
 |k+1,p0,p1=>
  Option.bind (Zes k (p0.1,p0.2.1,p0.2.2) p1) fun z0=>if (!z0)=true then some (((0:Int),(0:Int),(0:Int)),false) else Option.bind (Z8I k p0.1 p0.2.1 p0.2.2 (0:Int) (0:Int) (0:Int) p1) fun z13=>some ((z13.2.2.2.1,z13.2.2.2.2.1,z13.2.2.2.2.2),true)
noncomputable def Z67:FnDef:= .of ZBp Zdm ((Int×Int×Int)×Bool) (fun k x=>ZgF k x.1 x.2.1) ZxW Zzr ZGR
noncomputable def Zkx:Code:=Tryz.f11.body.getD .skip
noncomputable def Z4V:Ctx (Tup Zdm×OutD):={T:=T,G:=[(39,Z4a.E),(41,Z2H.E),(42,Z1D.E),(40,Z9v.E)],mvs:=[],no:=0,n:=23,res:=resOf T ZBp Zdm Tryz.f11.results.toList,loops:=[],regs:=[(3,Z7M.E)],conds:=[],cuts:=[]}
theorem ZBt(k:Nat):EnvOK Tryz.prog k Z4V.G:=(EnvOK.cons (ZHk k) (EnvOK.cons (Zl6 k) (EnvOK.cons (ZgW k) (EnvOK.cons (ZJh k) (EnvOK.nil mixed)))))
noncomputable def ZjJ:Array Oper:=(findReg 3 Zkx).getD #[]
theorem ZGN(k:Nat)(x:ZqL.D):execD Z4V.T Z4V.G Z4V.mvs k ZjJ (Z7M.inp.st Z4V.n x) (outK Z4V Z7M)=ZeN k x.1.2.1.1 x.1.2.1.2.1 x.1.2.1.2.2.1 x.1.2.2.1.1 x.1.2.2.1.2.1 x.1.2.2.1.2.2.1 x.2.1:=by kernel_rfl
theorem ZEN(k:Nat):EOK Tryz.prog Z4V k Z7M.E (.region 3 ZjJ true):=Z4m (D:=Z7M) (m:=4) T_ok (ZBt k) (fun x=>(ZGN k x).trans (ZHP k x.1.2.1.1 x.1.2.1.2.1 x.1.2.1.2.2.1 x.1.2.2.1.1 x.1.2.2.1.2.1 x.1.2.2.1.2.2.1 x.2.1))
theorem ZRa(k:Nat)(x:Tup Z67.ps):Z67.f (k+1) x=fnK Z67 Z4V Zkx k x:=by kernel_rfl
theorem ZQn(x:Tup Z67.ps):Z67.f 0 x=none:=by kernel_rfl
theorem ZPG(k:Nat):LOK Tryz.prog Z4V k Zkx:=LOK.by [(Z7M.E,.region 3 ZjJ true)] (by kernel_rfl) (AllOK.cons (ZEN k) AllOK.nil)
theorem ZBr(k:Nat):SoundAt Tryz.prog k 11 Z67.E:= @Z5 Tryz.prog Z67 Z4V 11 Tryz.f11 Zkx (by kernel_rfl) (by kernel_rfl) (by kernel_rfl) Tryz.func11 (by kernel_rfl) (by kernel_rfl) (by kernel_rfl) T_ok ZBt ZPG ZQn ZRa k
noncomputable def Z4D:List PK:=[PK.mk .bool false none false none,PK.mk .bool false none false none]
noncomputable def Zlk:List PK:=[PK.mk (.pair I6 (.pair I6 (.pair (.slice 76 P6) (.pair (.slice 3 I6) (.slice 3 I6))))) true none false none,PK.mk (.pair I6 (.pair I6 (.slice 76 P6))) true none false none]
noncomputable def Ze1(r:Bool×Bool):Tup Z4D×OutD:=((r.1,r.2,()),none)
noncomputable def Zed:Tup Z4D×OutD→Option (Bool×Bool)
 |(a,none)=>some (a.1,a.2.1)
 |_=>none
theorem Zhe: ∀b r,Zed b=some r→Ze1 r=b:=by
 rintro ⟨a,_|_⟩ r h<;>cases h;rfl
noncomputable def Z2q:Nat→Int→Int→List (Int×Int)→List Int→List Int→Int→Int→List (Int×Int)→List (Int×Int)→Int→Int→Option (LR (Int×Int×List (Int×Int)×List Int×List Int×Int×Int×List (Int×Int)) (Bool×Bool))
 |0,_,_,_,_,_,_,_,_,_,_,_=>none
 |k+1,b1_0,b1_1,b1_2,b1_3,b1_4,b2_0,b2_1,b2_2,v29,v30,v31=>
  if decide (v31<v30)=true then if (0:Int)≤v31 then if v31<(↑(List.length v29):Int) then if decide (Prod.fst (List.getD v29 (Int.toNat v31) ((0:Int),(0:Int)))≠0)=true then Option.bind (Z1n k b1_2 (Prod.fst (List.getD v29 (Int.toNat v31) ((0:Int),(0:Int))),Prod.snd (List.getD v29 (Int.toNat v31) ((0:Int),(0:Int))))) fun z2=>if (!z2)=true then some (LR.ret (false,true)) else Z2q k b1_0 b1_1 b1_2 b1_3 b1_4 b2_0 b2_1 b2_2 v29 v30 (wrap64 (v31+1)) else Z2q k b1_0 b1_1 b1_2 b1_3 b1_4 b2_0 b2_1 b2_2 v29 v30 (wrap64 (v31+1)) else none else none else some (LR.go (b1_0,b1_1,b1_2,b1_3,b1_4,b2_0,b2_1,b2_2))
noncomputable def Zcu:Spec:=Spec.mk [.ro,O4,O2] [(2,.at (.ptr 1 0)),(3,.at (.ptr 2 0)),(29,.at (.snap 0 P6)),(30,.at (.int .i64)),(31,.at (.int .i64))]
noncomputable def ZrO:Spec:=Spec.mk [.ro,O4,O2] [(2,.at (.ptr 1 0)),(3,.at (.ptr 2 0))]
noncomputable def Z3g:LoopDef (Tup Z4D×OutD):= .rets Zcu ZrO (Int×Int×List (Int×Int)×List Int×List Int×Int×Int×List (Int×Int)) (Bool×Bool) (fun k x=>Z2q k x.1.2.1.1 x.1.2.1.2.1 x.1.2.1.2.2.1 x.1.2.1.2.2.2.1 x.1.2.1.2.2.2.2.1 x.1.2.2.1.1 x.1.2.2.1.2.1 x.1.2.2.1.2.2.1 x.2.2.2.1 x.2.2.2.2.1 x.2.2.2.2.2.1) (fun z=>(((),(z.1,z.2.1,z.2.2.1,z.2.2.2.1,z.2.2.2.2.1,()),(z.2.2.2.2.2.1,z.2.2.2.2.2.2.1,z.2.2.2.2.2.2.2,()),()),((),(),()))) (fun y=>(y.1.2.1.1,y.1.2.1.2.1,y.1.2.1.2.2.1,y.1.2.1.2.2.2.1,y.1.2.1.2.2.2.2.1,y.1.2.2.1.1,y.1.2.2.1.2.1,y.1.2.2.1.2.2.1)) (fun _=>rfl) Ze1 Zed Zhe
noncomputable def ZaM:Nat→Int×Int×List (Int×Int)×List Int×List Int→Int×Int×List (Int×Int)→Option (Bool×Bool)
 |0,_,_=>none
 |k+1,p0,p1=>
  Option.bind (Z4Q k (p0.1,p0.2.1,p0.2.2.1,p0.2.2.2.1,p0.2.2.2.2)) fun z0=>if (!z0)=true then some (false,false) else Option.bind (Z3U k (p1.1,p1.2.1,p1.2.2)) fun z1=>if (!z1)=true then some (false,false) else if decide (p1.1≠p0.1)=true then some (false,true) else if decide (p1.2.1≠p0.2.1)=true then some (false,true) else Option.bind (Z2q k p0.1 p0.2.1 p0.2.2.1 p0.2.2.2.1 p0.2.2.2.2 p1.1 p1.2.1 p1.2.2 p1.2.2 (↑(List.length p1.2.2):Int) (0:Int)) fun z3=>LR.on z3 (fun y3=>Option.bind (Zf6 k (y3.1,y3.2.1,y3.2.2.1,y3.2.2.2.1,y3.2.2.2.2.1) (y3.2.2.2.2.2.1,y3.2.2.2.2.2.2.1,y3.2.2.2.2.2.2.2)) fun z4=>some (z4,true)) fun r3=>some r3
noncomputable def Z2g:FnDef:= .of Zlk Z4D (Bool×Bool) (fun k x=>ZaM k x.1 x.2.1) Ze1 Zed Zhe
noncomputable def Zac:Code:=Tryz.f14.body.getD .skip
noncomputable def Z3q:Ctx (Tup Z4D×OutD):={T:=T,G:=[(43,Z1s.E),(38,Z1A.E),(48,Zm.E),(49,Z55.E)],mvs:=[],no:=0,n:=49,res:=resOf T Zlk Z4D Tryz.f14.results.toList,loops:=[(0,Z3g.E)],regs:=[],conds:=[],cuts:=[]}
theorem Zlr(k:Nat):EnvOK Tryz.prog k Z3q.G:=(EnvOK.cons (ZdO k) (EnvOK.cons (Z90 k) (EnvOK.cons (Z9n k) (EnvOK.cons (Zxr k) (EnvOK.nil mixed)))))
noncomputable def Z7n:Code:=(findLoop 0 Zac).getD .skip
theorem ZsX(k:Nat)(x:Zcu.D):Z3g.lp (k+1) x=loopK Z3q Z3g 0 Z7n k x:=by kernel_rfl
theorem Zti(k:Nat):LOK Tryz.prog Z3q k Z7n:=LOK.by [] (by kernel_rfl) AllOK.nil
theorem ZsM(x:Zcu.D):Z3g.lp 0 x=none:=by kernel_rfl
theorem Zr1(k:Nat):EOK Tryz.prog Z3q k Z3g.E (.block 0 (.loop Z7n)):=Zd T_ok Zlr ZsM ZsX Zti k
theorem ZyD(k:Nat)(x:Tup Z2g.ps):Z2g.f (k+1) x=fnK Z2g Z3q Zac k x:=by kernel_rfl
theorem Zyu(x:Tup Z2g.ps):Z2g.f 0 x=none:=by kernel_rfl
theorem Zzp(k:Nat):LOK Tryz.prog Z3q k Zac:=LOK.by [(Z3g.E,.block 0 (.loop Z7n))] (by kernel_rfl) (AllOK.cons (Zr1 k) AllOK.nil)
theorem Zyx(k:Nat):SoundAt Tryz.prog k 14 Z2g.E:= @Z5 Tryz.prog Z2g Z3q 14 Tryz.f14 Zac (by kernel_rfl) (by kernel_rfl) (by kernel_rfl) Tryz.func14 (by kernel_rfl) (by kernel_rfl) (by kernel_rfl) T_ok Zlr Zzp Zyu ZyD k
noncomputable def Zdj:List PK:=[PK.mk .bool false none false none]
noncomputable def ZBd:List PK:=[PK.mk (.pair I6 (.pair I6 (.slice 76 P6))) true none false none,PK.mk (.slice 3 I6) false none false none,PK.mk (.slice 40 T6) false none false none]
noncomputable def Zoe(r:Bool):Tup Zdj×OutD:=((r,()),none)
noncomputable def ZoG:Tup Zdj×OutD→Option (Bool)
 |(a,none)=>some (a.1)
 |_=>none
theorem ZqK: ∀b r,ZoG b=some r→Zoe r=b:=by
 rintro ⟨a,_|_⟩ r h<;>cases h;rfl
noncomputable def Zan:Nat→Int→Int→List (Int×Int)→List (Int×Int×Int)→Int→Int→Option (LR Unit Bool)
 |0,_,_,_,_,_,_=>none
 |k+1,b1_0,b1_1,b1_2,v31,v32,v33=>
  if decide (v33<v32)=true then if (0:Int)≤v33 then if v33<(↑(List.length v31):Int) then if decide (Prod.fst (List.getD v31 (Int.toNat v33) ((0:Int),(0:Int),(0:Int)))<1)=true then some (LR.ret false) else if decide (Prod.fst (List.getD v31 (Int.toNat v33) ((0:Int),(0:Int),(0:Int)))>3)=true then some (LR.ret false) else if decide (Prod.fst (Prod.snd (List.getD v31 (Int.toNat v33) ((0:Int),(0:Int),(0:Int))))<0)=true then some (LR.ret false) else if decide (Prod.fst (Prod.snd (List.getD v31 (Int.toNat v33) ((0:Int),(0:Int),(0:Int))))>b1_0)=true then some (LR.ret false) else if decide (Prod.snd (Prod.snd (List.getD v31 (Int.toNat v33) ((0:Int),(0:Int),(0:Int))))<(-1:Int))=true then some (LR.ret false) else if decide (Prod.snd (Prod.snd (List.getD v31 (Int.toNat v33) ((0:Int),(0:Int),(0:Int))))>b1_1)=true then some (LR.ret false) else Zan k b1_0 b1_1 b1_2 v31 v32 (wrap64 (v33+1)) else none else none else some (LR.go ())
noncomputable def Zla:Spec:=Spec.mk [.ro,O2] [(3,.at (.ptr 1 0)),(31,.at (.snap 0 T6)),(32,.at (.int .i64)),(33,.at (.int .i64))]
noncomputable def ZKw:Spec:=Spec.mk [.ro] []
noncomputable def Z8P:LoopDef (Tup Zdj×OutD):= .rets Zla ZKw (Unit) (Bool) (fun k x=>Zan k x.1.2.1.1 x.1.2.1.2.1 x.1.2.1.2.2.1 x.2.2.1 x.2.2.2.1 x.2.2.2.2.1) (fun z=>(((),()),(()))) (fun y=>()) (fun _=>rfl) Zoe ZoG ZqK
noncomputable def ZgQ:Nat→Int×Int×List (Int×Int)→List Int→List (Int×Int×Int)→Option Bool
 |0,_,_,_=>none
 |k+1,p0,p1,p2=>
  Option.bind (Z8w k (p0.1,p0.2.1,p0.2.2) p1) fun z0=>if (!z0)=true then some false else if decide ((↑(List.length p0.2.2):Int)>24)=true then some false else if decide ((↑(List.length p1):Int)>20)=true then some false else if decide ((↑(List.length p2):Int)≠(↑(List.length p1):Int))=true then some false else Option.bind (Zan k p0.1 p0.2.1 p0.2.2 p2 (↑(List.length p2):Int) (0:Int)) fun z1=>LR.on z1 (fun y1=>some true) fun r1=>some r1
noncomputable def Z6g:FnDef:= .of ZBd Zdj (Bool) (fun k x=>ZgQ k x.1 x.2.1 x.2.2.1) Zoe ZoG ZqK
noncomputable def ZkI:Code:=Tryz.f52.body.getD .skip
noncomputable def ZaX:Ctx (Tup Zdj×OutD):={T:=T,G:=[(58,Z25.E)],mvs:=[],no:=0,n:=70,res:=resOf T ZBd Zdj Tryz.f52.results.toList,loops:=[(0,Z8P.E)],regs:=[],conds:=[],cuts:=[]}
theorem ZBG(k:Nat):EnvOK Tryz.prog k ZaX.G:=(EnvOK.cons (ZnC k) (EnvOK.nil mixed))
noncomputable def Zgb:Code:=(findLoop 0 ZkI).getD .skip
theorem ZJQ(k:Nat)(x:Zla.D):Z8P.lp (k+1) x=loopK ZaX Z8P 0 Zgb k x:=by kernel_rfl
theorem ZJF(k:Nat):LOK Tryz.prog ZaX k Zgb:=LOK.by [] (by kernel_rfl) AllOK.nil
theorem ZKy(x:Zla.D):Z8P.lp 0 x=none:=by kernel_rfl
theorem ZIK(k:Nat):EOK Tryz.prog ZaX k Z8P.E (.block 0 (.loop Zgb)):=Zd T_ok ZBG ZKy ZJQ ZJF k
theorem ZQq(k:Nat)(x:Tup Z6g.ps):Z6g.f (k+1) x=fnK Z6g ZaX ZkI k x:=by kernel_rfl
theorem ZPW(x:Tup Z6g.ps):Z6g.f 0 x=none:=by kernel_rfl
theorem ZQf(k:Nat):LOK Tryz.prog ZaX k ZkI:=LOK.by [(Z8P.E,.block 0 (.loop Zgb))] (by kernel_rfl) (AllOK.cons (ZIK k) AllOK.nil)
theorem ZBf(k:Nat):SoundAt Tryz.prog k 52 Z6g.E:= @Z5 Tryz.prog Z6g ZaX 52 Tryz.f52 ZkI (by kernel_rfl) (by kernel_rfl) (by kernel_rfl) Tryz.func52 (by kernel_rfl) (by kernel_rfl) (by kernel_rfl) T_ok ZBG ZQf ZPW ZQq k
noncomputable def Zdk:List PK:=[PK.mk .bool false none false none]
noncomputable def ZCl:List PK:=[PK.mk (.pair I6 (.pair I6 (.slice 76 P6))) true none false none,PK.mk (.slice 3 I6) false none false none,PK.mk (.slice 40 T6) false none false none]
noncomputable def ZoO(r:Bool):Tup Zdk×OutD:=((r,()),none)
noncomputable def ZoH:Tup Zdk×OutD→Option (Bool)
 |(a,none)=>some (a.1)
 |_=>none
theorem ZqX: ∀b r,ZoH b=some r→ZoO r=b:=by
 rintro ⟨a,_|_⟩ r h<;>cases h;rfl
noncomputable def Zar:Nat→Int→Int→List (Int×Int)→List (Int×Int×Int)→Int→Int→Option (LR Unit Bool)
 |0,_,_,_,_,_,_=>none
 |k+1,b1_0,b1_1,b1_2,v32,v33,v34=>
  if decide (v34<v33)=true then if (0:Int)≤v34 then if v34<(↑(List.length v32):Int) then Option.bind (Z1f k (Prod.fst (List.getD v32 (Int.toNat v34) ((0:Int),(0:Int),(0:Int)))) (1:Int) (3:Int)) fun z2=>if (!z2)=true then some (LR.ret false) else Option.bind (Z1f k (Prod.fst (Prod.snd (List.getD v32 (Int.toNat v34) ((0:Int),(0:Int),(0:Int))))) (0:Int) b1_0) fun z3=>if (!z3)=true then some (LR.ret false) else Option.bind (Z1f k (Prod.snd (Prod.snd (List.getD v32 (Int.toNat v34) ((0:Int),(0:Int),(0:Int))))) (-1:Int) b1_1) fun z4=>if (!z4)=true then some (LR.ret false) else Zar k b1_0 b1_1 b1_2 v32 v33 (wrap64 (v34+1)) else none else none else some (LR.go ())
noncomputable def Zl5:Spec:=Spec.mk [.ro,O2] [(3,.at (.ptr 1 0)),(32,.at (.snap 0 T6)),(33,.at (.int .i64)),(34,.at (.int .i64))]
noncomputable def ZJj:Spec:=Spec.mk [.ro] []
noncomputable def Z8E:LoopDef (Tup Zdk×OutD):= .rets Zl5 ZJj (Unit) (Bool) (fun k x=>Zar k x.1.2.1.1 x.1.2.1.2.1 x.1.2.1.2.2.1 x.2.2.1 x.2.2.2.1 x.2.2.2.2.1) (fun z=>(((),()),(()))) (fun y=>()) (fun _=>rfl) ZoO ZoH ZqX
noncomputable def Zks:Nat→Int×Int×List (Int×Int)→List Int→List (Int×Int×Int)→Option Bool
 |0,_,_,_=>none
 |k+1,p0,p1,p2=>
  Option.bind (ZiM k (p0.1,p0.2.1,p0.2.2)) fun z0=>if (!z0)=true then some false else if decide ((↑(List.length p1):Int)>20)=true then some false else Option.bind (Zci k p1 (0:Int) (wrap64 (p0.2.1-1))) fun z1=>if (!z1)=true then some false else if decide ((↑(List.length p2):Int)≠(↑(List.length p1):Int))=true then some false else Option.bind (Zar k p0.1 p0.2.1 p0.2.2 p2 (↑(List.length p2):Int) (0:Int)) fun z5=>LR.on z5 (fun y5=>some true) fun r5=>some r5
noncomputable def Z85:FnDef:= .of ZCl Zdk (Bool) (fun k x=>Zks k x.1 x.2.1 x.2.2.1) ZoO ZoH ZqX
noncomputable def Zkg:Code:=Tryz.f54.body.getD .skip
noncomputable def ZaN:Ctx (Tup Zdk×OutD):={T:=T,G:=[(87,Z6s.E),(77,Z65.E),(76,Z2j.E)],mvs:=[],no:=0,n:=59,res:=resOf T ZCl Zdk Tryz.f54.results.toList,loops:=[(0,Z8E.E)],regs:=[],conds:=[],cuts:=[]}
theorem ZBH(k:Nat):EnvOK Tryz.prog k ZaN.G:=(EnvOK.cons (ZNs k) (EnvOK.cons (ZsZ k) (EnvOK.cons (Z9L k) (EnvOK.nil mixed))))
noncomputable def ZfY:Code:=(findLoop 0 Zkg).getD .skip
theorem ZKf(k:Nat)(x:Zl5.D):Z8E.lp (k+1) x=loopK ZaN Z8E 0 ZfY k x:=by kernel_rfl
theorem ZJL(k:Nat):LOK Tryz.prog ZaN k ZfY:=LOK.by [] (by kernel_rfl) AllOK.nil
theorem ZJG(x:Zl5.D):Z8E.lp 0 x=none:=by kernel_rfl
theorem ZHc(k:Nat):EOK Tryz.prog ZaN k Z8E.E (.block 0 (.loop ZfY)):=Zd T_ok ZBH ZJG ZKf ZJL k
theorem ZQk(k:Nat)(x:Tup Z85.ps):Z85.f (k+1) x=fnK Z85 ZaN Zkg k x:=by kernel_rfl
theorem ZPK(x:Tup Z85.ps):Z85.f 0 x=none:=by kernel_rfl
theorem ZQj(k:Nat):LOK Tryz.prog ZaN k Zkg:=LOK.by [(Z8E.E,.block 0 (.loop ZfY))] (by kernel_rfl) (AllOK.cons (ZHc k) AllOK.nil)
theorem ZQH(k:Nat):SoundAt Tryz.prog k 54 Z85.E:= @Z5 Tryz.prog Z85 ZaN 54 Tryz.f54 Zkg (by kernel_rfl) (by kernel_rfl) (by kernel_rfl) Tryz.func54 (by kernel_rfl) (by kernel_rfl) (by kernel_rfl) T_ok ZBH ZQj ZPK ZQk k
noncomputable def Z96:List PK:=[PK.mk .bool false none false none]
noncomputable def Zse:List PK:=[PK.mk (.pair I6 (.pair I6 (.slice 76 P6))) true none false none,PK.mk (.slice 58 T6) false none false none]
noncomputable def Zjp(r:Bool):Tup Z96×OutD:=((r,()),none)
noncomputable def Zjv:Tup Z96×OutD→Option (Bool)
 |(a,none)=>some (a.1)
 |_=>none
theorem ZmY: ∀b r,Zjv b=some r→Zjp r=b:=by
 rintro ⟨a,_|_⟩ r h<;>cases h;rfl
noncomputable def Z6M:Nat→Int→Int→List (Int×Int)→Int→List (Int×Int×Int)→Int→Int→Option (LR Unit Bool)
 |0,_,_,_,_,_,_,_=>none
 |k+1,b1_0,b1_1,b1_2,v5,v12,v13,v14=>
  if decide (v14<v13)=true then if (0:Int)≤v14 then if v14<(↑(List.length v12):Int) then Option.bind (ZiL k (b1_0,b1_1,b1_2) (Prod.fst (Prod.snd (List.getD v12 (Int.toNat v14) ((0:Int),(0:Int),(0:Int))))) (Prod.snd (Prod.snd (List.getD v12 (Int.toNat v14) ((0:Int),(0:Int),(0:Int)))))) fun z0=>if (!z0)=true then some (LR.ret false) else if decide (wrap64 (wrap64 (Prod.fst (Prod.snd (List.getD v12 (Int.toNat v14) ((0:Int),(0:Int),(0:Int))))*b1_1)+Prod.snd (Prod.snd (List.getD v12 (Int.toNat v14) ((0:Int),(0:Int),(0:Int)))))≤v5)=true then some (LR.ret false) else if (0:Int)≤wrap64 (wrap64 (Prod.fst (Prod.snd (List.getD v12 (Int.toNat v14) ((0:Int),(0:Int),(0:Int))))*b1_1)+Prod.snd (Prod.snd (List.getD v12 (Int.toNat v14) ((0:Int),(0:Int),(0:Int))))) then if wrap64 (wrap64 (Prod.fst (Prod.snd (List.getD v12 (Int.toNat v14) ((0:Int),(0:Int),(0:Int))))*b1_1)+Prod.snd (Prod.snd (List.getD v12 (Int.toNat v14) ((0:Int),(0:Int),(0:Int)))))<(↑(List.length b1_2):Int) then Option.bind (ZeY k (Prod.fst (List.getD b1_2 (Int.toNat (wrap64 (wrap64 (Prod.fst (Prod.snd (List.getD v12 (Int.toNat v14) ((0:Int),(0:Int),(0:Int))))*b1_1)+Prod.snd (Prod.snd (List.getD v12 (Int.toNat v14) ((0:Int),(0:Int),(0:Int))))))) ((0:Int),(0:Int))),Prod.snd (List.getD b1_2 (Int.toNat (wrap64 (wrap64 (Prod.fst (Prod.snd (List.getD v12 (Int.toNat v14) ((0:Int),(0:Int),(0:Int))))*b1_1)+Prod.snd (Prod.snd (List.getD v12 (Int.toNat v14) ((0:Int),(0:Int),(0:Int))))))) ((0:Int),(0:Int)))) (Prod.fst (List.getD v12 (Int.toNat v14) ((0:Int),(0:Int),(0:Int))))) fun z1=>if (!z1)=true then some (LR.ret false) else Z6M k b1_0 b1_1 b1_2 (wrap64 (wrap64 (Prod.fst (Prod.snd (List.getD v12 (Int.toNat v14) ((0:Int),(0:Int),(0:Int))))*b1_1)+Prod.snd (Prod.snd (List.getD v12 (Int.toNat v14) ((0:Int),(0:Int),(0:Int)))))) v12 v13 (wrap64 (v14+1)) else none else none else none else none else some (LR.go ())
noncomputable def Zh2:Spec:=Spec.mk [.ro,O2] [(2,.at (.ptr 1 0)),(5,.at (.int .i64)),(12,.at (.snap 0 T6)),(13,.at (.int .i64)),(14,.at (.int .i64))]
noncomputable def ZCy:Spec:=Spec.mk [.ro] []
noncomputable def Z5N:LoopDef (Tup Z96×OutD):= .rets Zh2 ZCy (Unit) (Bool) (fun k x=>Z6M k x.1.2.1.1 x.1.2.1.2.1 x.1.2.1.2.2.1 x.2.2.1 x.2.2.2.1 x.2.2.2.2.1 x.2.2.2.2.2.1) (fun z=>(((),()),(()))) (fun y=>()) (fun _=>rfl) Zjp Zjv ZmY
noncomputable def Zcj:Nat→Int×Int×List (Int×Int)→List (Int×Int×Int)→Option Bool
 |0,_,_=>none
 |k+1,p0,p1=>
  if decide ((↑(List.length p1):Int)>4)=true then some false else Option.bind (Z6M k p0.1 p0.2.1 p0.2.2 (-1:Int) p1 (↑(List.length p1):Int) (0:Int)) fun z2=>LR.on z2 (fun y2=>some true) fun r2=>some r2
noncomputable def Z3F:FnDef:= .of Zse Z96 (Bool) (fun k x=>Zcj k x.1 x.2.1) Zjp Zjv ZmY
noncomputable def ZfL:Code:=Tryz.f56.body.getD .skip
noncomputable def Z6p:Ctx (Tup Z96×OutD):={T:=T,G:=[(90,Z6P.E),(91,Z58.E)],mvs:=[],no:=0,n:=49,res:=resOf T Zse Z96 Tryz.f56.results.toList,loops:=[(0,Z5N.E)],regs:=[],conds:=[],cuts:=[]}
theorem Zt4(k:Nat):EnvOK Tryz.prog k Z6p.G:=(EnvOK.cons (ZNX k) (EnvOK.cons (ZyR k) (EnvOK.nil mixed)))
noncomputable def ZcS:Code:=(findLoop 0 ZfL).getD .skip
theorem ZCr(k:Nat)(x:Zh2.D):Z5N.lp (k+1) x=loopK Z6p Z5N 0 ZcS k x:=by kernel_rfl
theorem ZDY(k:Nat):LOK Tryz.prog Z6p k ZcS:=LOK.by [] (by kernel_rfl) AllOK.nil
theorem ZCX(x:Zh2.D):Z5N.lp 0 x=none:=by kernel_rfl
theorem ZAW(k:Nat):EOK Tryz.prog Z6p k Z5N.E (.block 0 (.loop ZcS)):=Zd T_ok Zt4 ZCX ZCr ZDY k
theorem ZKb(k:Nat)(x:Tup Z3F.ps):Z3F.f (k+1) x=fnK Z3F Z6p ZfL k x:=by kernel_rfl
theorem ZKL(x:Tup Z3F.ps):Z3F.f 0 x=none:=by kernel_rfl
theorem ZJP(k:Nat):LOK Tryz.prog Z6p k ZfL:=LOK.by [(Z5N.E,.block 0 (.loop ZcS))] (by kernel_rfl) (AllOK.cons (ZAW k) AllOK.nil)
theorem ZrR(k:Nat):SoundAt Tryz.prog k 56 Z3F.E:= @Z5 Tryz.prog Z3F Z6p 56 Tryz.f56 ZfL (by kernel_rfl) (by kernel_rfl) (by kernel_rfl) Tryz.func56 (by kernel_rfl) (by kernel_rfl) (by kernel_rfl) T_ok Zt4 ZJP ZKL ZKb k
noncomputable def Z8v:List PK:=[PK.mk .bool false none false none]
noncomputable def ZnJ:List PK:=[PK.mk (.pair I6 (.pair I6 (.slice 76 P6))) true none false none,PK.mk (.slice 58 T6) false none false none,PK.mk (.slice 3 I6) false none false none,PK.mk (.slice 40 T6) false none false none]
noncomputable def Zmo(r:Bool):Tup Z8v×OutD:=((r,()),none)
noncomputable def ZmN:Tup Z8v×OutD→Option (Bool)
 |(a,none)=>some (a.1)
 |_=>none
theorem ZtZ: ∀b r,ZmN b=some r→Zmo r=b:=by
 rintro ⟨a,_|_⟩ r h<;>cases h;rfl
noncomputable def Z8h:Nat→Int×Int×List (Int×Int)→List (Int×Int×Int)→List Int→List (Int×Int×Int)→Option Bool
 |0,_,_,_,_=>none
 |k+1,p0,p1,p2,p3=>
  Option.bind (Z9V k (p0.1,p0.2.1,p0.2.2) p1 p2) fun z0=>Option.bind (Z3a k z0.1 p3) fun z1=>some z1
noncomputable def Z26:FnDef:= .of ZnJ Z8v (Bool) (fun k x=>Z8h k x.1 x.2.1 x.2.2.1 x.2.2.2.1) Zmo ZmN ZtZ
noncomputable def Zha:Code:=Tryz.f57.body.getD .skip
noncomputable def ZcT:Ctx (Tup Z8v×OutD):={T:=T,G:=[(59,Z2B.E),(92,Zv.E)],mvs:=[],no:=0,n:=21,res:=resOf T ZnJ Z8v Tryz.f57.results.toList,loops:=[],regs:=[],conds:=[],cuts:=[]}
theorem ZDT(k:Nat):EnvOK Tryz.prog k ZcT.G:=(EnvOK.cons (Zp8 k) (EnvOK.cons (Zjw k) (EnvOK.nil mixed)))
theorem ZDo(k:Nat)(x:Tup Z26.ps):Z26.f (k+1) x=fnK Z26 ZcT Zha k x:=by kernel_rfl
theorem ZDy(x:Tup Z26.ps):Z26.f 0 x=none:=by kernel_rfl
theorem ZDs(k:Nat):LOK Tryz.prog ZcT k Zha:=LOK.by [] (by kernel_rfl) AllOK.nil
theorem Znn(k:Nat):SoundAt Tryz.prog k 57 Z26.E:= @Z5 Tryz.prog Z26 ZcT 57 Tryz.f57 Zha (by kernel_rfl) (by kernel_rfl) (by kernel_rfl) Tryz.func57 (by kernel_rfl) (by kernel_rfl) (by kernel_rfl) T_ok ZDT ZDs ZDy ZDo k
noncomputable def ZbN:List PK:=[PK.mk .bool false none false none]
noncomputable def Zyf:List PK:=[PK.mk (.pair I6 (.pair I6 (.pair (.slice 76 P6) (.pair (.slice 3 I6) (.slice 3 I6))))) true none false none,PK.mk (.pair I6 (.pair I6 (.slice 76 P6))) true none false none]
noncomputable def Zmr(r:Bool):Tup ZbN×OutD:=((r,()),none)
noncomputable def Znb:Tup ZbN×OutD→Option (Bool)
 |(a,none)=>some (a.1)
 |_=>none
theorem Zpn: ∀b r,Znb b=some r→Zmr r=b:=by
 rintro ⟨a,_|_⟩ r h<;>cases h;rfl
noncomputable def Z8U:Nat→Int→Int→List (Int×Int)→List Int→List Int→Int→Int→List (Int×Int)→Int→Int→List (Int×Int)→List Int→Int→Int→Option (LR Unit Bool)
 |0,_,_,_,_,_,_,_,_,_,_,_,_,_,_=>none
 |k+1,b1_0,b1_1,b1_2,b1_3,b1_4,b2_0,b2_1,b2_2,b3_0,b3_1,o4,v12,v13,v14=>
  if decide (v14<v13)=true then if (0:Int)≤v14 then if v14<(↑(List.length v12):Int) then Option.bind (Zie k (b3_0,b3_1,o4) (List.getD v12 (Int.toNat v14) (0:Int))) fun z0=>if (0:Int)≤v14 then if v14<(↑(List.length b1_4):Int) then Option.bind (ZhN k (b2_0,b2_1,b2_2) (z0.1.1,z0.1.2.1,z0.1.2.2)) fun z1=>if decide (z1≠List.getD b1_4 (Int.toNat v14) (0:Int))=true then some (LR.ret false) else Z8U k b1_0 b1_1 b1_2 b1_3 b1_4 b2_0 b2_1 b2_2 z0.2.1 z0.2.2.1 z0.2.2.2 v12 v13 (wrap64 (v14+1)) else none else none else none else none else some (LR.go ())
noncomputable def Zjr:Spec:=Spec.mk [.ro,O4,O2,O6,.fx P6] [(2,.at (.ptr 1 0)),(3,.at (.ptr 2 0)),(5,.at (.ptr 3 0)),(12,.at (.snap 0 I6)),(13,.at (.int .i64)),(14,.at (.int .i64))]
noncomputable def ZGM:Spec:=Spec.mk [.ro] []
noncomputable def Z7B:LoopDef (Tup ZbN×OutD):= .rets Zjr ZGM (Unit) (Bool) (fun k x=>Z8U k x.1.2.1.1 x.1.2.1.2.1 x.1.2.1.2.2.1 x.1.2.1.2.2.2.1 x.1.2.1.2.2.2.2.1 x.1.2.2.1.1 x.1.2.2.1.2.1 x.1.2.2.1.2.2.1 x.1.2.2.2.1.1 x.1.2.2.2.1.2.1 x.1.2.2.2.2.1 x.2.2.2.2.1 x.2.2.2.2.2.1 x.2.2.2.2.2.2.1) (fun z=>(((),()),(()))) (fun y=>()) (fun _=>rfl) Zmr Znb Zpn
noncomputable def ZiG:Nat→Int×Int×List (Int×Int)×List Int×List Int→Int×Int×List (Int×Int)→Option Bool
 |0,_,_=>none
 |k+1,p0,p1=>
  Option.bind (Z8U k p0.1 p0.2.1 p0.2.2.1 p0.2.2.2.1 p0.2.2.2.2 p1.1 p1.2.1 p1.2.2 p1.1 p1.2.1 p1.2.2 p0.2.2.2.1 (↑(List.length p0.2.2.2.1):Int) (0:Int)) fun z2=>LR.on z2 (fun y2=>some true) fun r2=>some r2
noncomputable def Z6z:FnDef:= .of Zyf ZbN (Bool) (fun k x=>ZiG k x.1 x.2.1) Zmr Znb Zpn
noncomputable def ZiV:Code:=Tryz.f79.body.getD .skip
noncomputable def Z8R:Ctx (Tup ZbN×OutD):={T:=T,G:=[(107,Z7v.E),(108,Z7c.E)],mvs:=[],no:=0,n:=36,res:=resOf T Zyf ZbN Tryz.f79.results.toList,loops:=[(0,Z7B.E)],regs:=[],conds:=[],cuts:=[]}
theorem Zyt(k:Nat):EnvOK Tryz.prog k Z8R.G:=(EnvOK.cons (ZE1 k) (EnvOK.cons (ZFJ k) (EnvOK.nil mixed)))
noncomputable def Zet:Code:=(findLoop 0 ZiV).getD .skip
theorem ZHU(k:Nat)(x:Zjr.D):Z7B.lp (k+1) x=loopK Z8R Z7B 0 Zet k x:=by kernel_rfl
theorem ZHO(k:Nat):LOK Tryz.prog Z8R k Zet:=LOK.by [] (by kernel_rfl) AllOK.nil
theorem ZHL(x:Zjr.D):Z7B.lp 0 x=none:=by kernel_rfl
theorem ZFI(k:Nat):EOK Tryz.prog Z8R k Z7B.E (.block 0 (.loop Zet)):=Zd T_ok Zyt ZHL ZHU ZHO k
theorem ZOX(k:Nat)(x:Tup Z6z.ps):Z6z.f (k+1) x=fnK Z6z Z8R ZiV k x:=by kernel_rfl
theorem ZNA(x:Tup Z6z.ps):Z6z.f 0 x=none:=by kernel_rfl
theorem ZNF(k:Nat):LOK Tryz.prog Z8R k ZiV:=LOK.by [(Z7B.E,.block 0 (.loop Zet))] (by kernel_rfl) (AllOK.cons (ZFI k) AllOK.nil)
theorem ZOR(k:Nat):SoundAt Tryz.prog k 79 Z6z.E:= @Z5 Tryz.prog Z6z Z8R 79 Tryz.f79 ZiV (by kernel_rfl) (by kernel_rfl) (by kernel_rfl) Tryz.func79 (by kernel_rfl) (by kernel_rfl) (by kernel_rfl) T_ok Zyt ZNF ZNA ZOX k
noncomputable def Zbd:List PK:=[PK.mk .bool false none false none]
noncomputable def Zqm:List PK:=[PK.mk (.pair I6 (.pair I6 (.slice 76 P6))) true none false none,PK.mk (.slice 58 T6) false none false none,PK.mk (.slice 3 I6) false none false none,PK.mk (.slice 40 T6) false none false none]
noncomputable def ZpJ(r:Bool):Tup Zbd×OutD:=((r,()),none)
noncomputable def ZpA:Tup Zbd×OutD→Option (Bool)
 |(a,none)=>some (a.1)
 |_=>none
theorem Zy7: ∀b r,ZpA b=some r→ZpJ r=b:=by
 rintro ⟨a,_|_⟩ r h<;>cases h;rfl
noncomputable def ZeC:Nat→Int×Int×List (Int×Int)→List (Int×Int×Int)→List Int→List (Int×Int×Int)→Option Bool
 |0,_,_,_,_=>none
 |k+1,p0,p1,p2,p3=>
  Option.bind (Za7 k (p0.1,p0.2.1,p0.2.2) p1 p2) fun z0=>Option.bind (Zkh k z0.1 p3) fun z1=>some (decide (z1<(0:Int)))
noncomputable def Z46:FnDef:= .of Zqm Zbd (Bool) (fun k x=>ZeC k x.1 x.2.1 x.2.2.1 x.2.2.2.1) ZpJ ZpA Zy7
noncomputable def ZjQ:Code:=Tryz.f89.body.getD .skip
noncomputable def ZeM:Ctx (Tup Zbd×OutD):={T:=T,G:=[(112,Z7f.E),(113,Z83.E)],mvs:=[],no:=0,n:=22,res:=resOf T Zqm Zbd Tryz.f89.results.toList,loops:=[],regs:=[],conds:=[],cuts:=[]}
theorem ZHy(k:Nat):EnvOK Tryz.prog k ZeM.G:=(EnvOK.cons (ZFh k) (EnvOK.cons (ZPR k) (EnvOK.nil mixed)))
theorem ZH3(k:Nat)(x:Tup Z46.ps):Z46.f (k+1) x=fnK Z46 ZeM ZjQ k x:=by kernel_rfl
theorem ZIn(x:Tup Z46.ps):Z46.f 0 x=none:=by kernel_rfl
theorem ZIm(k:Nat):LOK Tryz.prog ZeM k ZjQ:=LOK.by [] (by kernel_rfl) AllOK.nil
theorem ZI5(k:Nat):SoundAt Tryz.prog k 89 Z46.E:= @Z5 Tryz.prog Z46 ZeM 89 Tryz.f89 ZjQ (by kernel_rfl) (by kernel_rfl) (by kernel_rfl) Tryz.func89 (by kernel_rfl) (by kernel_rfl) (by kernel_rfl) T_ok ZHy ZIm ZIn ZH3 k
noncomputable def Za8:List PK:=[PK.mk (.pair I6 (.slice 3 I6)) true none false none]
noncomputable def Zpq:List PK:=[PK.mk (.pair (.slice 5 (.int .u8)) (.pair I6 (.int .u64))) false none false (some 105)]
noncomputable def ZnH(r:(Int×List Int)×Int×Int):Tup Za8×OutD:=((r.1,()),some ⟨Ty.pair (Ty.slice (5:Nat) (Ty.int .u8)) (Ty.pair (Ty.int .i64) (Ty.int .u64)),[([],r.2)]⟩)
noncomputable def ZgY:Tup Za8×OutD→Option ((Int×List Int)×Int×Int)
 |(a,some ⟨u,ys⟩)=>if h:u=Ty.pair (Ty.slice (5:Nat) (Ty.int .u8)) (Ty.pair (Ty.int .i64) (Ty.int .u64)) then (match castU h ys with
  |[([],y)]=>some (a.1,y)
  |_=>none) else none
 |_=>none
theorem Zwy: ∀b r,ZgY b=some r→ZnH r=b:=by
 rintro ⟨a,o⟩ r h
 cases o with
 |none=>cases h
 |some s=>
  obtain ⟨u,ys⟩:=s
  simp only[ZgY]at h
  split at h
  ·rename_i hu
   subst hu
   match ys,h with
   |[],h=>cases (show (none:Option _)=some r from h)
   |[([],y)],h=>injection (show some _=some r from h) with h;subst h;rfl
   |[(_::_,y)],h=>cases (show (none:Option _)=some r from h)
   |(h1,_)::_::_,h=>cases h1<;>cases (show (none:Option _)=some r from h)
  ·cases h
noncomputable def ZdV:Nat→List Int×Int×Int→Option ((Int×List Int)×Int×Int)
 |0,_=>none
 |k+1,p0=>
  Option.bind (Zb k (p0.1,p0.2.1,p0.2.2) [(0:Int),(1:Int),(2:Int),(2:Int),(3:Int),(3:Int),(4:Int)]) fun z0=>Option.bind (Z70 k (p0.1,z0.2.1,z0.2.2) z0.1) fun z1=>some ((z1.1.1,z1.1.2),z1.2.1,z1.2.2)
noncomputable def Z3w:FnDef:= .of Zpq Za8 ((Int×List Int)×Int×Int) (fun k x=>ZdV k x.1) ZnH ZgY Zwy
noncomputable def Zin:Code:=Tryz.f117.body.getD .skip
noncomputable def ZdL:Ctx (Tup Za8×OutD):={T:=T,G:=[(98,Zp.E),(97,Z1N.E)],mvs:=[],no:=2,n:=8,res:=resOf T Zpq Za8 Tryz.f117.results.toList,loops:=[],regs:=[],conds:=[],cuts:=[]}
theorem ZEq(k:Nat):EnvOK Tryz.prog k ZdL.G:=(EnvOK.cons (Z1S k) (EnvOK.cons (Zmn k) (EnvOK.nil mixed)))
theorem ZFv(k:Nat)(x:Tup Z3w.ps):Z3w.f (k+1) x=fnK Z3w ZdL Zin k x:=by kernel_rfl
theorem ZGl(x:Tup Z3w.ps):Z3w.f 0 x=none:=by kernel_rfl
theorem ZFe(k:Nat):LOK Tryz.prog ZdL k Zin:=LOK.by [] (by kernel_rfl) AllOK.nil
theorem ZEE(k:Nat):SoundAt Tryz.prog k 117 Z3w.E:= @Z5 Tryz.prog Z3w ZdL 117 Tryz.f117 Zin (by kernel_rfl) (by kernel_rfl) (by kernel_rfl) Tryz.func117 (by kernel_rfl) (by kernel_rfl) (by kernel_rfl) T_ok ZEq ZFe ZGl ZFv k
noncomputable def ZH:List PK:=[PK.mk (.pair I6 (.pair I6 (.pair (.slice 76 P6) (.pair (.slice 3 I6) (.slice 3 I6))))) true none false none]
noncomputable def Zk3:List PK:=[PK.mk (.pair (.slice 5 (.int .u8)) (.pair I6 (.int .u64))) false none false (some 105)]
noncomputable def Zjd(r:(Int×Int×List (Int×Int)×List Int×List Int)×Int×Int):Tup ZH×OutD:=((r.1,()),some ⟨Ty.pair (Ty.slice (5:Nat) (Ty.int .u8)) (Ty.pair (Ty.int .i64) (Ty.int .u64)),[([],r.2)]⟩)
noncomputable def Zd4:Tup ZH×OutD→Option ((Int×Int×List (Int×Int)×List Int×List Int)×Int×Int)
 |(a,some ⟨u,ys⟩)=>if h:u=Ty.pair (Ty.slice (5:Nat) (Ty.int .u8)) (Ty.pair (Ty.int .i64) (Ty.int .u64)) then (match castU h ys with
  |[([],y)]=>some (a.1,y)
  |_=>none) else none
 |_=>none
theorem ZpO: ∀b r,Zd4 b=some r→Zjd r=b:=by
 rintro ⟨a,o⟩ r h
 cases o with
 |none=>cases h
 |some s=>
  obtain ⟨u,ys⟩:=s
  simp only[Zd4]at h
  split at h
  ·rename_i hu
   subst hu
   match ys,h with
   |[],h=>cases (show (none:Option _)=some r from h)
   |[([],y)],h=>injection (show some _=some r from h) with h;subst h;rfl
   |[(_::_,y)],h=>cases (show (none:Option _)=some r from h)
   |(h1,_)::_::_,h=>cases h1<;>cases (show (none:Option _)=some r from h)
  ·cases h
noncomputable def Z3l:Nat→Int→Int→List Int→Int→Int→List (Int×Int)→List Int→List Int→Int→Int→List (Int×Int)→List Int→List Int→List (Int×Int)→Int→Int→Option (Int×Int×List Int×Int×Int×List (Int×Int)×List Int×List Int×Int×Int×List (Int×Int)×List Int×List Int)
 |0,_,_,_,_,_,_,_,_,_,_,_,_,_,_,_,_=>none
 |k+1,b1_1,b1_2,o2,b3_0,b3_1,o4,o5,o6,b7_0,b7_1,o8,o9,o10,o11,v5,v6=>
  if decide ((↑(List.length o8):Int)<v5)=true then if (↑(List.length o11):Int)=0 then none else if (0:Int)≤Int.tmod v6 (↑(List.length o11):Int) then if Int.tmod v6 (↑(List.length o11):Int)<(↑(List.length o11):Int) then if List.length o8+List.length [(Prod.fst (List.getD o11 (Int.toNat (Int.tmod v6 (↑(List.length o11):Int))) ((0:Int),(0:Int))),Prod.snd (List.getD o11 (Int.toNat (Int.tmod v6 (↑(List.length o11):Int))) ((0:Int),(0:Int))))]≤(140737488355328/16:Nat) then Z3l k b1_1 b1_2 o2 b3_0 b3_1 o4 o5 o6 b7_0 b7_1 (o8++[(Prod.fst (List.getD o11 (Int.toNat (Int.tmod v6 (↑(List.length o11):Int))) ((0:Int),(0:Int))),Prod.snd (List.getD o11 (Int.toNat (Int.tmod v6 (↑(List.length o11):Int))) ((0:Int),(0:Int))))]) o9 o10 o11 v5 (wrap64 (v6+1)) else none else none else none else some (b1_1,b1_2,o2,b3_0,b3_1,o4,o5,o6,b7_0,b7_1,o8,o9,o10)
noncomputable def Zby:Spec:=Spec.mk [.ro,O3,Oc,O9,O0,O1,O1,O8,O0,O1,O1,O0] [(0,.at (.ptr 1 0)),(2,.at (.ptr 3 0)),(3,.at (.ptr 7 0)),(4,.at (.sl 11)),(5,.at (.int .i64)),(6,.at (.int .i64))]
noncomputable def ZrD:Spec:=Spec.mk [.ro,O3,Oc,O9,O0,O1,O1,O8,O0,O1,O1] [(0,.at (.ptr 1 0)),(2,.at (.ptr 3 0)),(3,.at (.ptr 7 0))]
noncomputable def Z2J:LoopDef (Tup ZH×OutD):= .plain Zby ZrD (Int×Int×List Int×Int×Int×List (Int×Int)×List Int×List Int×Int×Int×List (Int×Int)×List Int×List Int) (fun k x=>Z3l k x.1.2.1.2.1 x.1.2.1.2.2.1 x.1.2.2.1 x.1.2.2.2.1.1 x.1.2.2.2.1.2.1 x.1.2.2.2.2.1 x.1.2.2.2.2.2.1 x.1.2.2.2.2.2.2.1 x.1.2.2.2.2.2.2.2.1.1 x.1.2.2.2.2.2.2.2.1.2.1 x.1.2.2.2.2.2.2.2.2.1 x.1.2.2.2.2.2.2.2.2.2.1 x.1.2.2.2.2.2.2.2.2.2.2.1 x.1.2.2.2.2.2.2.2.2.2.2.2.1 x.2.2.2.2.2.1 x.2.2.2.2.2.2.1) (fun z=>(((),((),z.1,z.2.1,()),z.2.2.1,(z.2.2.2.1,z.2.2.2.2.1,(),(),(),()),z.2.2.2.2.2.1,z.2.2.2.2.2.2.1,z.2.2.2.2.2.2.2.1,(z.2.2.2.2.2.2.2.2.1,z.2.2.2.2.2.2.2.2.2.1,(),(),(),()),z.2.2.2.2.2.2.2.2.2.2.1,z.2.2.2.2.2.2.2.2.2.2.2.1,z.2.2.2.2.2.2.2.2.2.2.2.2,()),((),(),(),()))) (fun y=>(y.1.2.1.2.1,y.1.2.1.2.2.1,y.1.2.2.1,y.1.2.2.2.1.1,y.1.2.2.2.1.2.1,y.1.2.2.2.2.1,y.1.2.2.2.2.2.1,y.1.2.2.2.2.2.2.1,y.1.2.2.2.2.2.2.2.1.1,y.1.2.2.2.2.2.2.2.1.2.1,y.1.2.2.2.2.2.2.2.2.1,y.1.2.2.2.2.2.2.2.2.2.1,y.1.2.2.2.2.2.2.2.2.2.2.1)) (fun _=>rfl)
noncomputable def Z2t:Nat→Int→Int→List Int→Int→Int→List (Int×Int)→List Int→List Int→Int→Int→List (Int×Int)→List Int→List Int→Int→Option (Int×Int×List Int×Int×Int×List (Int×Int)×List Int×List Int×Int×Int×List (Int×Int)×List Int×List Int×Int):=fun k b1_1 b1_2 o2 b3_0 b3_1 o4 o5 o6 b7_0 b7_1 o8 o9 o10 v7=>
  Option.bind (Z1 k (o2,b1_1,b1_2) b7_1) fun z6=>if List.length o9+List.length [z6.1]≤(140737488355328/8:Nat) then some (z6.2.1,z6.2.2,o2,b3_0,b3_1,o4,o5,o6,b7_0,b7_1,o8,o9++[z6.1],o10,v7) else none
noncomputable def Z5F:Nat→Int→Int→List Int→Int→Int→List (Int×Int)→List Int→List Int→Int→Int→List (Int×Int)→List Int→List Int→Int→Option (List (Int×Int×List Int×Int×Int×List (Int×Int)×List Int×List Int×Int×Int×List (Int×Int)×List Int×List Int×Int)):=fun k b1_1 b1_2 o2 b3_0 b3_1 o4 o5 o6 b7_0 b7_1 o8 o9 o10 v7=>
  joinL (Option.bind (Z1 k (o2,b1_1,b1_2) b7_1) fun z7=>if List.length o9+List.length [z7.1]≤(140737488355328/8:Nat) then some [(z7.2.1,z7.2.2,o2,b3_0,b3_1,o4,o5,o6,b7_0,b7_1,o8,o9++[z7.1],o10,v7)] else none) (Option.bind (Z1 k (o2,b1_1,b1_2) b7_1) fun z8=>joinL (if List.length o9+List.length [z8.1]≤(140737488355328/8:Nat) then some [(z8.2.1,z8.2.2,o2,b3_0,b3_1,o4,o5,o6,b7_0,b7_1,o8,o9++[z8.1],o10,v7)] else none) (if List.length o9+List.length [z8.1]≤(140737488355328/8:Nat) then some [(z8.2.1,z8.2.2,o2,b3_0,b3_1,o4,o5,o6,b7_0,b7_1,o8,o9++[z8.1],o10,v7)] else none))
noncomputable def Zfu:Spec:=Spec.mk [.ro,O3,Oc,O9,O0,O1,O1,O8,O0,O1,O1] [(0,.at (.ptr 1 0)),(2,.at (.ptr 3 0)),(3,.at (.ptr 7 0)),(7,.at (.int .i64))]
noncomputable def Zp2:Spec:=Spec.mk [.ro,O3,Oc,O9,O0,O1,O1,O8,O0,O1,O1] [(0,.at (.ptr 1 0)),(2,.at (.ptr 3 0)),(3,.at (.ptr 7 0)),(7,.at (.int .i64))]
noncomputable def Z2a:LoopDef (Tup ZH×OutD):= .plain Zfu Zp2 (Int×Int×List Int×Int×Int×List (Int×Int)×List Int×List Int×Int×Int×List (Int×Int)×List Int×List Int×Int) (fun k x=>Z2t k x.1.2.1.2.1 x.1.2.1.2.2.1 x.1.2.2.1 x.1.2.2.2.1.1 x.1.2.2.2.1.2.1 x.1.2.2.2.2.1 x.1.2.2.2.2.2.1 x.1.2.2.2.2.2.2.1 x.1.2.2.2.2.2.2.2.1.1 x.1.2.2.2.2.2.2.2.1.2.1 x.1.2.2.2.2.2.2.2.2.1 x.1.2.2.2.2.2.2.2.2.2.1 x.1.2.2.2.2.2.2.2.2.2.2.1 x.2.2.2.2.1) (fun z=>(((),((),z.1,z.2.1,()),z.2.2.1,(z.2.2.2.1,z.2.2.2.2.1,(),(),(),()),z.2.2.2.2.2.1,z.2.2.2.2.2.2.1,z.2.2.2.2.2.2.2.1,(z.2.2.2.2.2.2.2.2.1,z.2.2.2.2.2.2.2.2.2.1,(),(),(),()),z.2.2.2.2.2.2.2.2.2.2.1,z.2.2.2.2.2.2.2.2.2.2.2.1,z.2.2.2.2.2.2.2.2.2.2.2.2.1,()),((),(),(),z.2.2.2.2.2.2.2.2.2.2.2.2.2,()))) (fun y=>(y.1.2.1.2.1,y.1.2.1.2.2.1,y.1.2.2.1,y.1.2.2.2.1.1,y.1.2.2.2.1.2.1,y.1.2.2.2.2.1,y.1.2.2.2.2.2.1,y.1.2.2.2.2.2.2.1,y.1.2.2.2.2.2.2.2.1.1,y.1.2.2.2.2.2.2.2.1.2.1,y.1.2.2.2.2.2.2.2.2.1,y.1.2.2.2.2.2.2.2.2.2.1,y.1.2.2.2.2.2.2.2.2.2.2.1,y.2.2.2.2.1)) (fun _=>rfl)
theorem ZpK(k:Nat)(b1_1:Int)(b1_2:Int)(o2:List Int)(b3_0:Int)(b3_1:Int)(o4:List (Int×Int))(o5:List Int)(o6:List Int)(b7_0:Int)(b7_1:Int)(o8:List (Int×Int))(o9:List Int)(o10:List Int)(v7:Int):Z5F k b1_1 b1_2 o2 b3_0 b3_1 o4 o5 o6 b7_0 b7_1 o8 o9 o10 v7=repl 3 (Z2t k b1_1 b1_2 o2 b3_0 b3_1 o4 o5 o6 b7_0 b7_1 o8 o9 o10 v7):=by
 first
 |(simp only[Z5F,Z2t,Z9,Zc,Z6,Z8,Z7,Z3,if_true];done)
 |(simp only[Z5F,Z2t,Z9,Zc,Z6,Z8,Z7,Z3,if_true];simp only[Z1g,Z1i,Z2p,Z3];simp only[Z3E];exact Z1F ⟨fun h=>by simp only[h,and_self],fun h=>by simp only[h,and_self]⟩)
noncomputable def Z3f:Nat→Int→Int→List Int→Int→Int→List (Int×Int)→List Int→List Int→Int→Int→List (Int×Int)→List Int→List Int→Int→Option (Int×Int×List Int×Int×Int×List (Int×Int)×List Int×List Int×Int×Int×List (Int×Int)×List Int×List Int)
 |0,_,_,_,_,_,_,_,_,_,_,_,_,_,_=>none
 |k+1,b1_1,b1_2,o2,b3_0,b3_1,o4,o5,o6,b7_0,b7_1,o8,o9,o10,v7=>
  if decide (v7>0)=true then Option.bind (Z2t k b1_1 b1_2 o2 b3_0 b3_1 o4 o5 o6 b7_0 b7_1 o8 o9 o10 v7) fun z9=>Z3f k z9.1 z9.2.1 z9.2.2.1 z9.2.2.2.1 z9.2.2.2.2.1 z9.2.2.2.2.2.1 z9.2.2.2.2.2.2.1 z9.2.2.2.2.2.2.2.1 z9.2.2.2.2.2.2.2.2.1 z9.2.2.2.2.2.2.2.2.2.1 z9.2.2.2.2.2.2.2.2.2.2.1 z9.2.2.2.2.2.2.2.2.2.2.2.1 z9.2.2.2.2.2.2.2.2.2.2.2.2.1 (wrap64 (z9.2.2.2.2.2.2.2.2.2.2.2.2.2-1)) else some (b1_1,b1_2,o2,b3_0,b3_1,o4,o5,o6,b7_0,b7_1,o8,o9,o10)
noncomputable def ZbA:Spec:=Spec.mk [.ro,O3,Oc,O9,O0,O1,O1,O8,O0,O1,O1] [(0,.at (.ptr 1 0)),(2,.at (.ptr 3 0)),(3,.at (.ptr 7 0)),(7,.at (.int .i64))]
noncomputable def Zrk:Spec:=Spec.mk [.ro,O3,Oc,O9,O0,O1,O1,O8,O0,O1,O1] [(0,.at (.ptr 1 0)),(2,.at (.ptr 3 0)),(3,.at (.ptr 7 0))]
noncomputable def Z2M:LoopDef (Tup ZH×OutD):= .plain ZbA Zrk (Int×Int×List Int×Int×Int×List (Int×Int)×List Int×List Int×Int×Int×List (Int×Int)×List Int×List Int) (fun k x=>Z3f k x.1.2.1.2.1 x.1.2.1.2.2.1 x.1.2.2.1 x.1.2.2.2.1.1 x.1.2.2.2.1.2.1 x.1.2.2.2.2.1 x.1.2.2.2.2.2.1 x.1.2.2.2.2.2.2.1 x.1.2.2.2.2.2.2.2.1.1 x.1.2.2.2.2.2.2.2.1.2.1 x.1.2.2.2.2.2.2.2.2.1 x.1.2.2.2.2.2.2.2.2.2.1 x.1.2.2.2.2.2.2.2.2.2.2.1 x.2.2.2.2.1) (fun z=>(((),((),z.1,z.2.1,()),z.2.2.1,(z.2.2.2.1,z.2.2.2.2.1,(),(),(),()),z.2.2.2.2.2.1,z.2.2.2.2.2.2.1,z.2.2.2.2.2.2.2.1,(z.2.2.2.2.2.2.2.2.1,z.2.2.2.2.2.2.2.2.2.1,(),(),(),()),z.2.2.2.2.2.2.2.2.2.2.1,z.2.2.2.2.2.2.2.2.2.2.2.1,z.2.2.2.2.2.2.2.2.2.2.2.2,()),((),(),(),()))) (fun y=>(y.1.2.1.2.1,y.1.2.1.2.2.1,y.1.2.2.1,y.1.2.2.2.1.1,y.1.2.2.2.1.2.1,y.1.2.2.2.2.1,y.1.2.2.2.2.2.1,y.1.2.2.2.2.2.2.1,y.1.2.2.2.2.2.2.2.1.1,y.1.2.2.2.2.2.2.2.1.2.1,y.1.2.2.2.2.2.2.2.2.1,y.1.2.2.2.2.2.2.2.2.2.1,y.1.2.2.2.2.2.2.2.2.2.2.1)) (fun _=>rfl)
noncomputable def Z2r:Nat→Int→Int→List Int→Int→Int→List (Int×Int)→List Int→List Int→Int→Int→List (Int×Int)→List Int→List Int→Option (Int×Int×List Int×Int×Int×List (Int×Int)×List Int×List Int×Int×Int×List (Int×Int)×List Int×List Int×Int×Int×List (Int×Int)):=fun k b1_1 b1_2 o2 b3_0 b3_1 o4 o5 o6 b7_0 b7_1 o8 o9 o10=>
  Option.bind (Z2s k (b7_0,b7_1,o8,o9,o10)) fun z11=>Option.bind (Z1l k (7000:Int) z11) fun z12=>Option.bind (Z1 k (o2,b1_1,b1_2) z12) fun z13=>Option.bind (Zi k (b7_0,b7_1,o8,o9,o10) z13.1) fun z14=>some (z13.2.1,z13.2.2,o2,b3_0,b3_1,o4,o5,o6,b7_0,b7_1,o8,o9,o10,z14.1,z14.2.1,z14.2.2)
noncomputable def Z5G:Nat→Int→Int→List Int→Int→Int→List (Int×Int)→List Int→List Int→Int→Int→List (Int×Int)→List Int→List Int→Option (List (Int×Int×List Int×Int×Int×List (Int×Int)×List Int×List Int×Int×Int×List (Int×Int)×List Int×List Int×Int×Int×List (Int×Int))):=fun k b1_1 b1_2 o2 b3_0 b3_1 o4 o5 o6 b7_0 b7_1 o8 o9 o10=>
  joinL (joinL (Option.bind (Z2s k (b7_0,b7_1,o8,o9,o10)) fun z15=>joinL (Option.bind (Z1l k (7000:Int) z15) fun z16=>joinL (Option.bind (Z1 k (o2,b1_1,b1_2) z16) fun z17=>joinL (Option.bind (Zi k (b7_0,b7_1,o8,o9,o10) z17.1) fun z18=>some [(z17.2.1,z17.2.2,o2,b3_0,b3_1,o4,o5,o6,b7_0,b7_1,o8,o9,o10,z18.1,z18.2.1,z18.2.2)]) (Option.bind (Zi k (b7_0,b7_1,o8,o9,o10) z17.1) fun z19=>some [(z17.2.1,z17.2.2,o2,b3_0,b3_1,o4,o5,o6,b7_0,b7_1,o8,o9,o10,z19.1,z19.2.1,z19.2.2)])) (Option.bind (Z1 k (o2,b1_1,b1_2) z16) fun z20=>Option.bind (Zi k (b7_0,b7_1,o8,o9,o10) z20.1) fun z21=>some [(z20.2.1,z20.2.2,o2,b3_0,b3_1,o4,o5,o6,b7_0,b7_1,o8,o9,o10,z21.1,z21.2.1,z21.2.2)])) (Option.bind (Z1l k (7000:Int) z15) fun z22=>Option.bind (Z1 k (o2,b1_1,b1_2) z22) fun z23=>Option.bind (Zi k (b7_0,b7_1,o8,o9,o10) z23.1) fun z24=>some [(z23.2.1,z23.2.2,o2,b3_0,b3_1,o4,o5,o6,b7_0,b7_1,o8,o9,o10,z24.1,z24.2.1,z24.2.2)])) (Option.bind (Z2s k (b7_0,b7_1,o8,o9,o10)) fun z25=>Option.bind (Z1l k (7000:Int) z25) fun z26=>Option.bind (Z1 k (o2,b1_1,b1_2) z26) fun z27=>Option.bind (Zi k (b7_0,b7_1,o8,o9,o10) z27.1) fun z28=>some [(z27.2.1,z27.2.2,o2,b3_0,b3_1,o4,o5,o6,b7_0,b7_1,o8,o9,o10,z28.1,z28.2.1,z28.2.2)])) (joinL (Option.bind (Z2s k (b7_0,b7_1,o8,o9,o10)) fun z29=>joinL (joinL (Option.bind (Z1l k (7000:Int) z29) fun z30=>joinL (Option.bind (Z1 k (o2,b1_1,b1_2) z30) fun z31=>joinL (Option.bind (Zi k (b7_0,b7_1,o8,o9,o10) z31.1) fun z32=>some [(z31.2.1,z31.2.2,o2,b3_0,b3_1,o4,o5,o6,b7_0,b7_1,o8,o9,o10,z32.1,z32.2.1,z32.2.2)]) (Option.bind (Zi k (b7_0,b7_1,o8,o9,o10) z31.1) fun z33=>some [(z31.2.1,z31.2.2,o2,b3_0,b3_1,o4,o5,o6,b7_0,b7_1,o8,o9,o10,z33.1,z33.2.1,z33.2.2)])) (Option.bind (Z1 k (o2,b1_1,b1_2) z30) fun z34=>Option.bind (Zi k (b7_0,b7_1,o8,o9,o10) z34.1) fun z35=>some [(z34.2.1,z34.2.2,o2,b3_0,b3_1,o4,o5,o6,b7_0,b7_1,o8,o9,o10,z35.1,z35.2.1,z35.2.2)])) (Option.bind (Z1l k (7000:Int) z29) fun z36=>Option.bind (Z1 k (o2,b1_1,b1_2) z36) fun z37=>Option.bind (Zi k (b7_0,b7_1,o8,o9,o10) z37.1) fun z38=>some [(z37.2.1,z37.2.2,o2,b3_0,b3_1,o4,o5,o6,b7_0,b7_1,o8,o9,o10,z38.1,z38.2.1,z38.2.2)])) (joinL (Option.bind (Z1l k (7000:Int) z29) fun z39=>joinL (joinL (Option.bind (Z1 k (o2,b1_1,b1_2) z39) fun z40=>joinL (Option.bind (Zi k (b7_0,b7_1,o8,o9,o10) z40.1) fun z41=>some [(z40.2.1,z40.2.2,o2,b3_0,b3_1,o4,o5,o6,b7_0,b7_1,o8,o9,o10,z41.1,z41.2.1,z41.2.2)]) (Option.bind (Zi k (b7_0,b7_1,o8,o9,o10) z40.1) fun z42=>some [(z40.2.1,z40.2.2,o2,b3_0,b3_1,o4,o5,o6,b7_0,b7_1,o8,o9,o10,z42.1,z42.2.1,z42.2.2)])) (Option.bind (Z1 k (o2,b1_1,b1_2) z39) fun z43=>Option.bind (Zi k (b7_0,b7_1,o8,o9,o10) z43.1) fun z44=>some [(z43.2.1,z43.2.2,o2,b3_0,b3_1,o4,o5,o6,b7_0,b7_1,o8,o9,o10,z44.1,z44.2.1,z44.2.2)])) (joinL (Option.bind (Z1 k (o2,b1_1,b1_2) z39) fun z45=>joinL (joinL (Option.bind (Zi k (b7_0,b7_1,o8,o9,o10) z45.1) fun z46=>some [(z45.2.1,z45.2.2,o2,b3_0,b3_1,o4,o5,o6,b7_0,b7_1,o8,o9,o10,z46.1,z46.2.1,z46.2.2)]) (Option.bind (Zi k (b7_0,b7_1,o8,o9,o10) z45.1) fun z47=>some [(z45.2.1,z45.2.2,o2,b3_0,b3_1,o4,o5,o6,b7_0,b7_1,o8,o9,o10,z47.1,z47.2.1,z47.2.2)])) (Option.bind (Zi k (b7_0,b7_1,o8,o9,o10) z45.1) fun z48=>some [(z45.2.1,z45.2.2,o2,b3_0,b3_1,o4,o5,o6,b7_0,b7_1,o8,o9,o10,z48.1,z48.2.1,z48.2.2)])) (joinL (Option.bind (Z1 k (o2,b1_1,b1_2) z39) fun z49=>Option.bind (Zi k (b7_0,b7_1,o8,o9,o10) z49.1) fun z50=>some [(z49.2.1,z49.2.2,o2,b3_0,b3_1,o4,o5,o6,b7_0,b7_1,o8,o9,o10,z50.1,z50.2.1,z50.2.2)]) (Option.bind (Z1 k (o2,b1_1,b1_2) z39) fun z51=>Option.bind (Zi k (b7_0,b7_1,o8,o9,o10) z51.1) fun z52=>some [(z51.2.1,z51.2.2,o2,b3_0,b3_1,o4,o5,o6,b7_0,b7_1,o8,o9,o10,z52.1,z52.2.1,z52.2.2)])))) (joinL (Option.bind (Z1l k (7000:Int) z29) fun z53=>Option.bind (Z1 k (o2,b1_1,b1_2) z53) fun z54=>Option.bind (Zi k (b7_0,b7_1,o8,o9,o10) z54.1) fun z55=>some [(z54.2.1,z54.2.2,o2,b3_0,b3_1,o4,o5,o6,b7_0,b7_1,o8,o9,o10,z55.1,z55.2.1,z55.2.2)]) (Option.bind (Z1l k (7000:Int) z29) fun z56=>joinL (Option.bind (Z1 k (o2,b1_1,b1_2) z56) fun z57=>Option.bind (Zi k (b7_0,b7_1,o8,o9,o10) z57.1) fun z58=>some [(z57.2.1,z57.2.2,o2,b3_0,b3_1,o4,o5,o6,b7_0,b7_1,o8,o9,o10,z58.1,z58.2.1,z58.2.2)]) (Option.bind (Z1 k (o2,b1_1,b1_2) z56) fun z59=>Option.bind (Zi k (b7_0,b7_1,o8,o9,o10) z59.1) fun z60=>some [(z59.2.1,z59.2.2,o2,b3_0,b3_1,o4,o5,o6,b7_0,b7_1,o8,o9,o10,z60.1,z60.2.1,z60.2.2)]))))) (joinL (Option.bind (Z2s k (b7_0,b7_1,o8,o9,o10)) fun z61=>Option.bind (Z1l k (7000:Int) z61) fun z62=>Option.bind (Z1 k (o2,b1_1,b1_2) z62) fun z63=>Option.bind (Zi k (b7_0,b7_1,o8,o9,o10) z63.1) fun z64=>some [(z63.2.1,z63.2.2,o2,b3_0,b3_1,o4,o5,o6,b7_0,b7_1,o8,o9,o10,z64.1,z64.2.1,z64.2.2)]) (Option.bind (Z2s k (b7_0,b7_1,o8,o9,o10)) fun z65=>joinL (Option.bind (Z1l k (7000:Int) z65) fun z66=>Option.bind (Z1 k (o2,b1_1,b1_2) z66) fun z67=>Option.bind (Zi k (b7_0,b7_1,o8,o9,o10) z67.1) fun z68=>some [(z67.2.1,z67.2.2,o2,b3_0,b3_1,o4,o5,o6,b7_0,b7_1,o8,o9,o10,z68.1,z68.2.1,z68.2.2)]) (Option.bind (Z1l k (7000:Int) z65) fun z69=>joinL (Option.bind (Z1 k (o2,b1_1,b1_2) z69) fun z70=>Option.bind (Zi k (b7_0,b7_1,o8,o9,o10) z70.1) fun z71=>some [(z70.2.1,z70.2.2,o2,b3_0,b3_1,o4,o5,o6,b7_0,b7_1,o8,o9,o10,z71.1,z71.2.1,z71.2.2)]) (Option.bind (Z1 k (o2,b1_1,b1_2) z69) fun z72=>Option.bind (Zi k (b7_0,b7_1,o8,o9,o10) z72.1) fun z73=>some [(z72.2.1,z72.2.2,o2,b3_0,b3_1,o4,o5,o6,b7_0,b7_1,o8,o9,o10,z73.1,z73.2.1,z73.2.2)])))))
noncomputable def Zfy:Spec:=Spec.mk [.ro,O3,Oc,O9,O0,O1,O1,O8,O0,O1,O1] [(0,.at (.ptr 1 0)),(2,.at (.ptr 3 0)),(3,.at (.ptr 7 0))]
noncomputable def Zpo:Spec:=Spec.mk [.ro,O3,Oc,O9,O0,O1,O1,O8,O0,O1,O1,Oo,O0] [(0,.at (.ptr 1 0)),(2,.at (.ptr 3 0)),(3,.at (.ptr 7 0)),(8,.at (.ptr 11 0))]
noncomputable def Z2f:LoopDef (Tup ZH×OutD):= .plain Zfy Zpo (Int×Int×List Int×Int×Int×List (Int×Int)×List Int×List Int×Int×Int×List (Int×Int)×List Int×List Int×Int×Int×List (Int×Int)) (fun k x=>Z2r k x.1.2.1.2.1 x.1.2.1.2.2.1 x.1.2.2.1 x.1.2.2.2.1.1 x.1.2.2.2.1.2.1 x.1.2.2.2.2.1 x.1.2.2.2.2.2.1 x.1.2.2.2.2.2.2.1 x.1.2.2.2.2.2.2.2.1.1 x.1.2.2.2.2.2.2.2.1.2.1 x.1.2.2.2.2.2.2.2.2.1 x.1.2.2.2.2.2.2.2.2.2.1 x.1.2.2.2.2.2.2.2.2.2.2.1) (fun z=>(((),((),z.1,z.2.1,()),z.2.2.1,(z.2.2.2.1,z.2.2.2.2.1,(),(),(),()),z.2.2.2.2.2.1,z.2.2.2.2.2.2.1,z.2.2.2.2.2.2.2.1,(z.2.2.2.2.2.2.2.2.1,z.2.2.2.2.2.2.2.2.2.1,(),(),(),()),z.2.2.2.2.2.2.2.2.2.2.1,z.2.2.2.2.2.2.2.2.2.2.2.1,z.2.2.2.2.2.2.2.2.2.2.2.2.1,(z.2.2.2.2.2.2.2.2.2.2.2.2.2.1,z.2.2.2.2.2.2.2.2.2.2.2.2.2.2.1,(),()),z.2.2.2.2.2.2.2.2.2.2.2.2.2.2.2,()),((),(),(),(),()))) (fun y=>(y.1.2.1.2.1,y.1.2.1.2.2.1,y.1.2.2.1,y.1.2.2.2.1.1,y.1.2.2.2.1.2.1,y.1.2.2.2.2.1,y.1.2.2.2.2.2.1,y.1.2.2.2.2.2.2.1,y.1.2.2.2.2.2.2.2.1.1,y.1.2.2.2.2.2.2.2.1.2.1,y.1.2.2.2.2.2.2.2.2.1,y.1.2.2.2.2.2.2.2.2.2.1,y.1.2.2.2.2.2.2.2.2.2.2.1,y.1.2.2.2.2.2.2.2.2.2.2.2.1.1,y.1.2.2.2.2.2.2.2.2.2.2.2.1.2.1,y.1.2.2.2.2.2.2.2.2.2.2.2.2.1)) (fun _=>rfl)
theorem Zp5(k:Nat)(b1_1:Int)(b1_2:Int)(o2:List Int)(b3_0:Int)(b3_1:Int)(o4:List (Int×Int))(o5:List Int)(o6:List Int)(b7_0:Int)(b7_1:Int)(o8:List (Int×Int))(o9:List Int)(o10:List Int):Z5G k b1_1 b1_2 o2 b3_0 b3_1 o4 o5 o6 b7_0 b7_1 o8 o9 o10=repl 24 (Z2r k b1_1 b1_2 o2 b3_0 b3_1 o4 o5 o6 b7_0 b7_1 o8 o9 o10):=by
 first
 |(simp only[Z5G,Z2r,Z9,Zc,Z6,Z8,Z7,Z3,if_true];done)
 |(simp only[Z5G,Z2r,Z9,Zc,Z6,Z8,Z7,Z3,if_true];simp only[Z1g,Z1i,Z2p,Z3];simp only[Z3E];exact Z1F ⟨fun h=>by simp only[h,and_self],fun h=>by simp only[h,and_self]⟩)
noncomputable def Z3m:Nat→Int→Int→List Int→Int→Int→List (Int×Int)→List Int→List Int→Int→Int→List (Int×Int)→List Int→List Int→Int→Int→List (Int×Int)→Int→Int→List (Int×Int)→Int→Int→Option (Int×Int×List Int×Int×Int×List (Int×Int)×List Int×List Int×Int×Int×List (Int×Int)×List Int×List Int)
 |0,_,_,_,_,_,_,_,_,_,_,_,_,_,_,_,_,_,_,_,_,_=>none
 |k+1,b1_1,b1_2,o2,b3_0,b3_1,o4,o5,o6,b7_0,b7_1,o8,o9,o10,b11_0,b11_1,o12,b13_0,b13_1,o14,v82,v83=>
  if decide (v83<v82)=true then if (0:Int)≤v83 then if v83<(↑(List.length o9):Int) then Option.bind (Zie k (b13_0,b13_1,o14) (List.getD o9 (Int.toNat v83) (0:Int))) fun z75=>Option.bind (ZhN k (b11_0,b11_1,o12) (z75.1.1,z75.1.2.1,z75.1.2.2)) fun z76=>if List.length o10+List.length [z76]≤(140737488355328/8:Nat) then Z3m k b1_1 b1_2 o2 b3_0 b3_1 o4 o5 o6 b7_0 b7_1 o8 o9 (o10++[z76]) b11_0 b11_1 o12 z75.2.1 z75.2.2.1 z75.2.2.2 v82 (wrap64 (v83+1)) else none else none else none else some (b1_1,b1_2,o2,b3_0,b3_1,o4,o5,o6,b7_0,b7_1,o8,o9,o10)
noncomputable def Zbk:Spec:=Spec.mk [.ro,O3,Oc,O9,O0,O1,O1,O8,O0,O1,O1,Oo,.fx P6,.box 29 [.int .i64,.int .i64,.sl 14],.fx P6] [(0,.at (.ptr 1 0)),(2,.at (.ptr 3 0)),(3,.at (.ptr 7 0)),(8,.at (.ptr 11 0)),(9,.at (.ptr 13 0)),(81,.at (.sl 9)),(82,.at (.int .i64)),(83,.at (.int .i64))]
noncomputable def ZqZ:Spec:=Spec.mk [.ro,O3,Oc,O9,O0,O1,O1,O8,O0,O1,O1] [(0,.at (.ptr 1 0)),(2,.at (.ptr 3 0)),(3,.at (.ptr 7 0))]
noncomputable def Z2K:LoopDef (Tup ZH×OutD):= .plain Zbk ZqZ (Int×Int×List Int×Int×Int×List (Int×Int)×List Int×List Int×Int×Int×List (Int×Int)×List Int×List Int) (fun k x=>Z3m k x.1.2.1.2.1 x.1.2.1.2.2.1 x.1.2.2.1 x.1.2.2.2.1.1 x.1.2.2.2.1.2.1 x.1.2.2.2.2.1 x.1.2.2.2.2.2.1 x.1.2.2.2.2.2.2.1 x.1.2.2.2.2.2.2.2.1.1 x.1.2.2.2.2.2.2.2.1.2.1 x.1.2.2.2.2.2.2.2.2.1 x.1.2.2.2.2.2.2.2.2.2.1 x.1.2.2.2.2.2.2.2.2.2.2.1 x.1.2.2.2.2.2.2.2.2.2.2.2.1.1 x.1.2.2.2.2.2.2.2.2.2.2.2.1.2.1 x.1.2.2.2.2.2.2.2.2.2.2.2.2.1 x.1.2.2.2.2.2.2.2.2.2.2.2.2.2.1.1 x.1.2.2.2.2.2.2.2.2.2.2.2.2.2.1.2.1 x.1.2.2.2.2.2.2.2.2.2.2.2.2.2.2.1 x.2.2.2.2.2.2.2.1 x.2.2.2.2.2.2.2.2.1) (fun z=>(((),((),z.1,z.2.1,()),z.2.2.1,(z.2.2.2.1,z.2.2.2.2.1,(),(),(),()),z.2.2.2.2.2.1,z.2.2.2.2.2.2.1,z.2.2.2.2.2.2.2.1,(z.2.2.2.2.2.2.2.2.1,z.2.2.2.2.2.2.2.2.2.1,(),(),(),()),z.2.2.2.2.2.2.2.2.2.2.1,z.2.2.2.2.2.2.2.2.2.2.2.1,z.2.2.2.2.2.2.2.2.2.2.2.2,()),((),(),(),()))) (fun y=>(y.1.2.1.2.1,y.1.2.1.2.2.1,y.1.2.2.1,y.1.2.2.2.1.1,y.1.2.2.2.1.2.1,y.1.2.2.2.2.1,y.1.2.2.2.2.2.1,y.1.2.2.2.2.2.2.1,y.1.2.2.2.2.2.2.2.1.1,y.1.2.2.2.2.2.2.2.1.2.1,y.1.2.2.2.2.2.2.2.2.1,y.1.2.2.2.2.2.2.2.2.2.1,y.1.2.2.2.2.2.2.2.2.2.2.1)) (fun _=>rfl)
noncomputable def Z2v:Nat→Int→Int→List Int→Int→Int→List (Int×Int)→List Int→List Int→Int→Int→List (Int×Int)→List Int→List Int→Option (Int×Int×List Int×Int×Int×List (Int×Int)×List Int×List Int×Int×Int×List (Int×Int)×List Int×List Int):=fun k b1_1 b1_2 o2 b3_0 b3_1 o4 o5 o6 b7_0 b7_1 o8 o9 o10=>
  Option.bind (Z1 k (o2,b1_1,b1_2) (wrap64 (b7_1+2))) fun z79=>if (0:Int)<(↑(List.length o10):Int) then some (z79.2.1,z79.2.2,o2,b3_0,b3_1,o4,o5,o6,b7_0,b7_1,o8,o9,List.set o10 (Int.toNat (0:Int)) z79.1) else none
noncomputable def Z5J:Nat→Int→Int→List Int→Int→Int→List (Int×Int)→List Int→List Int→Int→Int→List (Int×Int)→List Int→List Int→Option (List (Int×Int×List Int×Int×Int×List (Int×Int)×List Int×List Int×Int×Int×List (Int×Int)×List Int×List Int)):=fun k b1_1 b1_2 o2 b3_0 b3_1 o4 o5 o6 b7_0 b7_1 o8 o9 o10=>
  joinL (Option.bind (Z1 k (o2,b1_1,b1_2) (wrap64 (b7_1+2))) fun z80=>if (0:Int)<(↑(List.length o10):Int) then some [(z80.2.1,z80.2.2,o2,b3_0,b3_1,o4,o5,o6,b7_0,b7_1,o8,o9,List.set o10 (Int.toNat (0:Int)) z80.1)] else none) (Option.bind (Z1 k (o2,b1_1,b1_2) (wrap64 (b7_1+2))) fun z81=>if (0:Int)<(↑(List.length o10):Int) then some [(z81.2.1,z81.2.2,o2,b3_0,b3_1,o4,o5,o6,b7_0,b7_1,o8,o9,List.set o10 (Int.toNat (0:Int)) z81.1)] else none)
noncomputable def Zfv:Spec:=Spec.mk [.ro,O3,Oc,O9,O0,O1,O1,O8,O0,O1,O1] [(0,.at (.ptr 1 0)),(2,.at (.ptr 3 0)),(3,.at (.ptr 7 0))]
noncomputable def Zpa:Spec:=Spec.mk [.ro,O3,Oc,O9,O0,O1,O1,O8,O0,O1,O1] [(2,.at (.ptr 3 0)),(3,.at (.ptr 7 0))]
noncomputable def Z2b:LoopDef (Tup ZH×OutD):= .plain Zfv Zpa (Int×Int×List Int×Int×Int×List (Int×Int)×List Int×List Int×Int×Int×List (Int×Int)×List Int×List Int) (fun k x=>Z2v k x.1.2.1.2.1 x.1.2.1.2.2.1 x.1.2.2.1 x.1.2.2.2.1.1 x.1.2.2.2.1.2.1 x.1.2.2.2.2.1 x.1.2.2.2.2.2.1 x.1.2.2.2.2.2.2.1 x.1.2.2.2.2.2.2.2.1.1 x.1.2.2.2.2.2.2.2.1.2.1 x.1.2.2.2.2.2.2.2.2.1 x.1.2.2.2.2.2.2.2.2.2.1 x.1.2.2.2.2.2.2.2.2.2.2.1) (fun z=>(((),((),z.1,z.2.1,()),z.2.2.1,(z.2.2.2.1,z.2.2.2.2.1,(),(),(),()),z.2.2.2.2.2.1,z.2.2.2.2.2.2.1,z.2.2.2.2.2.2.2.1,(z.2.2.2.2.2.2.2.2.1,z.2.2.2.2.2.2.2.2.2.1,(),(),(),()),z.2.2.2.2.2.2.2.2.2.2.1,z.2.2.2.2.2.2.2.2.2.2.2.1,z.2.2.2.2.2.2.2.2.2.2.2.2,()),((),(),()))) (fun y=>(y.1.2.1.2.1,y.1.2.1.2.2.1,y.1.2.2.1,y.1.2.2.2.1.1,y.1.2.2.2.1.2.1,y.1.2.2.2.2.1,y.1.2.2.2.2.2.1,y.1.2.2.2.2.2.2.1,y.1.2.2.2.2.2.2.2.1.1,y.1.2.2.2.2.2.2.2.1.2.1,y.1.2.2.2.2.2.2.2.2.1,y.1.2.2.2.2.2.2.2.2.2.1,y.1.2.2.2.2.2.2.2.2.2.2.1)) (fun _=>rfl)
theorem Zpw(k:Nat)(b1_1:Int)(b1_2:Int)(o2:List Int)(b3_0:Int)(b3_1:Int)(o4:List (Int×Int))(o5:List Int)(o6:List Int)(b7_0:Int)(b7_1:Int)(o8:List (Int×Int))(o9:List Int)(o10:List Int):Z5J k b1_1 b1_2 o2 b3_0 b3_1 o4 o5 o6 b7_0 b7_1 o8 o9 o10=repl 2 (Z2v k b1_1 b1_2 o2 b3_0 b3_1 o4 o5 o6 b7_0 b7_1 o8 o9 o10):=by
 first
 |(simp only[Z5J,Z2v,Z9,Zc,Z6,Z8,Z7,Z3,if_true];done)
 |(simp only[Z5J,Z2v,Z9,Zc,Z6,Z8,Z7,Z3,if_true];simp only[Z1g,Z1i,Z2p,Z3];simp only[Z3E];exact Z1F ⟨fun h=>by simp only[h,and_self],fun h=>by simp only[h,and_self]⟩)
noncomputable def Z9x:Nat→List Int×Int×Int→Option ((Int×Int×List (Int×Int)×List Int×List Int)×Int×Int)
 |0,_=>none
 |k+1,p0=>
  Option.bind (Z1 k (p0.1,p0.2.1,p0.2.2) (2:Int)) fun z0=>Option.bind (Z1 k (p0.1,z0.2.1,z0.2.2) (3:Int)) fun z1=>Option.bind (Z1 k (p0.1,z1.2.1,z1.2.2) (3:Int)) fun z2=>Option.bind (Z1 k (p0.1,z2.2.1,z2.2.2) (↑(List.length [((1:Int),(0:Int)),((2:Int),(0:Int)),((3:Int),(0:Int)),((3:Int),(1:Int)),((4:Int),(0:Int)),((5:Int),(0:Int)),((6:Int),(0:Int)),((7:Int),(0:Int))]):Int)) fun z3=>Option.bind (Z3l k z3.2.1 z3.2.2 p0.1 (0:Int) (0:Int) [] [] [] (wrap64 ((1:Int)+z0.1)) (wrap64 ((1:Int)+z1.1)) [] [] [] [((1:Int),(0:Int)),((2:Int),(0:Int)),((3:Int),(0:Int)),((3:Int),(1:Int)),((4:Int),(0:Int)),((5:Int),(0:Int)),((6:Int),(0:Int)),((7:Int),(0:Int))] (wrap64 ((1:Int)+z2.1)) z3.1) fun z4=>Option.bind (Z1 k (z4.2.2.1,z4.1,z4.2.1) (4:Int)) fun z5=>Option.bind (Z3f k z5.2.1 z5.2.2 z4.2.2.1 z4.2.2.2.1 z4.2.2.2.2.1 z4.2.2.2.2.2.1 z4.2.2.2.2.2.2.1 z4.2.2.2.2.2.2.2.1 z4.2.2.2.2.2.2.2.2.1 z4.2.2.2.2.2.2.2.2.2.1 z4.2.2.2.2.2.2.2.2.2.2.1 z4.2.2.2.2.2.2.2.2.2.2.2.1 z4.2.2.2.2.2.2.2.2.2.2.2.2 (wrap64 ((1:Int)+z5.1))) fun z10=>Option.bind (Z2r k z10.1 z10.2.1 z10.2.2.1 z10.2.2.2.1 z10.2.2.2.2.1 z10.2.2.2.2.2.1 z10.2.2.2.2.2.2.1 z10.2.2.2.2.2.2.2.1 z10.2.2.2.2.2.2.2.2.1 z10.2.2.2.2.2.2.2.2.2.1 z10.2.2.2.2.2.2.2.2.2.2.1 z10.2.2.2.2.2.2.2.2.2.2.2.1 z10.2.2.2.2.2.2.2.2.2.2.2.2) fun z74=>Option.bind (Z3m k z74.1 z74.2.1 z74.2.2.1 z74.2.2.2.1 z74.2.2.2.2.1 z74.2.2.2.2.2.1 z74.2.2.2.2.2.2.1 z74.2.2.2.2.2.2.2.1 z74.2.2.2.2.2.2.2.2.1 z74.2.2.2.2.2.2.2.2.2.1 z74.2.2.2.2.2.2.2.2.2.2.1 z74.2.2.2.2.2.2.2.2.2.2.2.1 z74.2.2.2.2.2.2.2.2.2.2.2.2.1 z74.2.2.2.2.2.2.2.2.2.2.2.2.2.1 z74.2.2.2.2.2.2.2.2.2.2.2.2.2.2.1 z74.2.2.2.2.2.2.2.2.2.2.2.2.2.2.2 z74.2.2.2.2.2.2.2.2.2.2.2.2.2.1 z74.2.2.2.2.2.2.2.2.2.2.2.2.2.2.1 z74.2.2.2.2.2.2.2.2.2.2.2.2.2.2.2 (↑(List.length z74.2.2.2.2.2.2.2.2.2.2.2.1):Int) (0:Int)) fun z77=>Option.bind (ZK k (z77.2.2.1,z77.1,z77.2.1) (6:Int)) fun z78=>if z78.1=true then Option.bind (Z2v k z78.2.1 z78.2.2 z77.2.2.1 z77.2.2.2.1 z77.2.2.2.2.1 z77.2.2.2.2.2.1 z77.2.2.2.2.2.2.1 z77.2.2.2.2.2.2.2.1 z77.2.2.2.2.2.2.2.2.1 z77.2.2.2.2.2.2.2.2.2.1 z77.2.2.2.2.2.2.2.2.2.2.1 z77.2.2.2.2.2.2.2.2.2.2.2.1 z77.2.2.2.2.2.2.2.2.2.2.2.2) fun z82=>some ((z82.2.2.2.2.2.2.2.2.1,z82.2.2.2.2.2.2.2.2.2.1,z82.2.2.2.2.2.2.2.2.2.2.1,z82.2.2.2.2.2.2.2.2.2.2.2.1,z82.2.2.2.2.2.2.2.2.2.2.2.2),z82.1,z82.2.1) else some ((z77.2.2.2.2.2.2.2.2.1,z77.2.2.2.2.2.2.2.2.2.1,z77.2.2.2.2.2.2.2.2.2.2.1,z77.2.2.2.2.2.2.2.2.2.2.2.1,z77.2.2.2.2.2.2.2.2.2.2.2.2),z78.2.1,z78.2.2)
noncomputable def Z1V:FnDef:= .of Zk3 ZH ((Int×Int×List (Int×Int)×List Int×List Int)×Int×Int) (fun k x=>Z9x k x.1) Zjd Zd4 ZpO
noncomputable def Z1r:Code:=Tryz.f119.body.getD .skip
noncomputable def Za:Ctx (Tup ZH×OutD):={T:=T,G:=[(116,Zq.E),(78,Z3Y.E),(129,Z6A.E),(47,Z3W.E),(107,Z7v.E),(108,Z7c.E),(95,ZU.E)],mvs:=[],no:=2,n:=114,res:=resOf T Zk3 ZH Tryz.f119.results.toList,loops:=[(0,Z2J.E),(2,Z2M.E),(4,Z2K.E)],regs:=[(11,Z2a.E),(12,Z2f.E),(22,Z2b.E)],conds:=[],cuts:=[]}
theorem Z2G(k:Nat):EnvOK Tryz.prog k Za.G:=(EnvOK.cons (Z1I k) (EnvOK.cons (ZoK k) (EnvOK.cons (ZO6 k) (EnvOK.cons (Zoy k) (EnvOK.cons (ZE1 k) (EnvOK.cons (ZFJ k) (EnvOK.cons (Z6l k) (EnvOK.nil mixed))))))))
noncomputable def Z9T:Array Oper:=(findReg 11 Z1r).getD #[]
theorem ZpN(k:Nat)(x:Zfu.D):execD Za.T Za.G Za.mvs k Z9T (Z2a.inp.st Za.n x) (outK Za Z2a)=Z5F k x.1.2.1.2.1 x.1.2.1.2.2.1 x.1.2.2.1 x.1.2.2.2.1.1 x.1.2.2.2.1.2.1 x.1.2.2.2.2.1 x.1.2.2.2.2.2.1 x.1.2.2.2.2.2.2.1 x.1.2.2.2.2.2.2.2.1.1 x.1.2.2.2.2.2.2.2.1.2.1 x.1.2.2.2.2.2.2.2.2.1 x.1.2.2.2.2.2.2.2.2.2.1 x.1.2.2.2.2.2.2.2.2.2.2.1 x.2.2.2.2.1:=by kernel_rfl
theorem Zoc(k:Nat):EOK Tryz.prog Za k Z2a.E (.region 11 Z9T true):=Z4m (D:=Z2a) (m:=3) T_ok (Z2G k) (fun x=>(ZpN k x).trans (ZpK k x.1.2.1.2.1 x.1.2.1.2.2.1 x.1.2.2.1 x.1.2.2.2.1.1 x.1.2.2.2.1.2.1 x.1.2.2.2.2.1 x.1.2.2.2.2.2.1 x.1.2.2.2.2.2.2.1 x.1.2.2.2.2.2.2.2.1.1 x.1.2.2.2.2.2.2.2.1.2.1 x.1.2.2.2.2.2.2.2.2.1 x.1.2.2.2.2.2.2.2.2.2.1 x.1.2.2.2.2.2.2.2.2.2.2.1 x.2.2.2.2.1))
noncomputable def Z9X:Array Oper:=(findReg 12 Z1r).getD #[]
theorem Zp6(k:Nat)(x:Zfy.D):execD Za.T Za.G Za.mvs k Z9X (Z2f.inp.st Za.n x) (outK Za Z2f)=Z5G k x.1.2.1.2.1 x.1.2.1.2.2.1 x.1.2.2.1 x.1.2.2.2.1.1 x.1.2.2.2.1.2.1 x.1.2.2.2.2.1 x.1.2.2.2.2.2.1 x.1.2.2.2.2.2.2.1 x.1.2.2.2.2.2.2.2.1.1 x.1.2.2.2.2.2.2.2.1.2.1 x.1.2.2.2.2.2.2.2.2.1 x.1.2.2.2.2.2.2.2.2.2.1 x.1.2.2.2.2.2.2.2.2.2.2.1:=by kernel_rfl
theorem Zoq(k:Nat):EOK Tryz.prog Za k Z2f.E (.region 12 Z9X true):=Z4m (D:=Z2f) (m:=24) T_ok (Z2G k) (fun x=>(Zp6 k x).trans (Zp5 k x.1.2.1.2.1 x.1.2.1.2.2.1 x.1.2.2.1 x.1.2.2.2.1.1 x.1.2.2.2.1.2.1 x.1.2.2.2.2.1 x.1.2.2.2.2.2.1 x.1.2.2.2.2.2.2.1 x.1.2.2.2.2.2.2.2.1.1 x.1.2.2.2.2.2.2.2.1.2.1 x.1.2.2.2.2.2.2.2.2.1 x.1.2.2.2.2.2.2.2.2.2.1 x.1.2.2.2.2.2.2.2.2.2.2.1))
noncomputable def Z9S:Array Oper:=(findReg 22 Z1r).getD #[]
theorem Zpp(k:Nat)(x:Zfv.D):execD Za.T Za.G Za.mvs k Z9S (Z2b.inp.st Za.n x) (outK Za Z2b)=Z5J k x.1.2.1.2.1 x.1.2.1.2.2.1 x.1.2.2.1 x.1.2.2.2.1.1 x.1.2.2.2.1.2.1 x.1.2.2.2.2.1 x.1.2.2.2.2.2.1 x.1.2.2.2.2.2.2.1 x.1.2.2.2.2.2.2.2.1.1 x.1.2.2.2.2.2.2.2.1.2.1 x.1.2.2.2.2.2.2.2.2.1 x.1.2.2.2.2.2.2.2.2.2.1 x.1.2.2.2.2.2.2.2.2.2.2.1:=by kernel_rfl
theorem Zof(k:Nat):EOK Tryz.prog Za k Z2b.E (.region 22 Z9S true):=Z4m (D:=Z2b) (m:=2) T_ok (Z2G k) (fun x=>(Zpp k x).trans (Zpw k x.1.2.1.2.1 x.1.2.1.2.2.1 x.1.2.2.1 x.1.2.2.2.1.1 x.1.2.2.2.1.2.1 x.1.2.2.2.2.1 x.1.2.2.2.2.2.1 x.1.2.2.2.2.2.2.1 x.1.2.2.2.2.2.2.2.1.1 x.1.2.2.2.2.2.2.2.1.2.1 x.1.2.2.2.2.2.2.2.2.1 x.1.2.2.2.2.2.2.2.2.2.1 x.1.2.2.2.2.2.2.2.2.2.2.1))
noncomputable def Z6S:Code:=(findLoop 0 Z1r).getD .skip
theorem ZrE(k:Nat)(x:Zby.D):Z2J.lp (k+1) x=loopK Za Z2J 0 Z6S k x:=by kernel_rfl
theorem Zrm(k:Nat):LOK Tryz.prog Za k Z6S:=LOK.by [] (by kernel_rfl) AllOK.nil
theorem Zrj(x:Zby.D):Z2J.lp 0 x=none:=by kernel_rfl
theorem ZpU(k:Nat):EOK Tryz.prog Za k Z2J.E (.block 0 (.loop Z6S)):=Zd T_ok Z2G Zrj ZrE Zrm k
noncomputable def Z6W:Code:=(findLoop 2 Z1r).getD .skip
theorem Zrr(k:Nat)(x:ZbA.D):Z2M.lp (k+1) x=loopK Za Z2M 2 Z6W k x:=by kernel_rfl
theorem Zrh(k:Nat):LOK Tryz.prog Za k Z6W:=LOK.by [(Z2a.E,.region 11 Z9T true)] (by kernel_rfl) (AllOK.cons (Zoc k) AllOK.nil)
theorem Zri(x:ZbA.D):Z2M.lp 0 x=none:=by kernel_rfl
theorem Zq4(k:Nat):EOK Tryz.prog Za k Z2M.E (.block 2 (.loop Z6W)):=Zd T_ok Z2G Zri Zrr Zrh k
noncomputable def Z6U:Code:=(findLoop 4 Z1r).getD .skip
theorem ZrF(k:Nat)(x:Zbk.D):Z2K.lp (k+1) x=loopK Za Z2K 4 Z6U k x:=by kernel_rfl
theorem Zr0(k:Nat):LOK Tryz.prog Za k Z6U:=LOK.by [] (by kernel_rfl) AllOK.nil
theorem Zrz(x:Zbk.D):Z2K.lp 0 x=none:=by kernel_rfl
theorem Zq3(k:Nat):EOK Tryz.prog Za k Z2K.E (.block 4 (.loop Z6U)):=Zd T_ok Z2G Zrz ZrF Zr0 k
theorem ZvZ(k:Nat)(x:Tup Z1V.ps):Z1V.f (k+1) x=fnK Z1V Za Z1r k x:=by kernel_rfl
theorem Zwe(x:Tup Z1V.ps):Z1V.f 0 x=none:=by kernel_rfl
theorem Zw3(k:Nat):LOK Tryz.prog Za k Z1r:=LOK.by [(Z2J.E,.block 0 (.loop Z6S)),(Z2M.E,.block 2 (.loop Z6W)),(Z2f.E,.region 12 Z9X true),(Z2K.E,.block 4 (.loop Z6U)),(Z2b.E,.region 22 Z9S true)] (by kernel_rfl) (AllOK.cons (ZpU k) (AllOK.cons (Zq4 k) (AllOK.cons (Zoq k) (AllOK.cons (Zq3 k) (AllOK.cons (Zof k) AllOK.nil)))))
theorem ZvN(k:Nat):SoundAt Tryz.prog k 119 Z1V.E:= @Z5 Tryz.prog Z1V Za 119 Tryz.f119 Z1r (by kernel_rfl) (by kernel_rfl) (by kernel_rfl) Tryz.func119 (by kernel_rfl) (by kernel_rfl) (by kernel_rfl) T_ok Z2G Zw3 Zwe ZvZ k
noncomputable def Z9U:List PK:=[PK.mk (.pair I6 (.pair I6 (.slice 76 P6))) true none false none]
noncomputable def Zp9:List PK:=[PK.mk (.pair (.slice 5 (.int .u8)) (.pair I6 (.int .u64))) false none false (some 105)]
noncomputable def ZnV(r:(Int×Int×List (Int×Int))×Int×Int):Tup Z9U×OutD:=((r.1,()),some ⟨Ty.pair (Ty.slice (5:Nat) (Ty.int .u8)) (Ty.pair (Ty.int .i64) (Ty.int .u64)),[([],r.2)]⟩)
noncomputable def Zhc:Tup Z9U×OutD→Option ((Int×Int×List (Int×Int))×Int×Int)
 |(a,some ⟨u,ys⟩)=>if h:u=Ty.pair (Ty.slice (5:Nat) (Ty.int .u8)) (Ty.pair (Ty.int .i64) (Ty.int .u64)) then (match castU h ys with
  |[([],y)]=>some (a.1,y)
  |_=>none) else none
 |_=>none
theorem ZwE: ∀b r,Zhc b=some r→ZnV r=b:=by
 rintro ⟨a,o⟩ r h
 cases o with
 |none=>cases h
 |some s=>
  obtain ⟨u,ys⟩:=s
  simp only[Zhc]at h
  split at h
  ·rename_i hu
   subst hu
   match ys,h with
   |[],h=>cases (show (none:Option _)=some r from h)
   |[([],y)],h=>injection (show some _=some r from h) with h;subst h;rfl
   |[(_::_,y)],h=>cases (show (none:Option _)=some r from h)
   |(h1,_)::_::_,h=>cases h1<;>cases (show (none:Option _)=some r from h)
  ·cases h
noncomputable def Za4:Nat→List Int×Int×Int→Option ((Int×Int×List (Int×Int))×Int×Int)
 |0,_=>none
 |k+1,p0=>
  Option.bind (ZK k (p0.1,p0.2.1,p0.2.2) (20:Int)) fun z0=>if z0.1=true then Option.bind (Zb k (p0.1,z0.2.1,z0.2.2) [(1:Int),(10:Int)]) fun z1=>Option.bind (Zb k (p0.1,z1.2.1,z1.2.2) [(1:Int),(9:Int)]) fun z2=>Option.bind (Z2A k (p0.1,z2.2.1,z2.2.2) z1.1 z2.1) fun z3=>some ((z3.1.1,z3.1.2.1,z3.1.2.2),z3.2.1,z3.2.2) else Option.bind (Z1 k (p0.1,z0.2.1,z0.2.2) (5:Int)) fun z4=>Option.bind (Z1 k (p0.1,z4.2.1,z4.2.2) (5:Int)) fun z5=>Option.bind (Z2A k (p0.1,z5.2.1,z5.2.2) (wrap64 ((1:Int)+z4.1)) (wrap64 ((1:Int)+z5.1))) fun z6=>some ((z6.1.1,z6.1.2.1,z6.1.2.2),z6.2.1,z6.2.2)
noncomputable def Z3u:FnDef:= .of Zp9 Z9U ((Int×Int×List (Int×Int))×Int×Int) (fun k x=>Za4 k x.1) ZnV Zhc ZwE
noncomputable def ZhU:Code:=Tryz.f131.body.getD .skip
noncomputable def Zdt:Ctx (Tup Z9U×OutD):={T:=T,G:=[(95,ZU.E),(98,Zp.E),(121,Z1P.E),(116,Zq.E)],mvs:=[],no:=2,n:=21,res:=resOf T Zp9 Z9U Tryz.f131.results.toList,loops:=[],regs:=[],conds:=[],cuts:=[]}
theorem ZFX(k:Nat):EnvOK Tryz.prog k Zdt.G:=(EnvOK.cons (Z6l k) (EnvOK.cons (Z1S k) (EnvOK.cons (Zm2 k) (EnvOK.cons (Z1I k) (EnvOK.nil mixed)))))
theorem ZFf(k:Nat)(x:Tup Z3u.ps):Z3u.f (k+1) x=fnK Z3u Zdt ZhU k x:=by kernel_rfl
theorem ZFl(x:Tup Z3u.ps):Z3u.f 0 x=none:=by kernel_rfl
theorem ZG9(k:Nat):LOK Tryz.prog Zdt k ZhU:=LOK.by [] (by kernel_rfl) AllOK.nil
theorem ZFn(k:Nat):SoundAt Tryz.prog k 131 Z3u.E:= @Z5 Tryz.prog Z3u Zdt 131 Tryz.f131 ZhU (by kernel_rfl) (by kernel_rfl) (by kernel_rfl) Tryz.func131 (by kernel_rfl) (by kernel_rfl) (by kernel_rfl) T_ok ZFX ZG9 ZFl ZFf k
end
end Go.Proofs.YtmhfhiofcoggbaaGreat.Vs
