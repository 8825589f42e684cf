/- The proof, part 9. -/
import Derived.Test.YtmhfhiofcoggbaaGreatqT2m7
set_option maxRecDepth 100000
set_option maxHeartbeats 2000000
set_option linter.unusedVariables false
set_option linter.unusedSimpArgs false
namespace Go.Proofs.YtmhfhiofcoggbaaGreat.Vs
open Go.RowKit
noncomputable section
noncomputable def Z8j:List PK:=[PK.mk (.pair I6 (.pair I6 (.slice 76 P6))) true none false none,PK.mk I6 false none false none,PK.mk .bool false none false none]
noncomputable def Znn:List PK:=[PK.mk (.pair I6 (.slice 3 I6)) true none false none]
noncomputable def Zna(r:(Int×Int×List (Int×Int))×Int×Bool):Tup Z8j×OutD:=((r.1,r.2.1,r.2.2,()),none)
noncomputable def ZmS:Tup Z8j×OutD→Option ((Int×Int×List (Int×Int))×Int×Bool)
 |(a,none)=>some (a.1,a.2.1,a.2.2.1)
 |_=>none
theorem ZtU: ∀b r,ZmS b=some r→Zna r=b:=by
 rintro ⟨a,_|_⟩ r h<;>cases h;rfl
noncomputable def ZcT:Nat→Int×List Int→Option ((Int×Int×List (Int×Int))×Int×Bool)
 |0,_=>none
 |k+1,p0=>
  Option.bind (Zix k (p0.1,p0.2)) fun z0=>if (!z0)=true then some (((0:Int),(0:Int),[]),(0:Int),false) else Option.bind (Zfm k (p0.1,p0.2)) fun z1=>Option.bind (ZeS k (p0.1,p0.2)) fun z2=>some ((z1.1,z1.2.1,z1.2.2),z2,true)
noncomputable def Z2P:FnDef:= .of Znn Z8j ((Int×Int×List (Int×Int))×Int×Bool) (fun k x=>ZcT k x.1) Zna ZmS ZtU
noncomputable def Zh3:Code:=Tryz.f6.body.getD .skip
noncomputable def ZcP:Ctx (Tup Z8j×OutD):={T:=T,G:=[(32,Z6L.E),(33,Z6Q.E),(34,Z6M.E)],mvs:=[],no:=0,n:=13,res:=resOf T Znn Z8j Tryz.f6.results.toList,loops:=[],regs:=[],conds:=[],cuts:=[]}
theorem ZDY(k:Nat):EnvOK Tryz.prog k ZcP.G:=(EnvOK.cons (ZNT k) (EnvOK.cons (ZP3 k) (EnvOK.cons (ZOW k) (EnvOK.nil mixed))))
theorem ZD1(k:Nat)(x:Tup Z2P.ps):Z2P.f (k+1) x=fnK Z2P ZcP Zh3 k x:=by kernel_rfl
theorem ZDq(x:Tup Z2P.ps):Z2P.f 0 x=none:=by kernel_rfl
theorem ZCF(k:Nat):LOK Tryz.prog ZcP k Zh3:=LOK.by [] (by kernel_rfl) AllOK.nil
theorem ZDI(k:Nat):SoundAt Tryz.prog k 6 Z2P.E:= @Z5 Tryz.prog Z2P ZcP 6 Tryz.f6 Zh3 (by kernel_rfl) (by kernel_rfl) (by kernel_rfl) Tryz.func6 (by kernel_rfl) (by kernel_rfl) (by kernel_rfl) T_ok ZDY ZCF ZDq ZD1 k
noncomputable def Zdd:List PK:=[PK.mk T6 true none false none,PK.mk .bool false none false none]
noncomputable def ZBC:List PK:=[PK.mk (.pair I6 (.pair I6 (.slice 76 P6))) true none false none,PK.mk I6 false none false none]
noncomputable def Zy8(r:(Int×Int×Int)×Bool):Tup Zdd×OutD:=((r.1,r.2,()),none)
noncomputable def Zyd:Tup Zdd×OutD→Option ((Int×Int×Int)×Bool)
 |(a,none)=>some (a.1,a.2.1)
 |_=>none
theorem ZHi: ∀b r,Zyd b=some r→Zy8 r=b:=by
 rintro ⟨a,_|_⟩ r h<;>cases h;rfl
noncomputable def Z8L:Nat→Int→Int→List (Int×Int)→Int→Int→Int→Int→Option (Int×Int×Int×Int×Int×Int):=fun k b1_0 b1_1 b1_2 b2_0 b2_1 b2_2 v1=>
  Option.bind (Z4M k (b1_0,b1_1,b1_2)) fun z1=>Option.bind (Z24 k (b1_0,b1_1,b1_2)) fun z2=>Option.bind (Z9r k (z1.1,z1.2.1,z1.2.2) z2 v1) fun z3=>some (b2_0,b2_1,b2_2,z3.1.1,z3.1.2.1,z3.1.2.2)
noncomputable def Zer:Nat→Int→Int→List (Int×Int)→Int→Int→Int→Int→Option (List (Int×Int×Int×Int×Int×Int)):=fun k b1_0 b1_1 b1_2 b2_0 b2_1 b2_2 v1=>
  joinL (Option.bind (Z4M k (b1_0,b1_1,b1_2)) fun z4=>joinL (Option.bind (Z24 k (b1_0,b1_1,b1_2)) fun z5=>joinL (Option.bind (Z9r k (z4.1,z4.2.1,z4.2.2) z5 v1) fun z6=>some [(b2_0,b2_1,b2_2,z6.1.1,z6.1.2.1,z6.1.2.2)]) (Option.bind (Z9r k (z4.1,z4.2.1,z4.2.2) z5 v1) fun z7=>some [(b2_0,b2_1,b2_2,z7.1.1,z7.1.2.1,z7.1.2.2)])) (Option.bind (Z24 k (b1_0,b1_1,b1_2)) fun z8=>Option.bind (Z9r k (z4.1,z4.2.1,z4.2.2) z8 v1) fun z9=>some [(b2_0,b2_1,b2_2,z9.1.1,z9.1.2.1,z9.1.2.2)])) (Option.bind (Z4M k (b1_0,b1_1,b1_2)) fun z10=>Option.bind (Z24 k (b1_0,b1_1,b1_2)) fun z11=>Option.bind (Z9r k (z10.1,z10.2.1,z10.2.2) z11 v1) fun z12=>some [(b2_0,b2_1,b2_2,z12.1.1,z12.1.2.1,z12.1.2.2)])
noncomputable def Zqu:Spec:=Spec.mk [.ro,O2,O5] [(1,.at (.int .i64)),(2,.at (.ptr 1 0)),(4,.at (.ptr 2 0))]
noncomputable def ZGK:Spec:=Spec.mk [.ro,O5,O5] [(4,.at (.ptr 1 0)),(6,.at (.ptr 2 0))]
noncomputable def Z7J:LoopDef (Tup Zdd×OutD):= .plain Zqu ZGK (Int×Int×Int×Int×Int×Int) (fun k x=>Z8L k x.1.2.1.1 x.1.2.1.2.1 x.1.2.1.2.2.1 x.1.2.2.1.1 x.1.2.2.1.2.1 x.1.2.2.1.2.2.1 x.2.1) (fun z=>(((),(z.1,z.2.1,z.2.2.1,()),(z.2.2.2.1,z.2.2.2.2.1,z.2.2.2.2.2,()),()),((),(),()))) (fun y=>(y.1.2.1.1,y.1.2.1.2.1,y.1.2.1.2.2.1,y.1.2.2.1.1,y.1.2.2.1.2.1,y.1.2.2.1.2.2.1)) (fun _=>rfl)
theorem ZI3(k:Nat)(b1_0:Int)(b1_1:Int)(b1_2:List (Int×Int))(b2_0:Int)(b2_1:Int)(b2_2:Int)(v1:Int):Zer k b1_0 b1_1 b1_2 b2_0 b2_1 b2_2 v1=repl 4 (Z8L k b1_0 b1_1 b1_2 b2_0 b2_1 b2_2 v1):=by
 first
 |(simp only[Zer,Z8L,Z7,Zc,Z8,Z9,Z6,Z3,if_true];done)
 |(simp only[Zer,Z8L,Z7,Zc,Z8,Z9,Z6,Z3,if_true];simp only[Z1g,Z1i,Z2p,Z3];simp only[Z3E];exact Z1H ⟨fun h=>by simp only[h,and_self],fun h=>by simp only[h,and_self]⟩)
noncomputable def ZgO:Nat→Int×Int×List (Int×Int)→Int→Option ((Int×Int×Int)×Bool)
 |0,_,_=>none
 |k+1,p0,p1=>
  Option.bind (Zey k (p0.1,p0.2.1,p0.2.2) p1) fun z0=>if (!z0)=true then some (((0:Int),(0:Int),(0:Int)),false) else Option.bind (Z8L k p0.1 p0.2.1 p0.2.2 (0:Int) (0:Int) (0:Int) p1) fun z13=>some ((z13.2.2.2.1,z13.2.2.2.2.1,z13.2.2.2.2.2),true)
noncomputable def Z6b:FnDef:= .of ZBC Zdd ((Int×Int×Int)×Bool) (fun k x=>ZgO k x.1 x.2.1) Zy8 Zyd ZHi
noncomputable def Zkn:Code:=Tryz.f11.body.getD .skip
noncomputable def Z4Y:Ctx (Tup Zdd×OutD):={T:=T,G:=[(39,Z46.E),(41,Z2G.E),(42,Z1D.E),(40,Z9p.E)],mvs:=[],no:=0,n:=23,res:=resOf T ZBC Zdd Tryz.f11.results.toList,loops:=[],regs:=[(3,Z7J.E)],conds:=[],cuts:=[]}
theorem ZBx(k:Nat):EnvOK Tryz.prog k Z4Y.G:=(EnvOK.cons (ZIm k) (EnvOK.cons (ZkT k) (EnvOK.cons (Zhb k) (EnvOK.cons (ZJb k) (EnvOK.nil mixed)))))
noncomputable def ZjH:Array Oper:=(findReg 3 Zkn).getD #[]
theorem ZIr(k:Nat)(x:Zqu.D):execD Z4Y.T Z4Y.G Z4Y.mvs k ZjH (Z7J.inp.st Z4Y.n x) (outK Z4Y Z7J)=Zer k x.1.2.1.1 x.1.2.1.2.1 x.1.2.1.2.2.1 x.1.2.2.1.1 x.1.2.2.1.2.1 x.1.2.2.1.2.2.1 x.2.1:=by kernel_rfl
theorem ZFt(k:Nat):EOK Tryz.prog Z4Y k Z7J.E (.region 3 ZjH true):=Z4n (D:=Z7J) (m:=4) T_ok (ZBx k) (fun x=>(ZIr k x).trans (ZI3 k x.1.2.1.1 x.1.2.1.2.1 x.1.2.1.2.2.1 x.1.2.2.1.1 x.1.2.2.1.2.1 x.1.2.2.1.2.2.1 x.2.1))
theorem ZPW(k:Nat)(x:Tup Z6b.ps):Z6b.f (k+1) x=fnK Z6b Z4Y Zkn k x:=by kernel_rfl
theorem ZR8(x:Tup Z6b.ps):Z6b.f 0 x=none:=by kernel_rfl
theorem ZRh(k:Nat):LOK Tryz.prog Z4Y k Zkn:=LOK.by [(Z7J.E,.region 3 ZjH true)] (by kernel_rfl) (AllOK.cons (ZFt k) AllOK.nil)
theorem ZB5(k:Nat):SoundAt Tryz.prog k 11 Z6b.E:= @Z5 Tryz.prog Z6b Z4Y 11 Tryz.f11 Zkn (by kernel_rfl) (by kernel_rfl) (by kernel_rfl) Tryz.func11 (by kernel_rfl) (by kernel_rfl) (by kernel_rfl) T_ok ZBx ZRh ZR8 ZPW k
noncomputable def Z4D:List PK:=[PK.mk .bool false none false none,PK.mk .bool false none false none]
noncomputable def Zlz:List PK:=[PK.mk (.pair I6 (.pair I6 (.pair (.slice 76 P6) (.pair (.slice 3 I6) (.slice 3 I6))))) true none false none,PK.mk (.pair I6 (.pair I6 (.slice 76 P6))) true none false none]
noncomputable def Zeg(r:Bool×Bool):Tup Z4D×OutD:=((r.1,r.2,()),none)
noncomputable def ZdZ:Tup Z4D×OutD→Option (Bool×Bool)
 |(a,none)=>some (a.1,a.2.1)
 |_=>none
theorem Zho: ∀b r,ZdZ b=some r→Zeg r=b:=by
 rintro ⟨a,_|_⟩ r h<;>cases h;rfl
noncomputable def Z2o:Nat→Int→Int→List (Int×Int)→List Int→List Int→Int→Int→List (Int×Int)→List (Int×Int)→Int→Int→Option (LR (Int×Int×List (Int×Int)×List Int×List Int×Int×Int×List (Int×Int)) (Bool×Bool))
 |0,_,_,_,_,_,_,_,_,_,_,_=>none
 |k+1,b1_0,b1_1,b1_2,b1_3,b1_4,b2_0,b2_1,b2_2,v29,v30,v31=>
  if decide (v31<v30)=true then if (0:Int)≤v31 then if v31<(↑(List.length v29):Int) then if decide (Prod.fst (List.getD v29 (Int.toNat v31) ((0:Int),(0:Int)))≠0)=true then Option.bind (Z1m k b1_2 (Prod.fst (List.getD v29 (Int.toNat v31) ((0:Int),(0:Int))),Prod.snd (List.getD v29 (Int.toNat v31) ((0:Int),(0:Int))))) fun z2=>if (!z2)=true then some (LR.ret (false,true)) else Z2o k b1_0 b1_1 b1_2 b1_3 b1_4 b2_0 b2_1 b2_2 v29 v30 (wrap64 (v31+1)) else Z2o k b1_0 b1_1 b1_2 b1_3 b1_4 b2_0 b2_1 b2_2 v29 v30 (wrap64 (v31+1)) else none else none else some (LR.go (b1_0,b1_1,b1_2,b1_3,b1_4,b2_0,b2_1,b2_2))
noncomputable def Zci:Spec:=Spec.mk [.ro,O4,O2] [(2,.at (.ptr 1 0)),(3,.at (.ptr 2 0)),(29,.at (.snap 0 P6)),(30,.at (.int .i64)),(31,.at (.int .i64))]
noncomputable def Zsl:Spec:=Spec.mk [.ro,O4,O2] [(2,.at (.ptr 1 0)),(3,.at (.ptr 2 0))]
noncomputable def Z3f:LoopDef (Tup Z4D×OutD):= .rets Zci Zsl (Int×Int×List (Int×Int)×List Int×List Int×Int×Int×List (Int×Int)) (Bool×Bool) (fun k x=>Z2o k x.1.2.1.1 x.1.2.1.2.1 x.1.2.1.2.2.1 x.1.2.1.2.2.2.1 x.1.2.1.2.2.2.2.1 x.1.2.2.1.1 x.1.2.2.1.2.1 x.1.2.2.1.2.2.1 x.2.2.2.1 x.2.2.2.2.1 x.2.2.2.2.2.1) (fun z=>(((),(z.1,z.2.1,z.2.2.1,z.2.2.2.1,z.2.2.2.2.1,()),(z.2.2.2.2.2.1,z.2.2.2.2.2.2.1,z.2.2.2.2.2.2.2,()),()),((),(),()))) (fun y=>(y.1.2.1.1,y.1.2.1.2.1,y.1.2.1.2.2.1,y.1.2.1.2.2.2.1,y.1.2.1.2.2.2.2.1,y.1.2.2.1.1,y.1.2.2.1.2.1,y.1.2.2.1.2.2.1)) (fun _=>rfl) Zeg ZdZ Zho
noncomputable def ZaD:Nat→Int×Int×List (Int×Int)×List Int×List Int→Int×Int×List (Int×Int)→Option (Bool×Bool)
 |0,_,_=>none
 |k+1,p0,p1=>
  Option.bind (Z4P k (p0.1,p0.2.1,p0.2.2.1,p0.2.2.2.1,p0.2.2.2.2)) fun z0=>if (!z0)=true then some (false,false) else Option.bind (Z3W k (p1.1,p1.2.1,p1.2.2)) fun z1=>if (!z1)=true then some (false,false) else if decide (p1.1≠p0.1)=true then some (false,true) else if decide (p1.2.1≠p0.2.1)=true then some (false,true) else Option.bind (Z2o k p0.1 p0.2.1 p0.2.2.1 p0.2.2.2.1 p0.2.2.2.2 p1.1 p1.2.1 p1.2.2 p1.2.2 (↑(List.length p1.2.2):Int) (0:Int)) fun z3=>LR.on z3 (fun y3=>Option.bind (Zff k (y3.1,y3.2.1,y3.2.2.1,y3.2.2.2.1,y3.2.2.2.2.1) (y3.2.2.2.2.2.1,y3.2.2.2.2.2.2.1,y3.2.2.2.2.2.2.2)) fun z4=>some (z4,true)) fun r3=>some r3
noncomputable def Z2f:FnDef:= .of Zlz Z4D (Bool×Bool) (fun k x=>ZaD k x.1 x.2.1) Zeg ZdZ Zho
noncomputable def ZaC:Code:=Tryz.f14.body.getD .skip
noncomputable def Z3g:Ctx (Tup Z4D×OutD):={T:=T,G:=[(43,Z1s.E),(38,Z1z.E),(48,Zm.E),(49,Z5m.E)],mvs:=[],no:=0,n:=49,res:=resOf T Zlz Z4D Tryz.f14.results.toList,loops:=[(0,Z3f.E)],regs:=[],conds:=[],cuts:=[]}
theorem ZlL(k:Nat):EnvOK Tryz.prog k Z3g.G:=(EnvOK.cons (Zdt k) (EnvOK.cons (Z8S k) (EnvOK.cons (Z9n k) (EnvOK.cons (Zzg k) (EnvOK.nil mixed)))))
noncomputable def Z7d:Code:=(findLoop 0 ZaC).getD .skip
theorem ZrU(k:Nat)(x:Zci.D):Z3f.lp (k+1) x=loopK Z3g Z3f 0 Z7d k x:=by kernel_rfl
theorem Zt5(k:Nat):LOK Tryz.prog Z3g k Z7d:=LOK.by [] (by kernel_rfl) AllOK.nil
theorem ZsT(x:Zci.D):Z3f.lp 0 x=none:=by kernel_rfl
theorem Zr8(k:Nat):EOK Tryz.prog Z3g k Z3f.E (.block 0 (.loop Z7d)):=Zd T_ok ZlL ZsT ZrU Zt5 k
theorem ZyY(k:Nat)(x:Tup Z2f.ps):Z2f.f (k+1) x=fnK Z2f Z3g ZaC k x:=by kernel_rfl
theorem ZyF(x:Tup Z2f.ps):Z2f.f 0 x=none:=by kernel_rfl
theorem ZyZ(k:Nat):LOK Tryz.prog Z3g k ZaC:=LOK.by [(Z3f.E,.block 0 (.loop Z7d))] (by kernel_rfl) (AllOK.cons (Zr8 k) AllOK.nil)
theorem ZzE(k:Nat):SoundAt Tryz.prog k 14 Z2f.E:= @Z5 Tryz.prog Z2f Z3g 14 Tryz.f14 ZaC (by kernel_rfl) (by kernel_rfl) (by kernel_rfl) Tryz.func14 (by kernel_rfl) (by kernel_rfl) (by kernel_rfl) T_ok ZlL ZyZ ZyF ZyY k
noncomputable def Zdo:List PK:=[PK.mk .bool false none false none]
noncomputable def ZBg:List PK:=[PK.mk (.pair I6 (.pair I6 (.slice 76 P6))) true none false none,PK.mk (.slice 3 I6) false none false none,PK.mk (.slice 40 T6) false none false none]
noncomputable def Zoy(r:Bool):Tup Zdo×OutD:=((r,()),none)
noncomputable def Zoc:Tup Zdo×OutD→Option (Bool)
 |(a,none)=>some (a.1)
 |_=>none
theorem Zqk: ∀b r,Zoc b=some r→Zoy r=b:=by
 rintro ⟨a,_|_⟩ r h<;>cases h;rfl
noncomputable def Za9:Nat→Int→Int→List (Int×Int)→List (Int×Int×Int)→Int→Int→Option (LR Unit Bool)
 |0,_,_,_,_,_,_=>none
 |k+1,b1_0,b1_1,b1_2,v31,v32,v33=>
  if decide (v33<v32)=true then if (0:Int)≤v33 then if v33<(↑(List.length v31):Int) then if decide (Prod.fst (List.getD v31 (Int.toNat v33) ((0:Int),(0:Int),(0:Int)))<1)=true then some (LR.ret false) else if decide (Prod.fst (List.getD v31 (Int.toNat v33) ((0:Int),(0:Int),(0:Int)))>3)=true then some (LR.ret false) else if decide (Prod.fst (Prod.snd (List.getD v31 (Int.toNat v33) ((0:Int),(0:Int),(0:Int))))<0)=true then some (LR.ret false) else if decide (Prod.fst (Prod.snd (List.getD v31 (Int.toNat v33) ((0:Int),(0:Int),(0:Int))))>b1_0)=true then some (LR.ret false) else if decide (Prod.snd (Prod.snd (List.getD v31 (Int.toNat v33) ((0:Int),(0:Int),(0:Int))))<(-1:Int))=true then some (LR.ret false) else if decide (Prod.snd (Prod.snd (List.getD v31 (Int.toNat v33) ((0:Int),(0:Int),(0:Int))))>b1_1)=true then some (LR.ret false) else Za9 k b1_0 b1_1 b1_2 v31 v32 (wrap64 (v33+1)) else none else none else some (LR.go ())
noncomputable def ZkQ:Spec:=Spec.mk [.ro,O2] [(3,.at (.ptr 1 0)),(31,.at (.snap 0 T6)),(32,.at (.int .i64)),(33,.at (.int .i64))]
noncomputable def ZJu:Spec:=Spec.mk [.ro] []
noncomputable def Z8X:LoopDef (Tup Zdo×OutD):= .rets ZkQ ZJu (Unit) (Bool) (fun k x=>Za9 k x.1.2.1.1 x.1.2.1.2.1 x.1.2.1.2.2.1 x.2.2.1 x.2.2.2.1 x.2.2.2.2.1) (fun z=>(((),()),(()))) (fun y=>()) (fun _=>rfl) Zoy Zoc Zqk
noncomputable def ZgC:Nat→Int×Int×List (Int×Int)→List Int→List (Int×Int×Int)→Option Bool
 |0,_,_,_=>none
 |k+1,p0,p1,p2=>
  Option.bind (Z8n k (p0.1,p0.2.1,p0.2.2) p1) fun z0=>if (!z0)=true then some false else if decide ((↑(List.length p0.2.2):Int)>24)=true then some false else if decide ((↑(List.length p1):Int)>20)=true then some false else if decide ((↑(List.length p2):Int)≠(↑(List.length p1):Int))=true then some false else Option.bind (Za9 k p0.1 p0.2.1 p0.2.2 p2 (↑(List.length p2):Int) (0:Int)) fun z1=>LR.on z1 (fun y1=>some true) fun r1=>some r1
noncomputable def Z6e:FnDef:= .of ZBg Zdo (Bool) (fun k x=>ZgC k x.1 x.2.1 x.2.2.1) Zoy Zoc Zqk
noncomputable def Zkl:Code:=Tryz.f52.body.getD .skip
noncomputable def Zb2:Ctx (Tup Zdo×OutD):={T:=T,G:=[(58,Z26.E)],mvs:=[],no:=0,n:=70,res:=resOf T ZBg Zdo Tryz.f52.results.toList,loops:=[(0,Z8X.E)],regs:=[],conds:=[],cuts:=[]}
theorem ZBr(k:Nat):EnvOK Tryz.prog k Zb2.G:=(EnvOK.cons (Zns k) (EnvOK.nil mixed))
noncomputable def Zg5:Code:=(findLoop 0 Zkl).getD .skip
theorem ZL9(k:Nat)(x:ZkQ.D):Z8X.lp (k+1) x=loopK Zb2 Z8X 0 Zg5 k x:=by kernel_rfl
theorem ZKB(k:Nat):LOK Tryz.prog Zb2 k Zg5:=LOK.by [] (by kernel_rfl) AllOK.nil
theorem ZLc(x:ZkQ.D):Z8X.lp 0 x=none:=by kernel_rfl
theorem ZHO(k:Nat):EOK Tryz.prog Zb2 k Z8X.E (.block 0 (.loop Zg5)):=Zd T_ok ZBr ZLc ZL9 ZKB k
theorem ZQJ(k:Nat)(x:Tup Z6e.ps):Z6e.f (k+1) x=fnK Z6e Zb2 Zkl k x:=by kernel_rfl
theorem ZR0(x:Tup Z6e.ps):Z6e.f 0 x=none:=by kernel_rfl
theorem ZQa(k:Nat):LOK Tryz.prog Zb2 k Zkl:=LOK.by [(Z8X.E,.block 0 (.loop Zg5))] (by kernel_rfl) (AllOK.cons (ZHO k) AllOK.nil)
theorem ZBa(k:Nat):SoundAt Tryz.prog k 52 Z6e.E:= @Z5 Tryz.prog Z6e Zb2 52 Tryz.f52 Zkl (by kernel_rfl) (by kernel_rfl) (by kernel_rfl) Tryz.func52 (by kernel_rfl) (by kernel_rfl) (by kernel_rfl) T_ok ZBr ZQa ZR0 ZQJ k
noncomputable def Zdl:List PK:=[PK.mk .bool false none false none]
noncomputable def ZBW:List PK:=[PK.mk (.pair I6 (.pair I6 (.slice 76 P6))) true none false none,PK.mk (.slice 3 I6) false none false none,PK.mk (.slice 40 T6) false none false none]
noncomputable def Zoi(r:Bool):Tup Zdl×OutD:=((r,()),none)
noncomputable def Zos:Tup Zdl×OutD→Option (Bool)
 |(a,none)=>some (a.1)
 |_=>none
theorem Zqn: ∀b r,Zos b=some r→Zoi r=b:=by
 rintro ⟨a,_|_⟩ r h<;>cases h;rfl
noncomputable def Zam:Nat→Int→Int→List (Int×Int)→List (Int×Int×Int)→Int→Int→Option (LR Unit Bool)
 |0,_,_,_,_,_,_=>none
 |k+1,b1_0,b1_1,b1_2,v32,v33,v34=>
  if decide (v34<v33)=true then if (0:Int)≤v34 then if v34<(↑(List.length v32):Int) then Option.bind (Z1f k (Prod.fst (List.getD v32 (Int.toNat v34) ((0:Int),(0:Int),(0:Int)))) (1:Int) (3:Int)) fun z2=>if (!z2)=true then some (LR.ret false) else Option.bind (Z1f k (Prod.fst (Prod.snd (List.getD v32 (Int.toNat v34) ((0:Int),(0:Int),(0:Int))))) (0:Int) b1_0) fun z3=>if (!z3)=true then some (LR.ret false) else Option.bind (Z1f k (Prod.snd (Prod.snd (List.getD v32 (Int.toNat v34) ((0:Int),(0:Int),(0:Int))))) (-1:Int) b1_1) fun z4=>if (!z4)=true then some (LR.ret false) else Zam k b1_0 b1_1 b1_2 v32 v33 (wrap64 (v34+1)) else none else none else some (LR.go ())
noncomputable def ZkL:Spec:=Spec.mk [.ro,O2] [(3,.at (.ptr 1 0)),(32,.at (.snap 0 T6)),(33,.at (.int .i64)),(34,.at (.int .i64))]
noncomputable def ZKu:Spec:=Spec.mk [.ro] []
noncomputable def Z8Q:LoopDef (Tup Zdl×OutD):= .rets ZkL ZKu (Unit) (Bool) (fun k x=>Zam k x.1.2.1.1 x.1.2.1.2.1 x.1.2.1.2.2.1 x.2.2.1 x.2.2.2.1 x.2.2.2.2.1) (fun z=>(((),()),(()))) (fun y=>()) (fun _=>rfl) Zoi Zos Zqn
noncomputable def Zkd:Nat→Int×Int×List (Int×Int)→List Int→List (Int×Int×Int)→Option Bool
 |0,_,_,_=>none
 |k+1,p0,p1,p2=>
  Option.bind (Ziz k (p0.1,p0.2.1,p0.2.2)) fun z0=>if (!z0)=true then some false else if decide ((↑(List.length p1):Int)>20)=true then some false else Option.bind (Zcl k p1 (0:Int) (wrap64 (p0.2.1-1))) fun z1=>if (!z1)=true then some false else if decide ((↑(List.length p2):Int)≠(↑(List.length p1):Int))=true then some false else Option.bind (Zam k p0.1 p0.2.1 p0.2.2 p2 (↑(List.length p2):Int) (0:Int)) fun z5=>LR.on z5 (fun y5=>some true) fun r5=>some r5
noncomputable def Z7X:FnDef:= .of ZBW Zdl (Bool) (fun k x=>Zkd k x.1 x.2.1 x.2.2.1) Zoi Zos Zqn
noncomputable def Zku:Code:=Tryz.f54.body.getD .skip
noncomputable def Zb3:Ctx (Tup Zdl×OutD):={T:=T,G:=[(87,Z6y.E),(77,Z5Z.E),(76,Z2i.E)],mvs:=[],no:=0,n:=59,res:=resOf T ZBW Zdl Tryz.f54.results.toList,loops:=[(0,Z8Q.E)],regs:=[],conds:=[],cuts:=[]}
theorem ZCk(k:Nat):EnvOK Tryz.prog k Zb3.G:=(EnvOK.cons (ZNx k) (EnvOK.cons (Zs5 k) (EnvOK.cons (Z9H k) (EnvOK.nil mixed))))
noncomputable def Zgi:Code:=(findLoop 0 Zku).getD .skip
theorem ZJH(k:Nat)(x:ZkL.D):Z8Q.lp (k+1) x=loopK Zb3 Z8Q 0 Zgi k x:=by kernel_rfl
theorem ZJR(k:Nat):LOK Tryz.prog Zb3 k Zgi:=LOK.by [] (by kernel_rfl) AllOK.nil
theorem ZKy(x:ZkL.D):Z8Q.lp 0 x=none:=by kernel_rfl
theorem ZIM(k:Nat):EOK Tryz.prog Zb3 k Z8Q.E (.block 0 (.loop Zgi)):=Zd T_ok ZCk ZKy ZJH ZJR k
theorem ZQD(k:Nat)(x:Tup Z7X.ps):Z7X.f (k+1) x=fnK Z7X Zb3 Zku k x:=by kernel_rfl
theorem ZQk(x:Tup Z7X.ps):Z7X.f 0 x=none:=by kernel_rfl
theorem ZR5(k:Nat):LOK Tryz.prog Zb3 k Zku:=LOK.by [(Z8Q.E,.block 0 (.loop Zgi))] (by kernel_rfl) (AllOK.cons (ZIM k) AllOK.nil)
theorem ZQT(k:Nat):SoundAt Tryz.prog k 54 Z7X.E:= @Z5 Tryz.prog Z7X Zb3 54 Tryz.f54 Zku (by kernel_rfl) (by kernel_rfl) (by kernel_rfl) Tryz.func54 (by kernel_rfl) (by kernel_rfl) (by kernel_rfl) T_ok ZCk ZR5 ZQk ZQD k
noncomputable def Z8M:List PK:=[PK.mk .bool false none false none]
noncomputable def ZtC:List PK:=[PK.mk (.pair I6 (.pair I6 (.slice 76 P6))) true none false none,PK.mk (.slice 58 T6) false none false none]
noncomputable def ZjK(r:Bool):Tup Z8M×OutD:=((r,()),none)
noncomputable def Zjx:Tup Z8M×OutD→Option (Bool)
 |(a,none)=>some (a.1)
 |_=>none
theorem Zmj: ∀b r,Zjx b=some r→ZjK r=b:=by
 rintro ⟨a,_|_⟩ r h<;>cases h;rfl
noncomputable def Z6A:Nat→Int→Int→List (Int×Int)→Int→List (Int×Int×Int)→Int→Int→Option (LR Unit Bool)
 |0,_,_,_,_,_,_,_=>none
 |k+1,b1_0,b1_1,b1_2,v5,v12,v13,v14=>
  if decide (v14<v13)=true then if (0:Int)≤v14 then if v14<(↑(List.length v12):Int) then Option.bind (ZiA k (b1_0,b1_1,b1_2) (Prod.fst (Prod.snd (List.getD v12 (Int.toNat v14) ((0:Int),(0:Int),(0:Int))))) (Prod.snd (Prod.snd (List.getD v12 (Int.toNat v14) ((0:Int),(0:Int),(0:Int)))))) fun z0=>if (!z0)=true then some (LR.ret false) else if decide (wrap64 (wrap64 (Prod.fst (Prod.snd (List.getD v12 (Int.toNat v14) ((0:Int),(0:Int),(0:Int))))*b1_1)+Prod.snd (Prod.snd (List.getD v12 (Int.toNat v14) ((0:Int),(0:Int),(0:Int)))))≤v5)=true then some (LR.ret false) else if (0:Int)≤wrap64 (wrap64 (Prod.fst (Prod.snd (List.getD v12 (Int.toNat v14) ((0:Int),(0:Int),(0:Int))))*b1_1)+Prod.snd (Prod.snd (List.getD v12 (Int.toNat v14) ((0:Int),(0:Int),(0:Int))))) then if wrap64 (wrap64 (Prod.fst (Prod.snd (List.getD v12 (Int.toNat v14) ((0:Int),(0:Int),(0:Int))))*b1_1)+Prod.snd (Prod.snd (List.getD v12 (Int.toNat v14) ((0:Int),(0:Int),(0:Int)))))<(↑(List.length b1_2):Int) then Option.bind (Zfq k (Prod.fst (List.getD b1_2 (Int.toNat (wrap64 (wrap64 (Prod.fst (Prod.snd (List.getD v12 (Int.toNat v14) ((0:Int),(0:Int),(0:Int))))*b1_1)+Prod.snd (Prod.snd (List.getD v12 (Int.toNat v14) ((0:Int),(0:Int),(0:Int))))))) ((0:Int),(0:Int))),Prod.snd (List.getD b1_2 (Int.toNat (wrap64 (wrap64 (Prod.fst (Prod.snd (List.getD v12 (Int.toNat v14) ((0:Int),(0:Int),(0:Int))))*b1_1)+Prod.snd (Prod.snd (List.getD v12 (Int.toNat v14) ((0:Int),(0:Int),(0:Int))))))) ((0:Int),(0:Int)))) (Prod.fst (List.getD v12 (Int.toNat v14) ((0:Int),(0:Int),(0:Int))))) fun z1=>if (!z1)=true then some (LR.ret false) else Z6A k b1_0 b1_1 b1_2 (wrap64 (wrap64 (Prod.fst (Prod.snd (List.getD v12 (Int.toNat v14) ((0:Int),(0:Int),(0:Int))))*b1_1)+Prod.snd (Prod.snd (List.getD v12 (Int.toNat v14) ((0:Int),(0:Int),(0:Int)))))) v12 v13 (wrap64 (v14+1)) else none else none else none else none else some (LR.go ())
noncomputable def Zh8:Spec:=Spec.mk [.ro,O2] [(2,.at (.ptr 1 0)),(5,.at (.int .i64)),(12,.at (.snap 0 T6)),(13,.at (.int .i64)),(14,.at (.int .i64))]
noncomputable def ZDn:Spec:=Spec.mk [.ro] []
noncomputable def Z5Q:LoopDef (Tup Z8M×OutD):= .rets Zh8 ZDn (Unit) (Bool) (fun k x=>Z6A k x.1.2.1.1 x.1.2.1.2.1 x.1.2.1.2.2.1 x.2.2.1 x.2.2.2.1 x.2.2.2.2.1 x.2.2.2.2.2.1) (fun z=>(((),()),(()))) (fun y=>()) (fun _=>rfl) ZjK Zjx Zmj
noncomputable def Zc8:Nat→Int×Int×List (Int×Int)→List (Int×Int×Int)→Option Bool
 |0,_,_=>none
 |k+1,p0,p1=>
  if decide ((↑(List.length p1):Int)>4)=true then some false else Option.bind (Z6A k p0.1 p0.2.1 p0.2.2 (-1:Int) p1 (↑(List.length p1):Int) (0:Int)) fun z2=>LR.on z2 (fun y2=>some true) fun r2=>some r2
noncomputable def Z3G:FnDef:= .of ZtC Z8M (Bool) (fun k x=>Zc8 k x.1 x.2.1) ZjK Zjx Zmj
noncomputable def Zg3:Code:=Tryz.f56.body.getD .skip
noncomputable def Z6h:Ctx (Tup Z8M×OutD):={T:=T,G:=[(90,Z6w.E),(91,Z53.E)],mvs:=[],no:=0,n:=49,res:=resOf T ZtC Z8M Tryz.f56.results.toList,loops:=[(0,Z5Q.E)],regs:=[],conds:=[],cuts:=[]}
theorem Zsc(k:Nat):EnvOK Tryz.prog k Z6h.G:=(EnvOK.cons (ZNz k) (EnvOK.cons (Zz9 k) (EnvOK.nil mixed)))
noncomputable def Zcz:Code:=(findLoop 0 Zg3).getD .skip
theorem ZDe(k:Nat)(x:Zh8.D):Z5Q.lp (k+1) x=loopK Z6h Z5Q 0 Zcz k x:=by kernel_rfl
theorem ZCC(k:Nat):LOK Tryz.prog Z6h k Zcz:=LOK.by [] (by kernel_rfl) AllOK.nil
theorem ZD6(x:Zh8.D):Z5Q.lp 0 x=none:=by kernel_rfl
theorem ZAM(k:Nat):EOK Tryz.prog Z6h k Z5Q.E (.block 0 (.loop Zcz)):=Zd T_ok Zsc ZD6 ZDe ZCC k
theorem ZJn(k:Nat)(x:Tup Z3G.ps):Z3G.f (k+1) x=fnK Z3G Z6h Zg3 k x:=by kernel_rfl
theorem ZKz(x:Tup Z3G.ps):Z3G.f 0 x=none:=by kernel_rfl
theorem ZJx(k:Nat):LOK Tryz.prog Z6h k Zg3:=LOK.by [(Z5Q.E,.block 0 (.loop Zcz))] (by kernel_rfl) (AllOK.cons (ZAM k) AllOK.nil)
theorem ZrM(k:Nat):SoundAt Tryz.prog k 56 Z3G.E:= @Z5 Tryz.prog Z3G Z6h 56 Tryz.f56 Zg3 (by kernel_rfl) (by kernel_rfl) (by kernel_rfl) Tryz.func56 (by kernel_rfl) (by kernel_rfl) (by kernel_rfl) T_ok Zsc ZJx ZKz ZJn k
noncomputable def Z8p:List PK:=[PK.mk .bool false none false none]
noncomputable def Znp:List PK:=[PK.mk (.pair I6 (.pair I6 (.slice 76 P6))) true none false none,PK.mk (.slice 58 T6) false none false none,PK.mk (.slice 3 I6) false none false none,PK.mk (.slice 40 T6) false none false none]
noncomputable def ZlY(r:Bool):Tup Z8p×OutD:=((r,()),none)
noncomputable def Zmh:Tup Z8p×OutD→Option (Bool)
 |(a,none)=>some (a.1)
 |_=>none
theorem Zur: ∀b r,Zmh b=some r→ZlY r=b:=by
 rintro ⟨a,_|_⟩ r h<;>cases h;rfl
noncomputable def Z8u:Nat→Int×Int×List (Int×Int)→List (Int×Int×Int)→List Int→List (Int×Int×Int)→Option Bool
 |0,_,_,_,_=>none
 |k+1,p0,p1,p2,p3=>
  Option.bind (Z9S k (p0.1,p0.2.1,p0.2.2) p1 p2) fun z0=>Option.bind (Z38 k z0.1 p3) fun z1=>some z1
noncomputable def Z27:FnDef:= .of Znp Z8p (Bool) (fun k x=>Z8u k x.1 x.2.1 x.2.2.1 x.2.2.2.1) ZlY Zmh Zur
noncomputable def ZgX:Code:=Tryz.f57.body.getD .skip
noncomputable def Zcw:Ctx (Tup Z8p×OutD):={T:=T,G:=[(59,Z2D.E),(92,Zv.E)],mvs:=[],no:=0,n:=21,res:=resOf T Znp Z8p Tryz.f57.results.toList,loops:=[],regs:=[],conds:=[],cuts:=[]}
theorem ZD2(k:Nat):EnvOK Tryz.prog k Zcw.G:=(EnvOK.cons (ZpD k) (EnvOK.cons (ZjG k) (EnvOK.nil mixed)))
theorem ZCs(k:Nat)(x:Tup Z27.ps):Z27.f (k+1) x=fnK Z27 Zcw ZgX k x:=by kernel_rfl
theorem ZDk(x:Tup Z27.ps):Z27.f 0 x=none:=by kernel_rfl
theorem ZDC(k:Nat):LOK Tryz.prog Zcw k ZgX:=LOK.by [] (by kernel_rfl) AllOK.nil
theorem Znk(k:Nat):SoundAt Tryz.prog k 57 Z27.E:= @Z5 Tryz.prog Z27 Zcw 57 Tryz.f57 ZgX (by kernel_rfl) (by kernel_rfl) (by kernel_rfl) Tryz.func57 (by kernel_rfl) (by kernel_rfl) (by kernel_rfl) T_ok ZD2 ZDC ZDk ZCs k
noncomputable def ZbO:List PK:=[PK.mk .bool false none false none]
noncomputable def ZyT:List PK:=[PK.mk (.pair I6 (.pair I6 (.pair (.slice 76 P6) (.pair (.slice 3 I6) (.slice 3 I6))))) true none false none,PK.mk (.pair I6 (.pair I6 (.slice 76 P6))) true none false none]
noncomputable def Zmq(r:Bool):Tup ZbO×OutD:=((r,()),none)
noncomputable def Zmi:Tup ZbO×OutD→Option (Bool)
 |(a,none)=>some (a.1)
 |_=>none
theorem Zpx: ∀b r,Zmi b=some r→Zmq r=b:=by
 rintro ⟨a,_|_⟩ r h<;>cases h;rfl
noncomputable def Z8E:Nat→Int→Int→List (Int×Int)→List Int→List Int→Int→Int→List (Int×Int)→Int→Int→List (Int×Int)→List Int→Int→Int→Option (LR Unit Bool)
 |0,_,_,_,_,_,_,_,_,_,_,_,_,_,_=>none
 |k+1,b1_0,b1_1,b1_2,b1_3,b1_4,b2_0,b2_1,b2_2,b3_0,b3_1,o4,v12,v13,v14=>
  if decide (v14<v13)=true then if (0:Int)≤v14 then if v14<(↑(List.length v12):Int) then Option.bind (Zim k (b3_0,b3_1,o4) (List.getD v12 (Int.toNat v14) (0:Int))) fun z0=>if (0:Int)≤v14 then if v14<(↑(List.length b1_4):Int) then Option.bind (ZhY k (b2_0,b2_1,b2_2) (z0.1.1,z0.1.2.1,z0.1.2.2)) fun z1=>if decide (z1≠List.getD b1_4 (Int.toNat v14) (0:Int))=true then some (LR.ret false) else Z8E k b1_0 b1_1 b1_2 b1_3 b1_4 b2_0 b2_1 b2_2 z0.2.1 z0.2.2.1 z0.2.2.2 v12 v13 (wrap64 (v14+1)) else none else none else none else none else some (LR.go ())
noncomputable def Zju:Spec:=Spec.mk [.ro,O4,O2,O6,.fx P6] [(2,.at (.ptr 1 0)),(3,.at (.ptr 2 0)),(5,.at (.ptr 3 0)),(12,.at (.snap 0 I6)),(13,.at (.int .i64)),(14,.at (.int .i64))]
noncomputable def ZHI:Spec:=Spec.mk [.ro] []
noncomputable def Z7C:LoopDef (Tup ZbO×OutD):= .rets Zju ZHI (Unit) (Bool) (fun k x=>Z8E k x.1.2.1.1 x.1.2.1.2.1 x.1.2.1.2.2.1 x.1.2.1.2.2.2.1 x.1.2.1.2.2.2.2.1 x.1.2.2.1.1 x.1.2.2.1.2.1 x.1.2.2.1.2.2.1 x.1.2.2.2.1.1 x.1.2.2.2.1.2.1 x.1.2.2.2.2.1 x.2.2.2.2.1 x.2.2.2.2.2.1 x.2.2.2.2.2.2.1) (fun z=>(((),()),(()))) (fun y=>()) (fun _=>rfl) Zmq Zmi Zpx
noncomputable def Zj2:Nat→Int×Int×List (Int×Int)×List Int×List Int→Int×Int×List (Int×Int)→Option Bool
 |0,_,_=>none
 |k+1,p0,p1=>
  Option.bind (Z8E k p0.1 p0.2.1 p0.2.2.1 p0.2.2.2.1 p0.2.2.2.2 p1.1 p1.2.1 p1.2.2 p1.1 p1.2.1 p1.2.2 p0.2.2.2.1 (↑(List.length p0.2.2.2.1):Int) (0:Int)) fun z2=>LR.on z2 (fun y2=>some true) fun r2=>some r2
noncomputable def Z6s:FnDef:= .of ZyT ZbO (Bool) (fun k x=>Zj2 k x.1 x.2.1) Zmq Zmi Zpx
noncomputable def ZiJ:Code:=Tryz.f79.body.getD .skip
noncomputable def Z8R:Ctx (Tup ZbO×OutD):={T:=T,G:=[(107,Z7v.E),(108,Z72.E)],mvs:=[],no:=0,n:=36,res:=resOf T ZyT ZbO Tryz.f79.results.toList,loops:=[(0,Z7C.E)],regs:=[],conds:=[],cuts:=[]}
theorem ZyX(k:Nat):EnvOK Tryz.prog k Z8R.G:=(EnvOK.cons (ZGq k) (EnvOK.cons (ZEg k) (EnvOK.nil mixed)))
noncomputable def ZeE:Code:=(findLoop 0 ZiJ).getD .skip
theorem ZHP(k:Nat)(x:Zju.D):Z7C.lp (k+1) x=loopK Z8R Z7C 0 ZeE k x:=by kernel_rfl
theorem ZIn(k:Nat):LOK Tryz.prog Z8R k ZeE:=LOK.by [] (by kernel_rfl) AllOK.nil
theorem ZHj(x:Zju.D):Z7C.lp 0 x=none:=by kernel_rfl
theorem ZG5(k:Nat):EOK Tryz.prog Z8R k Z7C.E (.block 0 (.loop ZeE)):=Zd T_ok ZyX ZHj ZHP ZIn k
theorem ZNS(k:Nat)(x:Tup Z6s.ps):Z6s.f (k+1) x=fnK Z6s Z8R ZiJ k x:=by kernel_rfl
theorem ZNs(x:Tup Z6s.ps):Z6s.f 0 x=none:=by kernel_rfl
theorem ZON(k:Nat):LOK Tryz.prog Z8R k ZiJ:=LOK.by [(Z7C.E,.block 0 (.loop ZeE))] (by kernel_rfl) (AllOK.cons (ZG5 k) AllOK.nil)
theorem ZP7(k:Nat):SoundAt Tryz.prog k 79 Z6s.E:= @Z5 Tryz.prog Z6s Z8R 79 Tryz.f79 ZiJ (by kernel_rfl) (by kernel_rfl) (by kernel_rfl) Tryz.func79 (by kernel_rfl) (by kernel_rfl) (by kernel_rfl) T_ok ZyX ZON ZNs ZNS k
noncomputable def Zbb:List PK:=[PK.mk .bool false none false none]
noncomputable def ZqB:List PK:=[PK.mk (.pair I6 (.pair I6 (.slice 76 P6))) true none false none,PK.mk (.slice 58 T6) false none false none,PK.mk (.slice 3 I6) false none false none,PK.mk (.slice 40 T6) false none false none]
noncomputable def Zp8(r:Bool):Tup Zbb×OutD:=((r,()),none)
noncomputable def Zpi:Tup Zbb×OutD→Option (Bool)
 |(a,none)=>some (a.1)
 |_=>none
theorem ZxR: ∀b r,Zpi b=some r→Zp8 r=b:=by
 rintro ⟨a,_|_⟩ r h<;>cases h;rfl
noncomputable def ZeB:Nat→Int×Int×List (Int×Int)→List (Int×Int×Int)→List Int→List (Int×Int×Int)→Option Bool
 |0,_,_,_,_=>none
 |k+1,p0,p1,p2,p3=>
  Option.bind (Z9X k (p0.1,p0.2.1,p0.2.2) p1 p2) fun z0=>Option.bind (Zkz k z0.1 p3) fun z1=>some (decide (z1<(0:Int)))
noncomputable def Z47:FnDef:= .of ZqB Zbb (Bool) (fun k x=>ZeB k x.1 x.2.1 x.2.2.1 x.2.2.2.1) Zp8 Zpi ZxR
noncomputable def ZjI:Code:=Tryz.f89.body.getD .skip
noncomputable def ZeD:Ctx (Tup Zbb×OutD):={T:=T,G:=[(112,Z79.E),(113,Z83.E)],mvs:=[],no:=0,n:=22,res:=resOf T ZqB Zbb Tryz.f89.results.toList,loops:=[],regs:=[],conds:=[],cuts:=[]}
theorem ZIq(k:Nat):EnvOK Tryz.prog k ZeD.G:=(EnvOK.cons (ZEb k) (EnvOK.cons (ZQC k) (EnvOK.nil mixed)))
theorem ZHe(k:Nat)(x:Tup Z47.ps):Z47.f (k+1) x=fnK Z47 ZeD ZjI k x:=by kernel_rfl
theorem ZI8(x:Tup Z47.ps):Z47.f 0 x=none:=by kernel_rfl
theorem ZIe(k:Nat):LOK Tryz.prog ZeD k ZjI:=LOK.by [] (by kernel_rfl) AllOK.nil
theorem ZHF(k:Nat):SoundAt Tryz.prog k 89 Z47.E:= @Z5 Tryz.prog Z47 ZeD 89 Tryz.f89 ZjI (by kernel_rfl) (by kernel_rfl) (by kernel_rfl) Tryz.func89 (by kernel_rfl) (by kernel_rfl) (by kernel_rfl) T_ok ZIq ZIe ZI8 ZHe k
noncomputable def Z9Z:List PK:=[PK.mk (.pair I6 (.slice 3 I6)) true none false none]
noncomputable def ZpJ:List PK:=[PK.mk (.pair (.slice 5 (.int .u8)) (.pair I6 (.int .u64))) false none false (some 105)]
noncomputable def Zni(r:(Int×List Int)×Int×Int):Tup Z9Z×OutD:=((r.1,()),some ⟨Ty.pair (Ty.slice (5:Nat) (Ty.int .u8)) (Ty.pair (Ty.int .i64) (Ty.int .u64)),[([],r.2)]⟩)
noncomputable def ZgZ:Tup Z9Z×OutD→Option ((Int×List Int)×Int×Int)
 |(a,some ⟨u,ys⟩)=>if h:u=Ty.pair (Ty.slice (5:Nat) (Ty.int .u8)) (Ty.pair (Ty.int .i64) (Ty.int .u64)) then (match castU h ys with
  |[([],y)]=>some (a.1,y)
  |_=>none) else none
 |_=>none
theorem Zxb: ∀b r,ZgZ b=some r→Zni r=b:=by
 rintro ⟨a,o⟩ r h
 cases o with
 |none=>cases h
 |some s=>
  obtain ⟨u,ys⟩:=s
  simp only[ZgZ]at h
  split at h
  ·rename_i hu
   subst hu
   match ys,h with
   |[],h=>cases (show (none:Option _)=some r from h)
   |[([],y)],h=>injection (show some _=some r from h) with h;subst h;rfl
   |[(_::_,y)],h=>cases (show (none:Option _)=some r from h)
   |(h1,_)::_::_,h=>cases h1<;>cases (show (none:Option _)=some r from h)
  ·cases h
noncomputable def Zdq:Nat→List Int×Int×Int→Option ((Int×List Int)×Int×Int)
 |0,_=>none
 |k+1,p0=>
  Option.bind (Zb k (p0.1,p0.2.1,p0.2.2) [(0:Int),(1:Int),(2:Int),(2:Int),(3:Int),(3:Int),(4:Int)]) fun z0=>Option.bind (Z7u k (p0.1,z0.2.1,z0.2.2) z0.1) fun z1=>some ((z1.1.1,z1.1.2),z1.2.1,z1.2.2)
noncomputable def Z3z:FnDef:= .of ZpJ Z9Z ((Int×List Int)×Int×Int) (fun k x=>Zdq k x.1) Zni ZgZ Zxb
noncomputable def Zir:Code:=Tryz.f117.body.getD .skip
noncomputable def Zdw:Ctx (Tup Z9Z×OutD):={T:=T,G:=[(98,Zp.E),(97,Z1N.E)],mvs:=[],no:=2,n:=8,res:=resOf T ZpJ Z9Z Tryz.f117.results.toList,loops:=[],regs:=[],conds:=[],cuts:=[]}
theorem ZF5(k:Nat):EnvOK Tryz.prog k Zdw.G:=(EnvOK.cons (Z1T k) (EnvOK.cons (Zm0 k) (EnvOK.nil mixed)))
theorem ZFU(k:Nat)(x:Tup Z3z.ps):Z3z.f (k+1) x=fnK Z3z Zdw Zir k x:=by kernel_rfl
theorem ZFI(x:Tup Z3z.ps):Z3z.f 0 x=none:=by kernel_rfl
theorem ZEQ(k:Nat):LOK Tryz.prog Zdw k Zir:=LOK.by [] (by kernel_rfl) AllOK.nil
theorem ZGv(k:Nat):SoundAt Tryz.prog k 117 Z3z.E:= @Z5 Tryz.prog Z3z Zdw 117 Tryz.f117 Zir (by kernel_rfl) (by kernel_rfl) (by kernel_rfl) Tryz.func117 (by kernel_rfl) (by kernel_rfl) (by kernel_rfl) T_ok ZF5 ZEQ ZFI ZFU k
noncomputable def ZH:List PK:=[PK.mk (.pair I6 (.pair I6 (.pair (.slice 76 P6) (.pair (.slice 3 I6) (.slice 3 I6))))) true none false none]
noncomputable def Zk0:List PK:=[PK.mk (.pair (.slice 5 (.int .u8)) (.pair I6 (.int .u64))) false none false (some 105)]
noncomputable def Zjh(r:(Int×Int×List (Int×Int)×List Int×List Int)×Int×Int):Tup ZH×OutD:=((r.1,()),some ⟨Ty.pair (Ty.slice (5:Nat) (Ty.int .u8)) (Ty.pair (Ty.int .i64) (Ty.int .u64)),[([],r.2)]⟩)
noncomputable def Zd4:Tup ZH×OutD→Option ((Int×Int×List (Int×Int)×List Int×List Int)×Int×Int)
 |(a,some ⟨u,ys⟩)=>if h:u=Ty.pair (Ty.slice (5:Nat) (Ty.int .u8)) (Ty.pair (Ty.int .i64) (Ty.int .u64)) then (match castU h ys with
  |[([],y)]=>some (a.1,y)
  |_=>none) else none
 |_=>none
theorem Zqa: ∀b r,Zd4 b=some r→Zjh r=b:=by
 rintro ⟨a,o⟩ r h
 cases o with
 |none=>cases h
 |some s=>
  obtain ⟨u,ys⟩:=s
  simp only[Zd4]at h
  split at h
  ·rename_i hu
   subst hu
   match ys,h with
   |[],h=>cases (show (none:Option _)=some r from h)
   |[([],y)],h=>injection (show some _=some r from h) with h;subst h;rfl
   |[(_::_,y)],h=>cases (show (none:Option _)=some r from h)
   |(h1,_)::_::_,h=>cases h1<;>cases (show (none:Option _)=some r from h)
  ·cases h
noncomputable def Z3p:Nat→Int→Int→List Int→Int→Int→List (Int×Int)→List Int→List Int→Int→Int→List (Int×Int)→List Int→List Int→List (Int×Int)→Int→Int→Option (Int×Int×List Int×Int×Int×List (Int×Int)×List Int×List Int×Int×Int×List (Int×Int)×List Int×List Int)
 |0,_,_,_,_,_,_,_,_,_,_,_,_,_,_,_,_=>none
 |k+1,b1_1,b1_2,o2,b3_0,b3_1,o4,o5,o6,b7_0,b7_1,o8,o9,o10,o11,v5,v6=>
  if decide ((↑(List.length o8):Int)<v5)=true then if (↑(List.length o11):Int)=0 then none else if (0:Int)≤Int.tmod v6 (↑(List.length o11):Int) then if Int.tmod v6 (↑(List.length o11):Int)<(↑(List.length o11):Int) then if List.length o8+List.length [(Prod.fst (List.getD o11 (Int.toNat (Int.tmod v6 (↑(List.length o11):Int))) ((0:Int),(0:Int))),Prod.snd (List.getD o11 (Int.toNat (Int.tmod v6 (↑(List.length o11):Int))) ((0:Int),(0:Int))))]≤(140737488355328/16:Nat) then Z3p k b1_1 b1_2 o2 b3_0 b3_1 o4 o5 o6 b7_0 b7_1 (o8++[(Prod.fst (List.getD o11 (Int.toNat (Int.tmod v6 (↑(List.length o11):Int))) ((0:Int),(0:Int))),Prod.snd (List.getD o11 (Int.toNat (Int.tmod v6 (↑(List.length o11):Int))) ((0:Int),(0:Int))))]) o9 o10 o11 v5 (wrap64 (v6+1)) else none else none else none else some (b1_1,b1_2,o2,b3_0,b3_1,o4,o5,o6,b7_0,b7_1,o8,o9,o10)
noncomputable def Zbu:Spec:=Spec.mk [.ro,O3,Oc,O9,O0,O1,O1,O8,O0,O1,O1,O0] [(0,.at (.ptr 1 0)),(2,.at (.ptr 3 0)),(3,.at (.ptr 7 0)),(4,.at (.sl 11)),(5,.at (.int .i64)),(6,.at (.int .i64))]
noncomputable def Zrm:Spec:=Spec.mk [.ro,O3,Oc,O9,O0,O1,O1,O8,O0,O1,O1] [(0,.at (.ptr 1 0)),(2,.at (.ptr 3 0)),(3,.at (.ptr 7 0))]
noncomputable def Z2J:LoopDef (Tup ZH×OutD):= .plain Zbu Zrm (Int×Int×List Int×Int×Int×List (Int×Int)×List Int×List Int×Int×Int×List (Int×Int)×List Int×List Int) (fun k x=>Z3p k x.1.2.1.2.1 x.1.2.1.2.2.1 x.1.2.2.1 x.1.2.2.2.1.1 x.1.2.2.2.1.2.1 x.1.2.2.2.2.1 x.1.2.2.2.2.2.1 x.1.2.2.2.2.2.2.1 x.1.2.2.2.2.2.2.2.1.1 x.1.2.2.2.2.2.2.2.1.2.1 x.1.2.2.2.2.2.2.2.2.1 x.1.2.2.2.2.2.2.2.2.2.1 x.1.2.2.2.2.2.2.2.2.2.2.1 x.1.2.2.2.2.2.2.2.2.2.2.2.1 x.2.2.2.2.2.1 x.2.2.2.2.2.2.1) (fun z=>(((),((),z.1,z.2.1,()),z.2.2.1,(z.2.2.2.1,z.2.2.2.2.1,(),(),(),()),z.2.2.2.2.2.1,z.2.2.2.2.2.2.1,z.2.2.2.2.2.2.2.1,(z.2.2.2.2.2.2.2.2.1,z.2.2.2.2.2.2.2.2.2.1,(),(),(),()),z.2.2.2.2.2.2.2.2.2.2.1,z.2.2.2.2.2.2.2.2.2.2.2.1,z.2.2.2.2.2.2.2.2.2.2.2.2,()),((),(),(),()))) (fun y=>(y.1.2.1.2.1,y.1.2.1.2.2.1,y.1.2.2.1,y.1.2.2.2.1.1,y.1.2.2.2.1.2.1,y.1.2.2.2.2.1,y.1.2.2.2.2.2.1,y.1.2.2.2.2.2.2.1,y.1.2.2.2.2.2.2.2.1.1,y.1.2.2.2.2.2.2.2.1.2.1,y.1.2.2.2.2.2.2.2.2.1,y.1.2.2.2.2.2.2.2.2.2.1,y.1.2.2.2.2.2.2.2.2.2.2.1)) (fun _=>rfl)
noncomputable def Z2t:Nat→Int→Int→List Int→Int→Int→List (Int×Int)→List Int→List Int→Int→Int→List (Int×Int)→List Int→List Int→Int→Option (Int×Int×List Int×Int×Int×List (Int×Int)×List Int×List Int×Int×Int×List (Int×Int)×List Int×List Int×Int):=fun k b1_1 b1_2 o2 b3_0 b3_1 o4 o5 o6 b7_0 b7_1 o8 o9 o10 v7=>
  Option.bind (Z1 k (o2,b1_1,b1_2) b7_1) fun z6=>if List.length o9+List.length [z6.1]≤(140737488355328/8:Nat) then some (z6.2.1,z6.2.2,o2,b3_0,b3_1,o4,o5,o6,b7_0,b7_1,o8,o9++[z6.1],o10,v7) else none
noncomputable def Z5J:Nat→Int→Int→List Int→Int→Int→List (Int×Int)→List Int→List Int→Int→Int→List (Int×Int)→List Int→List Int→Int→Option (List (Int×Int×List Int×Int×Int×List (Int×Int)×List Int×List Int×Int×Int×List (Int×Int)×List Int×List Int×Int)):=fun k b1_1 b1_2 o2 b3_0 b3_1 o4 o5 o6 b7_0 b7_1 o8 o9 o10 v7=>
  joinL (Option.bind (Z1 k (o2,b1_1,b1_2) b7_1) fun z7=>if List.length o9+List.length [z7.1]≤(140737488355328/8:Nat) then some [(z7.2.1,z7.2.2,o2,b3_0,b3_1,o4,o5,o6,b7_0,b7_1,o8,o9++[z7.1],o10,v7)] else none) (Option.bind (Z1 k (o2,b1_1,b1_2) b7_1) fun z8=>joinL (if List.length o9+List.length [z8.1]≤(140737488355328/8:Nat) then some [(z8.2.1,z8.2.2,o2,b3_0,b3_1,o4,o5,o6,b7_0,b7_1,o8,o9++[z8.1],o10,v7)] else none) (if List.length o9+List.length [z8.1]≤(140737488355328/8:Nat) then some [(z8.2.1,z8.2.2,o2,b3_0,b3_1,o4,o5,o6,b7_0,b7_1,o8,o9++[z8.1],o10,v7)] else none))
noncomputable def Zfv:Spec:=Spec.mk [.ro,O3,Oc,O9,O0,O1,O1,O8,O0,O1,O1] [(0,.at (.ptr 1 0)),(2,.at (.ptr 3 0)),(3,.at (.ptr 7 0)),(7,.at (.int .i64))]
noncomputable def Zpn:Spec:=Spec.mk [.ro,O3,Oc,O9,O0,O1,O1,O8,O0,O1,O1] [(0,.at (.ptr 1 0)),(2,.at (.ptr 3 0)),(3,.at (.ptr 7 0)),(7,.at (.int .i64))]
noncomputable def Z2b:LoopDef (Tup ZH×OutD):= .plain Zfv Zpn (Int×Int×List Int×Int×Int×List (Int×Int)×List Int×List Int×Int×Int×List (Int×Int)×List Int×List Int×Int) (fun k x=>Z2t k x.1.2.1.2.1 x.1.2.1.2.2.1 x.1.2.2.1 x.1.2.2.2.1.1 x.1.2.2.2.1.2.1 x.1.2.2.2.2.1 x.1.2.2.2.2.2.1 x.1.2.2.2.2.2.2.1 x.1.2.2.2.2.2.2.2.1.1 x.1.2.2.2.2.2.2.2.1.2.1 x.1.2.2.2.2.2.2.2.2.1 x.1.2.2.2.2.2.2.2.2.2.1 x.1.2.2.2.2.2.2.2.2.2.2.1 x.2.2.2.2.1) (fun z=>(((),((),z.1,z.2.1,()),z.2.2.1,(z.2.2.2.1,z.2.2.2.2.1,(),(),(),()),z.2.2.2.2.2.1,z.2.2.2.2.2.2.1,z.2.2.2.2.2.2.2.1,(z.2.2.2.2.2.2.2.2.1,z.2.2.2.2.2.2.2.2.2.1,(),(),(),()),z.2.2.2.2.2.2.2.2.2.2.1,z.2.2.2.2.2.2.2.2.2.2.2.1,z.2.2.2.2.2.2.2.2.2.2.2.2.1,()),((),(),(),z.2.2.2.2.2.2.2.2.2.2.2.2.2,()))) (fun y=>(y.1.2.1.2.1,y.1.2.1.2.2.1,y.1.2.2.1,y.1.2.2.2.1.1,y.1.2.2.2.1.2.1,y.1.2.2.2.2.1,y.1.2.2.2.2.2.1,y.1.2.2.2.2.2.2.1,y.1.2.2.2.2.2.2.2.1.1,y.1.2.2.2.2.2.2.2.1.2.1,y.1.2.2.2.2.2.2.2.2.1,y.1.2.2.2.2.2.2.2.2.2.1,y.1.2.2.2.2.2.2.2.2.2.2.1,y.2.2.2.2.1)) (fun _=>rfl)
theorem ZpH(k:Nat)(b1_1:Int)(b1_2:Int)(o2:List Int)(b3_0:Int)(b3_1:Int)(o4:List (Int×Int))(o5:List Int)(o6:List Int)(b7_0:Int)(b7_1:Int)(o8:List (Int×Int))(o9:List Int)(o10:List Int)(v7:Int):Z5J k b1_1 b1_2 o2 b3_0 b3_1 o4 o5 o6 b7_0 b7_1 o8 o9 o10 v7=repl 3 (Z2t k b1_1 b1_2 o2 b3_0 b3_1 o4 o5 o6 b7_0 b7_1 o8 o9 o10 v7):=by
 first
 |(simp only[Z5J,Z2t,Z7,Zc,Z8,Z9,Z6,Z3,if_true];done)
 |(simp only[Z5J,Z2t,Z7,Zc,Z8,Z9,Z6,Z3,if_true];simp only[Z1g,Z1i,Z2p,Z3];simp only[Z3E];exact Z1H ⟨fun h=>by simp only[h,and_self],fun h=>by simp only[h,and_self]⟩)
noncomputable def Z3k:Nat→Int→Int→List Int→Int→Int→List (Int×Int)→List Int→List Int→Int→Int→List (Int×Int)→List Int→List Int→Int→Option (Int×Int×List Int×Int×Int×List (Int×Int)×List Int×List Int×Int×Int×List (Int×Int)×List Int×List Int)
 |0,_,_,_,_,_,_,_,_,_,_,_,_,_,_=>none
 |k+1,b1_1,b1_2,o2,b3_0,b3_1,o4,o5,o6,b7_0,b7_1,o8,o9,o10,v7=>
  if decide (v7>0)=true then Option.bind (Z2t k b1_1 b1_2 o2 b3_0 b3_1 o4 o5 o6 b7_0 b7_1 o8 o9 o10 v7) fun z9=>Z3k k z9.1 z9.2.1 z9.2.2.1 z9.2.2.2.1 z9.2.2.2.2.1 z9.2.2.2.2.2.1 z9.2.2.2.2.2.2.1 z9.2.2.2.2.2.2.2.1 z9.2.2.2.2.2.2.2.2.1 z9.2.2.2.2.2.2.2.2.2.1 z9.2.2.2.2.2.2.2.2.2.2.1 z9.2.2.2.2.2.2.2.2.2.2.2.1 z9.2.2.2.2.2.2.2.2.2.2.2.2.1 (wrap64 (z9.2.2.2.2.2.2.2.2.2.2.2.2.2-1)) else some (b1_1,b1_2,o2,b3_0,b3_1,o4,o5,o6,b7_0,b7_1,o8,o9,o10)
noncomputable def Zbi:Spec:=Spec.mk [.ro,O3,Oc,O9,O0,O1,O1,O8,O0,O1,O1] [(0,.at (.ptr 1 0)),(2,.at (.ptr 3 0)),(3,.at (.ptr 7 0)),(7,.at (.int .i64))]
noncomputable def Zr3:Spec:=Spec.mk [.ro,O3,Oc,O9,O0,O1,O1,O8,O0,O1,O1] [(0,.at (.ptr 1 0)),(2,.at (.ptr 3 0)),(3,.at (.ptr 7 0))]
noncomputable def Z2N:LoopDef (Tup ZH×OutD):= .plain Zbi Zr3 (Int×Int×List Int×Int×Int×List (Int×Int)×List Int×List Int×Int×Int×List (Int×Int)×List Int×List Int) (fun k x=>Z3k k x.1.2.1.2.1 x.1.2.1.2.2.1 x.1.2.2.1 x.1.2.2.2.1.1 x.1.2.2.2.1.2.1 x.1.2.2.2.2.1 x.1.2.2.2.2.2.1 x.1.2.2.2.2.2.2.1 x.1.2.2.2.2.2.2.2.1.1 x.1.2.2.2.2.2.2.2.1.2.1 x.1.2.2.2.2.2.2.2.2.1 x.1.2.2.2.2.2.2.2.2.2.1 x.1.2.2.2.2.2.2.2.2.2.2.1 x.2.2.2.2.1) (fun z=>(((),((),z.1,z.2.1,()),z.2.2.1,(z.2.2.2.1,z.2.2.2.2.1,(),(),(),()),z.2.2.2.2.2.1,z.2.2.2.2.2.2.1,z.2.2.2.2.2.2.2.1,(z.2.2.2.2.2.2.2.2.1,z.2.2.2.2.2.2.2.2.2.1,(),(),(),()),z.2.2.2.2.2.2.2.2.2.2.1,z.2.2.2.2.2.2.2.2.2.2.2.1,z.2.2.2.2.2.2.2.2.2.2.2.2,()),((),(),(),()))) (fun y=>(y.1.2.1.2.1,y.1.2.1.2.2.1,y.1.2.2.1,y.1.2.2.2.1.1,y.1.2.2.2.1.2.1,y.1.2.2.2.2.1,y.1.2.2.2.2.2.1,y.1.2.2.2.2.2.2.1,y.1.2.2.2.2.2.2.2.1.1,y.1.2.2.2.2.2.2.2.1.2.1,y.1.2.2.2.2.2.2.2.2.1,y.1.2.2.2.2.2.2.2.2.2.1,y.1.2.2.2.2.2.2.2.2.2.2.1)) (fun _=>rfl)
noncomputable def Z2s:Nat→Int→Int→List Int→Int→Int→List (Int×Int)→List Int→List Int→Int→Int→List (Int×Int)→List Int→List Int→Option (Int×Int×List Int×Int×Int×List (Int×Int)×List Int×List Int×Int×Int×List (Int×Int)×List Int×List Int×Int×Int×List (Int×Int)):=fun k b1_1 b1_2 o2 b3_0 b3_1 o4 o5 o6 b7_0 b7_1 o8 o9 o10=>
  Option.bind (Z2v k (b7_0,b7_1,o8,o9,o10)) fun z11=>Option.bind (Z1l k (7000:Int) z11) fun z12=>Option.bind (Z1 k (o2,b1_1,b1_2) z12) fun z13=>Option.bind (Zi k (b7_0,b7_1,o8,o9,o10) z13.1) fun z14=>some (z13.2.1,z13.2.2,o2,b3_0,b3_1,o4,o5,o6,b7_0,b7_1,o8,o9,o10,z14.1,z14.2.1,z14.2.2)
noncomputable def Z5C:Nat→Int→Int→List Int→Int→Int→List (Int×Int)→List Int→List Int→Int→Int→List (Int×Int)→List Int→List Int→Option (List (Int×Int×List Int×Int×Int×List (Int×Int)×List Int×List Int×Int×Int×List (Int×Int)×List Int×List Int×Int×Int×List (Int×Int))):=fun k b1_1 b1_2 o2 b3_0 b3_1 o4 o5 o6 b7_0 b7_1 o8 o9 o10=>
  joinL (joinL (Option.bind (Z2v k (b7_0,b7_1,o8,o9,o10)) fun z15=>joinL (Option.bind (Z1l k (7000:Int) z15) fun z16=>joinL (Option.bind (Z1 k (o2,b1_1,b1_2) z16) fun z17=>joinL (Option.bind (Zi k (b7_0,b7_1,o8,o9,o10) z17.1) fun z18=>some [(z17.2.1,z17.2.2,o2,b3_0,b3_1,o4,o5,o6,b7_0,b7_1,o8,o9,o10,z18.1,z18.2.1,z18.2.2)]) (Option.bind (Zi k (b7_0,b7_1,o8,o9,o10) z17.1) fun z19=>some [(z17.2.1,z17.2.2,o2,b3_0,b3_1,o4,o5,o6,b7_0,b7_1,o8,o9,o10,z19.1,z19.2.1,z19.2.2)])) (Option.bind (Z1 k (o2,b1_1,b1_2) z16) fun z20=>Option.bind (Zi k (b7_0,b7_1,o8,o9,o10) z20.1) fun z21=>some [(z20.2.1,z20.2.2,o2,b3_0,b3_1,o4,o5,o6,b7_0,b7_1,o8,o9,o10,z21.1,z21.2.1,z21.2.2)])) (Option.bind (Z1l k (7000:Int) z15) fun z22=>Option.bind (Z1 k (o2,b1_1,b1_2) z22) fun z23=>Option.bind (Zi k (b7_0,b7_1,o8,o9,o10) z23.1) fun z24=>some [(z23.2.1,z23.2.2,o2,b3_0,b3_1,o4,o5,o6,b7_0,b7_1,o8,o9,o10,z24.1,z24.2.1,z24.2.2)])) (Option.bind (Z2v k (b7_0,b7_1,o8,o9,o10)) fun z25=>Option.bind (Z1l k (7000:Int) z25) fun z26=>Option.bind (Z1 k (o2,b1_1,b1_2) z26) fun z27=>Option.bind (Zi k (b7_0,b7_1,o8,o9,o10) z27.1) fun z28=>some [(z27.2.1,z27.2.2,o2,b3_0,b3_1,o4,o5,o6,b7_0,b7_1,o8,o9,o10,z28.1,z28.2.1,z28.2.2)])) (joinL (Option.bind (Z2v k (b7_0,b7_1,o8,o9,o10)) fun z29=>joinL (joinL (Option.bind (Z1l k (7000:Int) z29) fun z30=>joinL (Option.bind (Z1 k (o2,b1_1,b1_2) z30) fun z31=>joinL (Option.bind (Zi k (b7_0,b7_1,o8,o9,o10) z31.1) fun z32=>some [(z31.2.1,z31.2.2,o2,b3_0,b3_1,o4,o5,o6,b7_0,b7_1,o8,o9,o10,z32.1,z32.2.1,z32.2.2)]) (Option.bind (Zi k (b7_0,b7_1,o8,o9,o10) z31.1) fun z33=>some [(z31.2.1,z31.2.2,o2,b3_0,b3_1,o4,o5,o6,b7_0,b7_1,o8,o9,o10,z33.1,z33.2.1,z33.2.2)])) (Option.bind (Z1 k (o2,b1_1,b1_2) z30) fun z34=>Option.bind (Zi k (b7_0,b7_1,o8,o9,o10) z34.1) fun z35=>some [(z34.2.1,z34.2.2,o2,b3_0,b3_1,o4,o5,o6,b7_0,b7_1,o8,o9,o10,z35.1,z35.2.1,z35.2.2)])) (Option.bind (Z1l k (7000:Int) z29) fun z36=>Option.bind (Z1 k (o2,b1_1,b1_2) z36) fun z37=>Option.bind (Zi k (b7_0,b7_1,o8,o9,o10) z37.1) fun z38=>some [(z37.2.1,z37.2.2,o2,b3_0,b3_1,o4,o5,o6,b7_0,b7_1,o8,o9,o10,z38.1,z38.2.1,z38.2.2)])) (joinL (Option.bind (Z1l k (7000:Int) z29) fun z39=>joinL (joinL (Option.bind (Z1 k (o2,b1_1,b1_2) z39) fun z40=>joinL (Option.bind (Zi k (b7_0,b7_1,o8,o9,o10) z40.1) fun z41=>some [(z40.2.1,z40.2.2,o2,b3_0,b3_1,o4,o5,o6,b7_0,b7_1,o8,o9,o10,z41.1,z41.2.1,z41.2.2)]) (Option.bind (Zi k (b7_0,b7_1,o8,o9,o10) z40.1) fun z42=>some [(z40.2.1,z40.2.2,o2,b3_0,b3_1,o4,o5,o6,b7_0,b7_1,o8,o9,o10,z42.1,z42.2.1,z42.2.2)])) (Option.bind (Z1 k (o2,b1_1,b1_2) z39) fun z43=>Option.bind (Zi k (b7_0,b7_1,o8,o9,o10) z43.1) fun z44=>some [(z43.2.1,z43.2.2,o2,b3_0,b3_1,o4,o5,o6,b7_0,b7_1,o8,o9,o10,z44.1,z44.2.1,z44.2.2)])) (joinL (Option.bind (Z1 k (o2,b1_1,b1_2) z39) fun z45=>joinL (joinL (Option.bind (Zi k (b7_0,b7_1,o8,o9,o10) z45.1) fun z46=>some [(z45.2.1,z45.2.2,o2,b3_0,b3_1,o4,o5,o6,b7_0,b7_1,o8,o9,o10,z46.1,z46.2.1,z46.2.2)]) (Option.bind (Zi k (b7_0,b7_1,o8,o9,o10) z45.1) fun z47=>some [(z45.2.1,z45.2.2,o2,b3_0,b3_1,o4,o5,o6,b7_0,b7_1,o8,o9,o10,z47.1,z47.2.1,z47.2.2)])) (Option.bind (Zi k (b7_0,b7_1,o8,o9,o10) z45.1) fun z48=>some [(z45.2.1,z45.2.2,o2,b3_0,b3_1,o4,o5,o6,b7_0,b7_1,o8,o9,o10,z48.1,z48.2.1,z48.2.2)])) (joinL (Option.bind (Z1 k (o2,b1_1,b1_2) z39) fun z49=>Option.bind (Zi k (b7_0,b7_1,o8,o9,o10) z49.1) fun z50=>some [(z49.2.1,z49.2.2,o2,b3_0,b3_1,o4,o5,o6,b7_0,b7_1,o8,o9,o10,z50.1,z50.2.1,z50.2.2)]) (Option.bind (Z1 k (o2,b1_1,b1_2) z39) fun z51=>Option.bind (Zi k (b7_0,b7_1,o8,o9,o10) z51.1) fun z52=>some [(z51.2.1,z51.2.2,o2,b3_0,b3_1,o4,o5,o6,b7_0,b7_1,o8,o9,o10,z52.1,z52.2.1,z52.2.2)])))) (joinL (Option.bind (Z1l k (7000:Int) z29) fun z53=>Option.bind (Z1 k (o2,b1_1,b1_2) z53) fun z54=>Option.bind (Zi k (b7_0,b7_1,o8,o9,o10) z54.1) fun z55=>some [(z54.2.1,z54.2.2,o2,b3_0,b3_1,o4,o5,o6,b7_0,b7_1,o8,o9,o10,z55.1,z55.2.1,z55.2.2)]) (Option.bind (Z1l k (7000:Int) z29) fun z56=>joinL (Option.bind (Z1 k (o2,b1_1,b1_2) z56) fun z57=>Option.bind (Zi k (b7_0,b7_1,o8,o9,o10) z57.1) fun z58=>some [(z57.2.1,z57.2.2,o2,b3_0,b3_1,o4,o5,o6,b7_0,b7_1,o8,o9,o10,z58.1,z58.2.1,z58.2.2)]) (Option.bind (Z1 k (o2,b1_1,b1_2) z56) fun z59=>Option.bind (Zi k (b7_0,b7_1,o8,o9,o10) z59.1) fun z60=>some [(z59.2.1,z59.2.2,o2,b3_0,b3_1,o4,o5,o6,b7_0,b7_1,o8,o9,o10,z60.1,z60.2.1,z60.2.2)]))))) (joinL (Option.bind (Z2v k (b7_0,b7_1,o8,o9,o10)) fun z61=>Option.bind (Z1l k (7000:Int) z61) fun z62=>Option.bind (Z1 k (o2,b1_1,b1_2) z62) fun z63=>Option.bind (Zi k (b7_0,b7_1,o8,o9,o10) z63.1) fun z64=>some [(z63.2.1,z63.2.2,o2,b3_0,b3_1,o4,o5,o6,b7_0,b7_1,o8,o9,o10,z64.1,z64.2.1,z64.2.2)]) (Option.bind (Z2v k (b7_0,b7_1,o8,o9,o10)) fun z65=>joinL (Option.bind (Z1l k (7000:Int) z65) fun z66=>Option.bind (Z1 k (o2,b1_1,b1_2) z66) fun z67=>Option.bind (Zi k (b7_0,b7_1,o8,o9,o10) z67.1) fun z68=>some [(z67.2.1,z67.2.2,o2,b3_0,b3_1,o4,o5,o6,b7_0,b7_1,o8,o9,o10,z68.1,z68.2.1,z68.2.2)]) (Option.bind (Z1l k (7000:Int) z65) fun z69=>joinL (Option.bind (Z1 k (o2,b1_1,b1_2) z69) fun z70=>Option.bind (Zi k (b7_0,b7_1,o8,o9,o10) z70.1) fun z71=>some [(z70.2.1,z70.2.2,o2,b3_0,b3_1,o4,o5,o6,b7_0,b7_1,o8,o9,o10,z71.1,z71.2.1,z71.2.2)]) (Option.bind (Z1 k (o2,b1_1,b1_2) z69) fun z72=>Option.bind (Zi k (b7_0,b7_1,o8,o9,o10) z72.1) fun z73=>some [(z72.2.1,z72.2.2,o2,b3_0,b3_1,o4,o5,o6,b7_0,b7_1,o8,o9,o10,z73.1,z73.2.1,z73.2.2)])))))
noncomputable def Zfx:Spec:=Spec.mk [.ro,O3,Oc,O9,O0,O1,O1,O8,O0,O1,O1] [(0,.at (.ptr 1 0)),(2,.at (.ptr 3 0)),(3,.at (.ptr 7 0))]
noncomputable def Zpw:Spec:=Spec.mk [.ro,O3,Oc,O9,O0,O1,O1,O8,O0,O1,O1,Oo,O0] [(0,.at (.ptr 1 0)),(2,.at (.ptr 3 0)),(3,.at (.ptr 7 0)),(8,.at (.ptr 11 0))]
noncomputable def Z2c:LoopDef (Tup ZH×OutD):= .plain Zfx Zpw (Int×Int×List Int×Int×Int×List (Int×Int)×List Int×List Int×Int×Int×List (Int×Int)×List Int×List Int×Int×Int×List (Int×Int)) (fun k x=>Z2s k x.1.2.1.2.1 x.1.2.1.2.2.1 x.1.2.2.1 x.1.2.2.2.1.1 x.1.2.2.2.1.2.1 x.1.2.2.2.2.1 x.1.2.2.2.2.2.1 x.1.2.2.2.2.2.2.1 x.1.2.2.2.2.2.2.2.1.1 x.1.2.2.2.2.2.2.2.1.2.1 x.1.2.2.2.2.2.2.2.2.1 x.1.2.2.2.2.2.2.2.2.2.1 x.1.2.2.2.2.2.2.2.2.2.2.1) (fun z=>(((),((),z.1,z.2.1,()),z.2.2.1,(z.2.2.2.1,z.2.2.2.2.1,(),(),(),()),z.2.2.2.2.2.1,z.2.2.2.2.2.2.1,z.2.2.2.2.2.2.2.1,(z.2.2.2.2.2.2.2.2.1,z.2.2.2.2.2.2.2.2.2.1,(),(),(),()),z.2.2.2.2.2.2.2.2.2.2.1,z.2.2.2.2.2.2.2.2.2.2.2.1,z.2.2.2.2.2.2.2.2.2.2.2.2.1,(z.2.2.2.2.2.2.2.2.2.2.2.2.2.1,z.2.2.2.2.2.2.2.2.2.2.2.2.2.2.1,(),()),z.2.2.2.2.2.2.2.2.2.2.2.2.2.2.2,()),((),(),(),(),()))) (fun y=>(y.1.2.1.2.1,y.1.2.1.2.2.1,y.1.2.2.1,y.1.2.2.2.1.1,y.1.2.2.2.1.2.1,y.1.2.2.2.2.1,y.1.2.2.2.2.2.1,y.1.2.2.2.2.2.2.1,y.1.2.2.2.2.2.2.2.1.1,y.1.2.2.2.2.2.2.2.1.2.1,y.1.2.2.2.2.2.2.2.2.1,y.1.2.2.2.2.2.2.2.2.2.1,y.1.2.2.2.2.2.2.2.2.2.2.1,y.1.2.2.2.2.2.2.2.2.2.2.2.1.1,y.1.2.2.2.2.2.2.2.2.2.2.2.1.2.1,y.1.2.2.2.2.2.2.2.2.2.2.2.2.1)) (fun _=>rfl)
theorem Zp6(k:Nat)(b1_1:Int)(b1_2:Int)(o2:List Int)(b3_0:Int)(b3_1:Int)(o4:List (Int×Int))(o5:List Int)(o6:List Int)(b7_0:Int)(b7_1:Int)(o8:List (Int×Int))(o9:List Int)(o10:List Int):Z5C k b1_1 b1_2 o2 b3_0 b3_1 o4 o5 o6 b7_0 b7_1 o8 o9 o10=repl 24 (Z2s k b1_1 b1_2 o2 b3_0 b3_1 o4 o5 o6 b7_0 b7_1 o8 o9 o10):=by
 first
 |(simp only[Z5C,Z2s,Z7,Zc,Z8,Z9,Z6,Z3,if_true];done)
 |(simp only[Z5C,Z2s,Z7,Zc,Z8,Z9,Z6,Z3,if_true];simp only[Z1g,Z1i,Z2p,Z3];simp only[Z3E];exact Z1H ⟨fun h=>by simp only[h,and_self],fun h=>by simp only[h,and_self]⟩)
noncomputable def Z3j:Nat→Int→Int→List Int→Int→Int→List (Int×Int)→List Int→List Int→Int→Int→List (Int×Int)→List Int→List Int→Int→Int→List (Int×Int)→Int→Int→List (Int×Int)→Int→Int→Option (Int×Int×List Int×Int×Int×List (Int×Int)×List Int×List Int×Int×Int×List (Int×Int)×List Int×List Int)
 |0,_,_,_,_,_,_,_,_,_,_,_,_,_,_,_,_,_,_,_,_,_=>none
 |k+1,b1_1,b1_2,o2,b3_0,b3_1,o4,o5,o6,b7_0,b7_1,o8,o9,o10,b11_0,b11_1,o12,b13_0,b13_1,o14,v82,v83=>
  if decide (v83<v82)=true then if (0:Int)≤v83 then if v83<(↑(List.length o9):Int) then Option.bind (Zim k (b13_0,b13_1,o14) (List.getD o9 (Int.toNat v83) (0:Int))) fun z75=>Option.bind (ZhY k (b11_0,b11_1,o12) (z75.1.1,z75.1.2.1,z75.1.2.2)) fun z76=>if List.length o10+List.length [z76]≤(140737488355328/8:Nat) then Z3j k b1_1 b1_2 o2 b3_0 b3_1 o4 o5 o6 b7_0 b7_1 o8 o9 (o10++[z76]) b11_0 b11_1 o12 z75.2.1 z75.2.2.1 z75.2.2.2 v82 (wrap64 (v83+1)) else none else none else none else some (b1_1,b1_2,o2,b3_0,b3_1,o4,o5,o6,b7_0,b7_1,o8,o9,o10)
noncomputable def Zbo:Spec:=Spec.mk [.ro,O3,Oc,O9,O0,O1,O1,O8,O0,O1,O1,Oo,.fx P6,.box 29 [.int .i64,.int .i64,.sl 14],.fx P6] [(0,.at (.ptr 1 0)),(2,.at (.ptr 3 0)),(3,.at (.ptr 7 0)),(8,.at (.ptr 11 0)),(9,.at (.ptr 13 0)),(81,.at (.sl 9)),(82,.at (.int .i64)),(83,.at (.int .i64))]
noncomputable def Zr4:Spec:=Spec.mk [.ro,O3,Oc,O9,O0,O1,O1,O8,O0,O1,O1] [(0,.at (.ptr 1 0)),(2,.at (.ptr 3 0)),(3,.at (.ptr 7 0))]
noncomputable def Z2K:LoopDef (Tup ZH×OutD):= .plain Zbo Zr4 (Int×Int×List Int×Int×Int×List (Int×Int)×List Int×List Int×Int×Int×List (Int×Int)×List Int×List Int) (fun k x=>Z3j k x.1.2.1.2.1 x.1.2.1.2.2.1 x.1.2.2.1 x.1.2.2.2.1.1 x.1.2.2.2.1.2.1 x.1.2.2.2.2.1 x.1.2.2.2.2.2.1 x.1.2.2.2.2.2.2.1 x.1.2.2.2.2.2.2.2.1.1 x.1.2.2.2.2.2.2.2.1.2.1 x.1.2.2.2.2.2.2.2.2.1 x.1.2.2.2.2.2.2.2.2.2.1 x.1.2.2.2.2.2.2.2.2.2.2.1 x.1.2.2.2.2.2.2.2.2.2.2.2.1.1 x.1.2.2.2.2.2.2.2.2.2.2.2.1.2.1 x.1.2.2.2.2.2.2.2.2.2.2.2.2.1 x.1.2.2.2.2.2.2.2.2.2.2.2.2.2.1.1 x.1.2.2.2.2.2.2.2.2.2.2.2.2.2.1.2.1 x.1.2.2.2.2.2.2.2.2.2.2.2.2.2.2.1 x.2.2.2.2.2.2.2.1 x.2.2.2.2.2.2.2.2.1) (fun z=>(((),((),z.1,z.2.1,()),z.2.2.1,(z.2.2.2.1,z.2.2.2.2.1,(),(),(),()),z.2.2.2.2.2.1,z.2.2.2.2.2.2.1,z.2.2.2.2.2.2.2.1,(z.2.2.2.2.2.2.2.2.1,z.2.2.2.2.2.2.2.2.2.1,(),(),(),()),z.2.2.2.2.2.2.2.2.2.2.1,z.2.2.2.2.2.2.2.2.2.2.2.1,z.2.2.2.2.2.2.2.2.2.2.2.2,()),((),(),(),()))) (fun y=>(y.1.2.1.2.1,y.1.2.1.2.2.1,y.1.2.2.1,y.1.2.2.2.1.1,y.1.2.2.2.1.2.1,y.1.2.2.2.2.1,y.1.2.2.2.2.2.1,y.1.2.2.2.2.2.2.1,y.1.2.2.2.2.2.2.2.1.1,y.1.2.2.2.2.2.2.2.1.2.1,y.1.2.2.2.2.2.2.2.2.1,y.1.2.2.2.2.2.2.2.2.2.1,y.1.2.2.2.2.2.2.2.2.2.2.1)) (fun _=>rfl)
noncomputable def Z2r:Nat→Int→Int→List Int→Int→Int→List (Int×Int)→List Int→List Int→Int→Int→List (Int×Int)→List Int→List Int→Option (Int×Int×List Int×Int×Int×List (Int×Int)×List Int×List Int×Int×Int×List (Int×Int)×List Int×List Int):=fun k b1_1 b1_2 o2 b3_0 b3_1 o4 o5 o6 b7_0 b7_1 o8 o9 o10=>
  Option.bind (Z1 k (o2,b1_1,b1_2) (wrap64 (b7_1+2))) fun z79=>if (0:Int)<(↑(List.length o10):Int) then some (z79.2.1,z79.2.2,o2,b3_0,b3_1,o4,o5,o6,b7_0,b7_1,o8,o9,List.set o10 (Int.toNat (0:Int)) z79.1) else none
noncomputable def Z5D:Nat→Int→Int→List Int→Int→Int→List (Int×Int)→List Int→List Int→Int→Int→List (Int×Int)→List Int→List Int→Option (List (Int×Int×List Int×Int×Int×List (Int×Int)×List Int×List Int×Int×Int×List (Int×Int)×List Int×List Int)):=fun k b1_1 b1_2 o2 b3_0 b3_1 o4 o5 o6 b7_0 b7_1 o8 o9 o10=>
  joinL (Option.bind (Z1 k (o2,b1_1,b1_2) (wrap64 (b7_1+2))) fun z80=>if (0:Int)<(↑(List.length o10):Int) then some [(z80.2.1,z80.2.2,o2,b3_0,b3_1,o4,o5,o6,b7_0,b7_1,o8,o9,List.set o10 (Int.toNat (0:Int)) z80.1)] else none) (Option.bind (Z1 k (o2,b1_1,b1_2) (wrap64 (b7_1+2))) fun z81=>if (0:Int)<(↑(List.length o10):Int) then some [(z81.2.1,z81.2.2,o2,b3_0,b3_1,o4,o5,o6,b7_0,b7_1,o8,o9,List.set o10 (Int.toNat (0:Int)) z81.1)] else none)
noncomputable def Zfy:Spec:=Spec.mk [.ro,O3,Oc,O9,O0,O1,O1,O8,O0,O1,O1] [(0,.at (.ptr 1 0)),(2,.at (.ptr 3 0)),(3,.at (.ptr 7 0))]
noncomputable def Zpt:Spec:=Spec.mk [.ro,O3,Oc,O9,O0,O1,O1,O8,O0,O1,O1] [(2,.at (.ptr 3 0)),(3,.at (.ptr 7 0))]
noncomputable def Z2g:LoopDef (Tup ZH×OutD):= .plain Zfy Zpt (Int×Int×List Int×Int×Int×List (Int×Int)×List Int×List Int×Int×Int×List (Int×Int)×List Int×List Int) (fun k x=>Z2r k x.1.2.1.2.1 x.1.2.1.2.2.1 x.1.2.2.1 x.1.2.2.2.1.1 x.1.2.2.2.1.2.1 x.1.2.2.2.2.1 x.1.2.2.2.2.2.1 x.1.2.2.2.2.2.2.1 x.1.2.2.2.2.2.2.2.1.1 x.1.2.2.2.2.2.2.2.1.2.1 x.1.2.2.2.2.2.2.2.2.1 x.1.2.2.2.2.2.2.2.2.2.1 x.1.2.2.2.2.2.2.2.2.2.2.1) (fun z=>(((),((),z.1,z.2.1,()),z.2.2.1,(z.2.2.2.1,z.2.2.2.2.1,(),(),(),()),z.2.2.2.2.2.1,z.2.2.2.2.2.2.1,z.2.2.2.2.2.2.2.1,(z.2.2.2.2.2.2.2.2.1,z.2.2.2.2.2.2.2.2.2.1,(),(),(),()),z.2.2.2.2.2.2.2.2.2.2.1,z.2.2.2.2.2.2.2.2.2.2.2.1,z.2.2.2.2.2.2.2.2.2.2.2.2,()),((),(),()))) (fun y=>(y.1.2.1.2.1,y.1.2.1.2.2.1,y.1.2.2.1,y.1.2.2.2.1.1,y.1.2.2.2.1.2.1,y.1.2.2.2.2.1,y.1.2.2.2.2.2.1,y.1.2.2.2.2.2.2.1,y.1.2.2.2.2.2.2.2.1.1,y.1.2.2.2.2.2.2.2.1.2.1,y.1.2.2.2.2.2.2.2.2.1,y.1.2.2.2.2.2.2.2.2.2.1,y.1.2.2.2.2.2.2.2.2.2.2.1)) (fun _=>rfl)
theorem Zpf(k:Nat)(b1_1:Int)(b1_2:Int)(o2:List Int)(b3_0:Int)(b3_1:Int)(o4:List (Int×Int))(o5:List Int)(o6:List Int)(b7_0:Int)(b7_1:Int)(o8:List (Int×Int))(o9:List Int)(o10:List Int):Z5D k b1_1 b1_2 o2 b3_0 b3_1 o4 o5 o6 b7_0 b7_1 o8 o9 o10=repl 2 (Z2r k b1_1 b1_2 o2 b3_0 b3_1 o4 o5 o6 b7_0 b7_1 o8 o9 o10):=by
 first
 |(simp only[Z5D,Z2r,Z7,Zc,Z8,Z9,Z6,Z3,if_true];done)
 |(simp only[Z5D,Z2r,Z7,Zc,Z8,Z9,Z6,Z3,if_true];simp only[Z1g,Z1i,Z2p,Z3];simp only[Z3E];exact Z1H ⟨fun h=>by simp only[h,and_self],fun h=>by simp only[h,and_self]⟩)
noncomputable def Z9w:Nat→List Int×Int×Int→Option ((Int×Int×List (Int×Int)×List Int×List Int)×Int×Int)
 |0,_=>none
 |k+1,p0=>
  Option.bind (Z1 k (p0.1,p0.2.1,p0.2.2) (2:Int)) fun z0=>Option.bind (Z1 k (p0.1,z0.2.1,z0.2.2) (3:Int)) fun z1=>Option.bind (Z1 k (p0.1,z1.2.1,z1.2.2) (3:Int)) fun z2=>Option.bind (Z1 k (p0.1,z2.2.1,z2.2.2) (↑(List.length [((1:Int),(0:Int)),((2:Int),(0:Int)),((3:Int),(0:Int)),((3:Int),(1:Int)),((4:Int),(0:Int)),((5:Int),(0:Int)),((6:Int),(0:Int)),((7:Int),(0:Int))]):Int)) fun z3=>Option.bind (Z3p k z3.2.1 z3.2.2 p0.1 (0:Int) (0:Int) [] [] [] (wrap64 ((1:Int)+z0.1)) (wrap64 ((1:Int)+z1.1)) [] [] [] [((1:Int),(0:Int)),((2:Int),(0:Int)),((3:Int),(0:Int)),((3:Int),(1:Int)),((4:Int),(0:Int)),((5:Int),(0:Int)),((6:Int),(0:Int)),((7:Int),(0:Int))] (wrap64 ((1:Int)+z2.1)) z3.1) fun z4=>Option.bind (Z1 k (z4.2.2.1,z4.1,z4.2.1) (4:Int)) fun z5=>Option.bind (Z3k k z5.2.1 z5.2.2 z4.2.2.1 z4.2.2.2.1 z4.2.2.2.2.1 z4.2.2.2.2.2.1 z4.2.2.2.2.2.2.1 z4.2.2.2.2.2.2.2.1 z4.2.2.2.2.2.2.2.2.1 z4.2.2.2.2.2.2.2.2.2.1 z4.2.2.2.2.2.2.2.2.2.2.1 z4.2.2.2.2.2.2.2.2.2.2.2.1 z4.2.2.2.2.2.2.2.2.2.2.2.2 (wrap64 ((1:Int)+z5.1))) fun z10=>Option.bind (Z2s k z10.1 z10.2.1 z10.2.2.1 z10.2.2.2.1 z10.2.2.2.2.1 z10.2.2.2.2.2.1 z10.2.2.2.2.2.2.1 z10.2.2.2.2.2.2.2.1 z10.2.2.2.2.2.2.2.2.1 z10.2.2.2.2.2.2.2.2.2.1 z10.2.2.2.2.2.2.2.2.2.2.1 z10.2.2.2.2.2.2.2.2.2.2.2.1 z10.2.2.2.2.2.2.2.2.2.2.2.2) fun z74=>Option.bind (Z3j k z74.1 z74.2.1 z74.2.2.1 z74.2.2.2.1 z74.2.2.2.2.1 z74.2.2.2.2.2.1 z74.2.2.2.2.2.2.1 z74.2.2.2.2.2.2.2.1 z74.2.2.2.2.2.2.2.2.1 z74.2.2.2.2.2.2.2.2.2.1 z74.2.2.2.2.2.2.2.2.2.2.1 z74.2.2.2.2.2.2.2.2.2.2.2.1 z74.2.2.2.2.2.2.2.2.2.2.2.2.1 z74.2.2.2.2.2.2.2.2.2.2.2.2.2.1 z74.2.2.2.2.2.2.2.2.2.2.2.2.2.2.1 z74.2.2.2.2.2.2.2.2.2.2.2.2.2.2.2 z74.2.2.2.2.2.2.2.2.2.2.2.2.2.1 z74.2.2.2.2.2.2.2.2.2.2.2.2.2.2.1 z74.2.2.2.2.2.2.2.2.2.2.2.2.2.2.2 (↑(List.length z74.2.2.2.2.2.2.2.2.2.2.2.1):Int) (0:Int)) fun z77=>Option.bind (ZK k (z77.2.2.1,z77.1,z77.2.1) (6:Int)) fun z78=>if z78.1=true then Option.bind (Z2r k z78.2.1 z78.2.2 z77.2.2.1 z77.2.2.2.1 z77.2.2.2.2.1 z77.2.2.2.2.2.1 z77.2.2.2.2.2.2.1 z77.2.2.2.2.2.2.2.1 z77.2.2.2.2.2.2.2.2.1 z77.2.2.2.2.2.2.2.2.2.1 z77.2.2.2.2.2.2.2.2.2.2.1 z77.2.2.2.2.2.2.2.2.2.2.2.1 z77.2.2.2.2.2.2.2.2.2.2.2.2) fun z82=>some ((z82.2.2.2.2.2.2.2.2.1,z82.2.2.2.2.2.2.2.2.2.1,z82.2.2.2.2.2.2.2.2.2.2.1,z82.2.2.2.2.2.2.2.2.2.2.2.1,z82.2.2.2.2.2.2.2.2.2.2.2.2),z82.1,z82.2.1) else some ((z77.2.2.2.2.2.2.2.2.1,z77.2.2.2.2.2.2.2.2.2.1,z77.2.2.2.2.2.2.2.2.2.2.1,z77.2.2.2.2.2.2.2.2.2.2.2.1,z77.2.2.2.2.2.2.2.2.2.2.2.2),z78.2.1,z78.2.2)
noncomputable def Z1Q:FnDef:= .of Zk0 ZH ((Int×Int×List (Int×Int)×List Int×List Int)×Int×Int) (fun k x=>Z9w k x.1) Zjh Zd4 Zqa
noncomputable def Z1q:Code:=Tryz.f119.body.getD .skip
noncomputable def Za:Ctx (Tup ZH×OutD):={T:=T,G:=[(116,Zq.E),(78,Z42.E),(129,Z6r.E),(47,Z3V.E),(107,Z7v.E),(108,Z72.E),(95,ZZ.E)],mvs:=[],no:=2,n:=114,res:=resOf T Zk0 ZH Tryz.f119.results.toList,loops:=[(0,Z2J.E),(2,Z2N.E),(4,Z2K.E)],regs:=[(11,Z2b.E),(12,Z2c.E),(22,Z2g.E)],conds:=[],cuts:=[]}
theorem Z2H(k:Nat):EnvOK Tryz.prog k Za.G:=(EnvOK.cons (Z1I k) (EnvOK.cons (ZoB k) (EnvOK.cons (ZOe k) (EnvOK.cons (Zo4 k) (EnvOK.cons (ZGq k) (EnvOK.cons (ZEg k) (EnvOK.cons (Z6n k) (EnvOK.nil mixed))))))))
noncomputable def Z9Y:Array Oper:=(findReg 11 Z1q).getD #[]
theorem ZpG(k:Nat)(x:Zfv.D):execD Za.T Za.G Za.mvs k Z9Y (Z2b.inp.st Za.n x) (outK Za Z2b)=Z5J k x.1.2.1.2.1 x.1.2.1.2.2.1 x.1.2.2.1 x.1.2.2.2.1.1 x.1.2.2.2.1.2.1 x.1.2.2.2.2.1 x.1.2.2.2.2.2.1 x.1.2.2.2.2.2.2.1 x.1.2.2.2.2.2.2.2.1.1 x.1.2.2.2.2.2.2.2.1.2.1 x.1.2.2.2.2.2.2.2.2.1 x.1.2.2.2.2.2.2.2.2.2.1 x.1.2.2.2.2.2.2.2.2.2.2.1 x.2.2.2.2.1:=by kernel_rfl
theorem Zo0(k:Nat):EOK Tryz.prog Za k Z2b.E (.region 11 Z9Y true):=Z4n (D:=Z2b) (m:=3) T_ok (Z2H k) (fun x=>(ZpG k x).trans (ZpH k x.1.2.1.2.1 x.1.2.1.2.2.1 x.1.2.2.1 x.1.2.2.2.1.1 x.1.2.2.2.1.2.1 x.1.2.2.2.2.1 x.1.2.2.2.2.2.1 x.1.2.2.2.2.2.2.1 x.1.2.2.2.2.2.2.2.1.1 x.1.2.2.2.2.2.2.2.1.2.1 x.1.2.2.2.2.2.2.2.2.1 x.1.2.2.2.2.2.2.2.2.2.1 x.1.2.2.2.2.2.2.2.2.2.2.1 x.2.2.2.2.1))
noncomputable def Za0:Array Oper:=(findReg 12 Z1q).getD #[]
theorem ZpK(k:Nat)(x:Zfx.D):execD Za.T Za.G Za.mvs k Za0 (Z2c.inp.st Za.n x) (outK Za Z2c)=Z5C k x.1.2.1.2.1 x.1.2.1.2.2.1 x.1.2.2.1 x.1.2.2.2.1.1 x.1.2.2.2.1.2.1 x.1.2.2.2.2.1 x.1.2.2.2.2.2.1 x.1.2.2.2.2.2.2.1 x.1.2.2.2.2.2.2.2.1.1 x.1.2.2.2.2.2.2.2.1.2.1 x.1.2.2.2.2.2.2.2.2.1 x.1.2.2.2.2.2.2.2.2.2.1 x.1.2.2.2.2.2.2.2.2.2.2.1:=by kernel_rfl
theorem Zoq(k:Nat):EOK Tryz.prog Za k Z2c.E (.region 12 Za0 true):=Z4n (D:=Z2c) (m:=24) T_ok (Z2H k) (fun x=>(ZpK k x).trans (Zp6 k x.1.2.1.2.1 x.1.2.1.2.2.1 x.1.2.2.1 x.1.2.2.2.1.1 x.1.2.2.2.1.2.1 x.1.2.2.2.2.1 x.1.2.2.2.2.2.1 x.1.2.2.2.2.2.2.1 x.1.2.2.2.2.2.2.2.1.1 x.1.2.2.2.2.2.2.2.1.2.1 x.1.2.2.2.2.2.2.2.2.1 x.1.2.2.2.2.2.2.2.2.2.1 x.1.2.2.2.2.2.2.2.2.2.2.1))
noncomputable def Z9W:Array Oper:=(findReg 22 Z1q).getD #[]
theorem ZpI(k:Nat)(x:Zfy.D):execD Za.T Za.G Za.mvs k Z9W (Z2g.inp.st Za.n x) (outK Za Z2g)=Z5D k x.1.2.1.2.1 x.1.2.1.2.2.1 x.1.2.2.1 x.1.2.2.2.1.1 x.1.2.2.2.1.2.1 x.1.2.2.2.2.1 x.1.2.2.2.2.2.1 x.1.2.2.2.2.2.2.1 x.1.2.2.2.2.2.2.2.1.1 x.1.2.2.2.2.2.2.2.1.2.1 x.1.2.2.2.2.2.2.2.2.1 x.1.2.2.2.2.2.2.2.2.2.1 x.1.2.2.2.2.2.2.2.2.2.2.1:=by kernel_rfl
theorem Zom(k:Nat):EOK Tryz.prog Za k Z2g.E (.region 22 Z9W true):=Z4n (D:=Z2g) (m:=2) T_ok (Z2H k) (fun x=>(ZpI k x).trans (Zpf k x.1.2.1.2.1 x.1.2.1.2.2.1 x.1.2.2.1 x.1.2.2.2.1.1 x.1.2.2.2.1.2.1 x.1.2.2.2.2.1 x.1.2.2.2.2.2.1 x.1.2.2.2.2.2.2.1 x.1.2.2.2.2.2.2.2.1.1 x.1.2.2.2.2.2.2.2.1.2.1 x.1.2.2.2.2.2.2.2.2.1 x.1.2.2.2.2.2.2.2.2.2.1 x.1.2.2.2.2.2.2.2.2.2.2.1))
noncomputable def Z6S:Code:=(findLoop 0 Z1q).getD .skip
theorem Zrr(k:Nat)(x:Zbu.D):Z2J.lp (k+1) x=loopK Za Z2J 0 Z6S k x:=by kernel_rfl
theorem Zrf(k:Nat):LOK Tryz.prog Za k Z6S:=LOK.by [] (by kernel_rfl) AllOK.nil
theorem Zrg(x:Zbu.D):Z2J.lp 0 x=none:=by kernel_rfl
theorem Zq6(k:Nat):EOK Tryz.prog Za k Z2J.E (.block 0 (.loop Z6S)):=Zd T_ok Z2H Zrg Zrr Zrf k
noncomputable def Z6X:Code:=(findLoop 2 Z1q).getD .skip
theorem Zrd(k:Nat)(x:Zbi.D):Z2N.lp (k+1) x=loopK Za Z2N 2 Z6X k x:=by kernel_rfl
theorem ZrC(k:Nat):LOK Tryz.prog Za k Z6X:=LOK.by [(Z2b.E,.region 11 Z9Y true)] (by kernel_rfl) (AllOK.cons (Zo0 k) AllOK.nil)
theorem ZrD(x:Zbi.D):Z2N.lp 0 x=none:=by kernel_rfl
theorem Zq0(k:Nat):EOK Tryz.prog Za k Z2N.E (.block 2 (.loop Z6X)):=Zd T_ok Z2H ZrD Zrd ZrC k
noncomputable def Z6V:Code:=(findLoop 4 Z1q).getD .skip
theorem ZqY(k:Nat)(x:Zbo.D):Z2K.lp (k+1) x=loopK Za Z2K 4 Z6V k x:=by kernel_rfl
theorem ZrF(k:Nat):LOK Tryz.prog Za k Z6V:=LOK.by [] (by kernel_rfl) AllOK.nil
theorem Zr5(x:Zbo.D):Z2K.lp 0 x=none:=by kernel_rfl
theorem ZpQ(k:Nat):EOK Tryz.prog Za k Z2K.E (.block 4 (.loop Z6V)):=Zd T_ok Z2H Zr5 ZqY ZrF k
theorem Zw5(k:Nat)(x:Tup Z1Q.ps):Z1Q.f (k+1) x=fnK Z1Q Za Z1q k x:=by kernel_rfl
theorem Zw3(x:Tup Z1Q.ps):Z1Q.f 0 x=none:=by kernel_rfl
theorem Zw2(k:Nat):LOK Tryz.prog Za k Z1q:=LOK.by [(Z2J.E,.block 0 (.loop Z6S)),(Z2N.E,.block 2 (.loop Z6X)),(Z2c.E,.region 12 Za0 true),(Z2K.E,.block 4 (.loop Z6V)),(Z2g.E,.region 22 Z9W true)] (by kernel_rfl) (AllOK.cons (Zq6 k) (AllOK.cons (Zq0 k) (AllOK.cons (Zoq k) (AllOK.cons (ZpQ k) (AllOK.cons (Zom k) AllOK.nil)))))
theorem Zxl(k:Nat):SoundAt Tryz.prog k 119 Z1Q.E:= @Z5 Tryz.prog Z1Q Za 119 Tryz.f119 Z1q (by kernel_rfl) (by kernel_rfl) (by kernel_rfl) Tryz.func119 (by kernel_rfl) (by kernel_rfl) (by kernel_rfl) T_ok Z2H Zw2 Zw3 Zw5 k
noncomputable def Za2:List PK:=[PK.mk (.pair I6 (.pair I6 (.slice 76 P6))) true none false none]
noncomputable def Zp7:List PK:=[PK.mk (.pair (.slice 5 (.int .u8)) (.pair I6 (.int .u64))) false none false (some 105)]
noncomputable def Znh(r:(Int×Int×List (Int×Int))×Int×Int):Tup Za2×OutD:=((r.1,()),some ⟨Ty.pair (Ty.slice (5:Nat) (Ty.int .u8)) (Ty.pair (Ty.int .i64) (Ty.int .u64)),[([],r.2)]⟩)
noncomputable def Zha:Tup Za2×OutD→Option ((Int×Int×List (Int×Int))×Int×Int)
 |(a,some ⟨u,ys⟩)=>if h:u=Ty.pair (Ty.slice (5:Nat) (Ty.int .u8)) (Ty.pair (Ty.int .i64) (Ty.int .u64)) then (match castU h ys with
  |[([],y)]=>some (a.1,y)
  |_=>none) else none
 |_=>none
theorem Zx7: ∀b r,Zha b=some r→Znh r=b:=by
 rintro ⟨a,o⟩ r h
 cases o with
 |none=>cases h
 |some s=>
  obtain ⟨u,ys⟩:=s
  simp only[Zha]at h
  split at h
  ·rename_i hu
   subst hu
   match ys,h with
   |[],h=>cases (show (none:Option _)=some r from h)
   |[([],y)],h=>injection (show some _=some r from h) with h;subst h;rfl
   |[(_::_,y)],h=>cases (show (none:Option _)=some r from h)
   |(h1,_)::_::_,h=>cases h1<;>cases (show (none:Option _)=some r from h)
  ·cases h
noncomputable def Za7:Nat→List Int×Int×Int→Option ((Int×Int×List (Int×Int))×Int×Int)
 |0,_=>none
 |k+1,p0=>
  Option.bind (ZK k (p0.1,p0.2.1,p0.2.2) (20:Int)) fun z0=>if z0.1=true then Option.bind (Zb k (p0.1,z0.2.1,z0.2.2) [(1:Int),(10:Int)]) fun z1=>Option.bind (Zb k (p0.1,z1.2.1,z1.2.2) [(1:Int),(9:Int)]) fun z2=>Option.bind (Z2B k (p0.1,z2.2.1,z2.2.2) z1.1 z2.1) fun z3=>some ((z3.1.1,z3.1.2.1,z3.1.2.2),z3.2.1,z3.2.2) else Option.bind (Z1 k (p0.1,z0.2.1,z0.2.2) (5:Int)) fun z4=>Option.bind (Z1 k (p0.1,z4.2.1,z4.2.2) (5:Int)) fun z5=>Option.bind (Z2B k (p0.1,z5.2.1,z5.2.2) (wrap64 ((1:Int)+z4.1)) (wrap64 ((1:Int)+z5.1))) fun z6=>some ((z6.1.1,z6.1.2.1,z6.1.2.2),z6.2.1,z6.2.2)
noncomputable def Z3y:FnDef:= .of Zp7 Za2 ((Int×Int×List (Int×Int))×Int×Int) (fun k x=>Za7 k x.1) Znh Zha Zx7
noncomputable def Zi7:Code:=Tryz.f131.body.getD .skip
noncomputable def ZdN:Ctx (Tup Za2×OutD):={T:=T,G:=[(95,ZZ.E),(98,Zp.E),(121,Z1P.E),(116,Zq.E)],mvs:=[],no:=2,n:=21,res:=resOf T Zp7 Za2 Tryz.f131.results.toList,loops:=[],regs:=[],conds:=[],cuts:=[]}
theorem ZE8(k:Nat):EnvOK Tryz.prog k ZdN.G:=(EnvOK.cons (Z6n k) (EnvOK.cons (Z1T k) (EnvOK.cons (ZmC k) (EnvOK.cons (Z1I k) (EnvOK.nil mixed)))))
theorem ZFR(k:Nat)(x:Tup Z3y.ps):Z3y.f (k+1) x=fnK Z3y ZdN Zi7 k x:=by kernel_rfl
theorem ZFn(x:Tup Z3y.ps):Z3y.f 0 x=none:=by kernel_rfl
theorem ZED(k:Nat):LOK Tryz.prog ZdN k Zi7:=LOK.by [] (by kernel_rfl) AllOK.nil
theorem ZFz(k:Nat):SoundAt Tryz.prog k 131 Z3y.E:= @Z5 Tryz.prog Z3y ZdN 131 Tryz.f131 Zi7 (by kernel_rfl) (by kernel_rfl) (by kernel_rfl) Tryz.func131 (by kernel_rfl) (by kernel_rfl) (by kernel_rfl) T_ok ZE8 ZED ZFn ZFR k
end
end Go.Proofs.YtmhfhiofcoggbaaGreat.Vs
