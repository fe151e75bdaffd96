/-
  LAYOUTMEMORY: for every list of calls (lists of more than 30 calls, and calls whose texts are too long, are let by), the law returns true and leaves its argument as it was. Conditions: the eight listed package variables read as the program's text lays them.
-/
import Derived.ProofKit
import Derived.OpenShut
import Derived.LaidMore
import Derived.Lay
import Derived.SevenTiedAt
import Derived.Stop.Joined
import Derived.Lib.SmallJoins
import Derived.Lib.LaidU8
import Derived.Test.YtadehgdfijjikaaGreatDoorT1
import Derived.Test.YtadehgdfijjikaaGreatDoorRows
import Derived.Test.YtadehgdfijjikaaGreatDoorY8
import Derived.Test.YtadehgdfijjikaaGreatDoorM9
import Derived.Test.YtadehgdfijjikaaGreatDoorCards
import Derived.Test.YtadehgdfijjikaaGreatDoorTie
import Derived.Carry
import Derived.ChangeMaps5
import Derived.Test.YtadehgdfijjikaaGreatDoorM10
set_option linter.all false
set_option maxRecDepth 100000
namespace Go.Proofs
open Go.ChangeShapes Go.WideShapes Go.ChangeAt Go.RowKit Go.Joins Go.Deep
section
variable {H:Type} {enc:TypeId×Value->H} {P:Program} {w:World} {base:Nat} {spare:Nat->Bool} {held:Bool}
theorem array5 {α:Type}{cs:Array α}(h:cs.size=5):∃c0 c1 c2 c3 c4,cs=#[c0,c1,c2,c3,c4]:=by obtain⟨l⟩:=cs;match l,h with|[c0,c1,c2,c3,c4],_=>exact⟨c0,c1,c2,c3,c4,rfl⟩
theorem y3A {t:TypeId}{f0 f1 f2 f3 f4:Field}{fuel:Nat}{cs:List Value}{x:DataW H×List MemPlace}(ht:P.underlying t=some (.struct #[f0,f1,f2,f3,f4]))(h:DataW.trod enc P w base spare held fuel t cs=some x):∃y0 y1 y2 y3 y4 n,x=(.agg [y0.1,y1.1,y2.1,y3.1,y4.1],y0.2++(y1.2++(y2.2++(y3.2++y4.2))))/\cs.length=P.cellsOf t/\DataW.trod enc P w base spare held n f0.type ((cs.drop f0.offset).take (P.cellsOf f0.type))=some y0/\ DataW.trod enc P w base spare held n f1.type ((cs.drop f1.offset).take (P.cellsOf f1.type))=some y1/\DataW.trod enc P w base spare held n f2.type ((cs.drop f2.offset).take (P.cellsOf f2.type))=some y2/\ DataW.trod enc P w base spare held n f3.type ((cs.drop f3.offset).take (P.cellsOf f3.type))=some y3/\DataW.trod enc P w base spare held n f4.type ((cs.drop f4.offset).take (P.cellsOf f4.type))=some y4:=by obtain⟨xs,n,_,rfl,hl,aB,hf⟩:=DataW.trod_struct ht h;match xs,aB with|[y0,y1,y2,y3,y4],_=>exact⟨y0,y1,y2,y3,y4,n,by simp,hl,by simpa using hf 0 f0 rfl,by simpa using hf 1 f1 rfl,by simpa using hf 2 f2 rfl,by simpa using hf 3 f3 rfl,by simpa using hf 4 f4 rfl⟩
theorem v2Z {r:Reach}{b0:Nat}{t:TypeId}{f0 f1 f2 f3 f4:Field}{v:Value}{d:DataW H}{p:List MemPlace}(hs:P.underlying t=some (.struct #[f0,f1,f2,f3,f4]))(cz:oneCellFields P #[f0,f1,f2,f3,f4]=true)(hC:P.cellsOf t=5) (hv:Value.okWide P w r b0 t v) (h:DataW.Trod enc P w base spare held t v d p):∃(v0 v1 v2 v3 v4:Value) (y0 y1 y2 y3 y4:DataW H×List MemPlace) (n:Nat),v=.agg #[v0,v1,v2,v3,v4]/\d=.agg [y0.1,y1.1,y2.1,y3.1,y4.1]/\p=y0.2++(y1.2++(y2.2++(y3.2++y4.2)))/\ DataW.trod enc P w base spare held n f0.type [v0]=some y0/\DataW.trod enc P w base spare held n f1.type [v1]=some y1/\DataW.trod enc P w base spare held n f2.type [v2]=some y2/\DataW.trod enc P w base spare held n f3.type [v3]=some y3/\DataW.trod enc P w base spare held n f4.type [v4]=some y4:=by obtain⟨cs,rfl,aH⟩:=okWide_struct hs hv;obtain⟨c0,c1,c2,c3,c4,rfl⟩:=array5 (aH.trans hC);obtain⟨fuel,hf⟩:=h;obtain⟨y0,y1,y2,y3,y4,n,hx,_,h0,h1,h2,h3,h4⟩:=y3A hs hf;obtain⟨o0,k0⟩:=hone_of cz 0 f0 rfl;obtain⟨o1,k1⟩:=hone_of cz 1 f1 rfl;obtain⟨o2,k2⟩:=hone_of cz 2 f2 rfl;obtain⟨o3,k3⟩:=hone_of cz 3 f3 rfl;obtain⟨o4,k4⟩:=hone_of cz 4 f4 rfl;simp only[Prod.mk.injEq]at hx;exact⟨c0,c1,c2,c3,c4,y0,y1,y2,y3,y4,n,rfl,hx.1,hx.2,by simpa[Value.cells,o0,k0]using h0,by simpa[Value.cells,o1,k1]using h1,by simpa[Value.cells,o2,k2]using h2,by simpa[Value.cells,o3,k3]using h3,by simpa[Value.cells,o4,k4]using h4⟩
theorem v1Z {t:TypeId}{f0 f1 f2 f3 f4:Field}{v0 v1 v2 v3 v4:Value}{y0 y1 y2 y3 y4:DataW H×List MemPlace}(hs:P.underlying t=some (.struct #[f0,f1,f2,f3,f4]))(cz:oneCellFields P #[f0,f1,f2,f3,f4]=true)(hC:P.cellsOf t=5) (t0:∃n,DataW.trod enc P w base spare held n f0.type [v0]=some y0) (t1:∃n,DataW.trod enc P w base spare held n f1.type [v1]=some y1) (t2:∃n,DataW.trod enc P w base spare held n f2.type [v2]=some y2) (t3:∃n,DataW.trod enc P w base spare held n f3.type [v3]=some y3) (t4:∃n,DataW.trod enc P w base spare held n f4.type [v4]=some y4):DataW.Trod enc P w base spare held t (.agg #[v0,v1,v2,v3,v4]) (.agg [y0.1,y1.1,y2.1,y3.1,y4.1]) (y0.2++(y1.2++(y2.2++(y3.2++y4.2)))):=by obtain⟨n0,t0⟩:=t0;obtain⟨n1,t1⟩:=t1;obtain⟨n2,t2⟩:=t2;obtain⟨n3,t3⟩:=t3;obtain⟨n4,t4⟩:=t4;obtain⟨o0,k0⟩:=hone_of cz 0 f0 rfl;obtain⟨o1,k1⟩:=hone_of cz 1 f1 rfl;obtain⟨o2,k2⟩:=hone_of cz 2 f2 rfl;obtain⟨o3,k3⟩:=hone_of cz 3 f3 rfl;obtain⟨o4,k4⟩:=hone_of cz 4 f4 rfl;have ts:=trod_struct_mk (enc:=enc) (w:=w) (base:=base) (spare:=spare) (held:=held) (n:=n0+n1+n2+n3+n4) (cs:=[v0,v1,v2,v3,v4]) (xs:=[y0,y1,y2,y3,y4]) hs (by simp[hC]) (by have e0:=DataW.trod_le (show n0<=n0+n1+n2+n3+n4 by omega) t0;have e1:=DataW.trod_le (show n1<=n0+n1+n2+n3+n4 by omega) t1;have e2:=DataW.trod_le (show n2<=n0+n1+n2+n3+n4 by omega) t2;have e3:=DataW.trod_le (show n3<=n0+n1+n2+n3+n4 by omega) t3;have e4:=DataW.trod_le (show n4<=n0+n1+n2+n3+n4 by omega) t4;simp[o0,k0,o1,k1,o2,k2,o3,k3,o4,k4,e0,e1,e2,e3,e4]);exact⟨_,by simpa[Value.cells]using ts⟩
end
section
variable {H:Type} {enc:TypeId×Value->H} {w:World} {base:Nat} {spare:Nat->Bool} {held:Bool}
theorem v7H:Tryz.prog.cellsOf 25=5:=by kernel_rfl
theorem v7G:Tryz.prog.cellsOf 87=2:=by kernel_rfl
def tyD {H:Type}(k p q:Int)(v:Bool)(s:ByteArray):DataW H:=.agg [.lit (.int .i64 k),.lit (.int .i64 p),.lit (.int .i64 q),.lit (.bool v),.lit (.string s.data.toList)]
def vaD {H:Type}(n:Int)(s:ByteArray):DataW H:=.agg [.lit (.int .i64 n),.lit (.string s.data.toList)]
def tyWf (k p q:Int)(s:ByteArray):Prop:=(Lit.int .i64 k).wf=true/\(Lit.int .i64 p).wf=true/\(Lit.int .i64 q).wf=true/\s.size<=maxLen
theorem open_ty {r:Reach}{b0:Nat}{x:Value}{d:DataW H}{ps:List MemPlace}(hv:Value.okWide Tryz.prog w r b0 25 x)(h:DataW.Trod enc Tryz.prog w base spare held 25 x d ps):∃k p q v s,x=tyV k p q v s/\d=tyD k p q v s/\ps=[]/\tyWf k p q s:=by obtain⟨c0,c1,c2,c3,c4,y0,y1,y2,y3,y4,m,rfl,rfl,rfl,h0,h1,h2,h3,h4⟩:=v2Z Tryz.underlying25 (by kernel_rfl) v7H hv h;obtain⟨k,e0,rfl,wk⟩:=DataW.trod_int Tryz.underlying3 h0;obtain⟨p,e1,rfl,wp⟩:=DataW.trod_int Tryz.underlying3 h1;obtain⟨q,e2,rfl,wq⟩:=DataW.trod_int Tryz.underlying3 h2;obtain⟨v,e3,rfl⟩:=DataW.trod_bool Tryz.underlying4 h3;obtain⟨s,e4,rfl,ws⟩:=DataW.trod_string Tryz.underlying9 h4;simp at e0 e1 e2 e3 e4;subst e0 e1 e2 e3 e4;exact⟨k,p,q,v,s,rfl,rfl,rfl,wk,wp,wq,ws⟩
theorem open_va {r:Reach}{b0:Nat}{x:Value}{d:DataW H}{ps:List MemPlace}(hv:Value.okWide Tryz.prog w r b0 87 x)(h:DataW.Trod enc Tryz.prog w base spare held 87 x d ps):∃n s,x=vaV n s/\d=vaD n s/\ps=[]/\(Lit.int .i64 n).wf=true/\s.size<=maxLen:=by obtain⟨c0,c1,y0,y1,m,rfl,rfl,rfl,h0,h1⟩:=open_agg2 Tryz.underlying87 (by kernel_rfl) v7G hv h;obtain⟨n,e0,rfl,wn⟩:=DataW.trod_int Tryz.underlying3 h0;obtain⟨s,e1,rfl,ws⟩:=DataW.trod_string Tryz.underlying9 h1;simp at e0 e1;subst e0 e1;exact⟨n,s,rfl,rfl,rfl,wn,ws⟩
theorem shut_ty {k p q:Int}{v:Bool}{s:ByteArray}(h:tyWf k p q s):DataW.Trod enc Tryz.prog w base spare held 25 (tyV k p q v s) (tyD k p q v s) []:=by obtain⟨wk,wp,wq,ws⟩:=h;exact v1Z (y0:=(.lit (.int .i64 k),[])) (y1:=(.lit (.int .i64 p),[])) (y2:=(.lit (.int .i64 q),[])) (y3:=(.lit (.bool v),[])) (y4:=(.lit (.string s.data.toList),[])) Tryz.underlying25 (by kernel_rfl) v7H ⟨1,by simp[DataW.trod,Tryz.underlying3,wk]⟩ ⟨1,by simp[DataW.trod,Tryz.underlying3,wp]⟩ ⟨1,by simp[DataW.trod,Tryz.underlying3,wq]⟩ ⟨1,by simp[DataW.trod,Tryz.underlying4]⟩ ⟨1,by simp[DataW.trod,Tryz.underlying9,ws]⟩
theorem shut_va {n:Int}{s:ByteArray}(wn:(Lit.int .i64 n).wf=true)(ws:s.size<=maxLen):DataW.Trod enc Tryz.prog w base spare held 87 (vaV n s) (vaD n s) []:=shut_agg2 (y0:=(.lit (.int .i64 n),[])) (y1:=(.lit (.string s.data.toList),[])) Tryz.underlying87 (by kernel_rfl) v7G ⟨1,by simp[DataW.trod,Tryz.underlying3,wn]⟩ ⟨1,by simp[DataW.trod,Tryz.underlying9,ws]⟩
end
end Go.Proofs
namespace Go.Proofs.YtadehgdfijjikaaGreatDoor
open Go.RowKit
theorem v1J:ownKnob Tryz.prog.godebug=none:=by kernel_rfl
theorem glob_of {W:World} {l:List (String×DataW Unit)} (hL:laidMet Tryz.prog l W) (hm:("pliant/picture.punched",Rows.laid_pliant_picture_punched)∈l):Xec.QF W:=by(obtain⟨g,t,cs,fuel,p,h1,h2,h3,h4⟩:=Lib.laidMet.reads hL hm;have hg:Tryz.prog.globalNamed "pliant/picture.punched" =some 0:=by kernel_rfl);(have ht:(Tryz.prog.globals[0]?).map (·.type)=some 274:=by kernel_rfl);(have hu:Tryz.prog.underlying 274=some (.array 20 5):=by kernel_rfl);have hc:Tryz.prog.cellsOf 274=20:=by{kernel_rfl};have nF:Tryz.prog.cellsOf 5=1:=by{kernel_rfl};obtain rfl:=zB (hg.symm.trans h1);obtain rfl:=zB (ht.symm.trans h2);have hd:(Rows.laid_pliant_picture_punched:DataW Unit)=Lib.tabData .u8 [123,65,66,67,68,69,70,71,72,73,125,74,75,76,77,78,79,80,81,82]:=rfl;rw[hd]at h4;have dW:=Lib.cells_of_tab hu Tryz.underlying5 nF hc h4;have kE:cs=punV:=qm dW;intro g' cs' e;have e:cond (Nat.beq g' 0) (some punV) none=some cs':=e;cases hb:Nat.beq g' 0;{rw[hb]at e;cases e};rw[hb]at e;cases e;have:=qt hb;subst this;unfold World.var? at h3;rw[hg]at h3;simp only[qJ]at h3;split at h3;{rename_i c t fz hh;cases h3;exact⟨t,fz,by rw[<-kE];exact hh⟩};cases h3
end Go.Proofs.YtadehgdfijjikaaGreatDoor
namespace Go.Proofs
open Go.ChangeShapes Go.WideShapes Go.ChangeAt Go.RowKit Go.Joins Go.Deep Go.Yec Go.Shp
section
variable {H:Type} {enc:TypeId×Value->H} {w:World} {base:Nat} {spare:Nat->Bool} {held:Bool}
theorem cels3:Tryz.prog.cellsOf 3=1:=by kernel_rfl
theorem cells9:Tryz.prog.cellsOf 9=1:=by kernel_rfl
theorem cells4:Tryz.prog.cellsOf 4=1:=by kernel_rfl
theorem v7K:Tryz.prog.cellsOf 25=5:=by kernel_rfl
theorem z1T {w:World}{a:Addr}{v:Value}(h:w.cell? a=some v):a.spot=none:=World.cell?_spot h
theorem open_tyC {fuel:Nat}{cs:List Value}{x:DataW H×List MemPlace}(h:DataW.trod enc Tryz.prog w base spare held fuel 25 cs=some x):∃t:Ty,cs=tyC t:=by obtain⟨y0,y1,y2,y3,y4,n,-,hl,h0,h1,h2,h3,h4⟩:=y3A Tryz.underlying25 h;rw[v7K]at hl;match cs,hl with|[c0,c1,c2,c3,c4],_=>obtain⟨k,e0,-,-⟩:=DataW.trod_int Tryz.underlying3 h0;obtain⟨p,e1,-,-⟩:=DataW.trod_int Tryz.underlying3 h1;obtain⟨q,e2,-,-⟩:=DataW.trod_int Tryz.underlying3 h2;obtain⟨v,e3,-⟩:=DataW.trod_bool Tryz.underlying4 h3;obtain⟨s,e4,-,-⟩:=DataW.trod_string Tryz.underlying9 h4;simp[cels3,cells4,cells9]at e0 e1 e2 e3 e4;subst e0 e1 e2 e3 e4;exact⟨⟨k,p,q,v,s⟩,rfl⟩
instance :Inhabited Sh:=⟨.node [] [] ⟨0,0,0,false,⟨#[]⟩⟩ false⟩
end
end Go.Proofs
namespace Go.Proofs.YtadehgdfijjikaaGreatDoor
open Go.ChangeShapes Go.WideShapes Go.ChangeAt Go.RowKit Go.Joins Go.Deep Go.Yec Go.Shp Go.Proofs
section
variable {H:Type} {enc:TypeId×Value->H} {w:World} {base:Nat} {spare:Nat->Bool} {held:Bool}
theorem cells89:Tryz.prog.cellsOf 89=13:=by kernel_rfl
theorem cells87:Tryz.prog.cellsOf 87=2:=by kernel_rfl
theorem open_opC {fuel:Nat}{cs:List Value}{x:DataW H×List MemPlace}(h:DataW.trod enc Tryz.prog w base spare held fuel 89 cs=some x):∃o:OpT,cs=o.A.toList:=by obtain⟨xs,n,rfl,-,hl,aB,hf⟩:=DataW.trod_struct Tryz.underlying89 h;rw[cells89]at hl;match cs,hl,xs,aB with|[c0,c1,c2,c3,c4,c5,c6,c7,c8,c9,c10,c11,c12],_,[y0,y1,y2,y3,y4,y5,y6,y7],_=>obtain⟨a0,e0,-,-⟩:=DataW.trod_int Tryz.underlying3 (show DataW.trod enc Tryz.prog w base spare held n 3 _=some y0 from hf 0 _ rfl);obtain⟨a1,e1,-,-⟩:=DataW.trod_int Tryz.underlying3 (show DataW.trod enc Tryz.prog w base spare held n 3 _=some y1 from hf 1 _ rfl);obtain⟨a2,e2,-,-⟩:=DataW.trod_int Tryz.underlying3 (show DataW.trod enc Tryz.prog w base spare held n 3 _=some y2 from hf 2 _ rfl);obtain⟨a3,e3,-,-⟩:=DataW.trod_int Tryz.underlying3 (show DataW.trod enc Tryz.prog w base spare held n 3 _=some y3 from hf 3 _ rfl);obtain⟨a4,e4,-,-⟩:=DataW.trod_int Tryz.underlying3 (show DataW.trod enc Tryz.prog w base spare held n 3 _=some y4 from hf 4 _ rfl);obtain⟨t,e5⟩:=open_tyC (show DataW.trod enc Tryz.prog w base spare held n 25 _=some y5 from hf 5 _ rfl);obtain⟨z0,z1,n',-,-,g0,g1⟩:=trod_struct2 Tryz.underlying87 (show DataW.trod enc Tryz.prog w base spare held n 87 _=some y6 from hf 6 _ rfl);obtain⟨a6,e6,-,-⟩:=DataW.trod_int Tryz.underlying3 g0;obtain⟨s7,e7,-,-⟩:=DataW.trod_string Tryz.underlying9 g1;obtain⟨s8,e8,-,-⟩:=DataW.trod_string Tryz.underlying9 (show DataW.trod enc Tryz.prog w base spare held n 9 _=some y7 from hf 7 _ rfl);simp[cels3,cells4,cells9,v7K,cells87,tyC]at e0 e1 e2 e3 e4 e5 e6 e7 e8;obtain⟨f0,f1,f2,f3,f4⟩:=e5;subst e0 e1 e2 e3 e4 f0 f1 f2 f3 f4 e6 e7 e8;exact⟨⟨a0,a1,a2,a3,a4,t.k,t.p,t.q,t.v,t.pic,a6,s7,s8⟩,rfl⟩
theorem open_opsC {fuel:Nat}{cs:List Value}{x:DataW H×List MemPlace}(h:DataW.trod enc Tryz.prog w base spare held fuel 84 cs=some x):∃v L,cs=[v]/\OpsAt w v L:=by rcases DataW.trod_slice Tryz.underlying84 h with⟨e1,-⟩|⟨a,len,cap,elems,rest,n',rfl,e1,-,hb,gf,hm,lB,lC,-,-⟩;{exact⟨_,[],e1,none,0,rfl,fun h=>absurd rfl h,fun _ _ h=>by cases h⟩};rw[cells89]at lC;have key:∀i,i<len->∃z:OpT,∀j,j<13->w.cell? ((a.add (i*13)).add j)=z.A[j]? :=fun i hi=>by{have e:=lC i hi;rw[qW (by omega)]at e;obtain⟨cs',g1,g2⟩:=Option.bind_eq_some_iff.1 e;obtain⟨_,_,bG⟩:=World.cells?_some g1;obtain⟨o,rfl⟩:=open_opC g2;exact⟨o,fun j hj=>(bG j hj).trans (by simp)⟩};have⟨z0,_⟩:∃z:OpT,True:=⟨⟨0,0,0,0,0,0,0,0,false,⟨#[]⟩,0,⟨#[]⟩,⟨#[]⟩⟩,trivial⟩;haveI:Inhabited OpT:=⟨z0⟩;obtain⟨f,eW⟩:=choose_lt key;refine⟨_,(List.range len).map f,e1,some a,cap,by simp,fun ae=>?_,fun b o ha i p hp j hj=>?_⟩;{have ah:0<len:=by{rcases Nat.eq_zero_or_pos len with h|h;{subst h;exact absurd rfl ae};exact h};have k0:=(eW 0 ah) 0 (by omega);(rw[Nat.zero_mul]at k0;have k0':w.cell? a=some (.int .i64 (f 0).dO):=by simpa[Addr.add]using k0);have hs:=z1T k0';obtain⟨b,o,s⟩:=a;simp only at hs;subst hs;exact⟨b,o,rfl,World.block_lt_of_cell? _ _ k0'⟩};cases ha;have hi:i<len:=by{have:=qI.1 hp;simpa using this.1};have m4:p=f i:=by{simp[hi]at hp;exact hp.symm};subst m4;have:=eW i hi j hj;rwa [add_plain,add_plain]at this
theorem open_ops {r:Reach}{b0:Nat}{x:Value}{d:DataW H}{ps:List MemPlace}(hv:Value.okWide Tryz.prog w r b0 84 x)(h:DataW.Trod enc Tryz.prog w base spare held 84 x d ps):∃L,OpsAt w x L:=by obtain⟨a,len,cap,rfl⟩:=okWide_slice Tryz.underlying84 hv;obtain⟨fuel,hf⟩:=h;obtain⟨v,L,e,hs⟩:=open_opsC hf;simp only[Value.cells,List.cons.injEq,and_true]at e;subst e;exact⟨L,hs⟩
end
end Go.Proofs.YtadehgdfijjikaaGreatDoor
namespace Go.Proofs.YtadehgdfijjikaaGreatDoor
open Go.ChangeShapes Go.WideShapes Go.ChangeAt Go.RowKit Go.Joins Go.Deep
open Go.ChangeMaps (open_string shut_string)
theorem v5B:laidOutB Tryz.prog=true:=by kernel_rfl
theorem memory_lifted (os:Os)(started:os.Started)(H:Type)(enc:TypeId×Value->H):ReturnsInHanded {} Tryz.checked os 12 .any (fun w args=>(Rows.layoutMemorySpec.pre enc Tryz.prog Tryz.f12 Rows.layoutMemoryRow.domain false w args/\laidMetH Tryz.prog Rows.layoutMemoryRow.laid w)/\sizedMet enc Tryz.prog Tryz.f12 (OpenSpec.ofChange Rows.layoutMemorySpec) false w args) (Rows.layoutMemorySpec.post enc Tryz.prog Tryz.f12 false true false false):=by refine returnsInHanded_of_change_and (C:=Tryz.checked) (X:=fun w _=>laidMetH Tryz.prog Rows.layoutMemoryRow.laid w) (fun _ _ _ hh h=>h.of_heap hh) v1J started (by kernel_rfl) Tryz.func12 (ChangeSpec.witness_shaped (enc:=enc) (C:=Tryz.checked) (os:=os) (X:=fun w _=>laidMetH Tryz.prog Rows.layoutMemoryRow.laid w) false (World.laidAll Tryz.prog os Rows.layoutMemoryRow.laid) #[.slice none 0 0] 8 (World.laidAll_os _ _ _) (World.shaped_of_ZipB (by kernel_rfl) (by kernel_rfl)) (by kernel_rfl) (by kernel_rfl) (by kernel_rfl) (by rw[MakeChecks.laidMetH_plain _ _ _ (by kernel_rfl)];exact laidMet_laidAll _ (by kernel_rfl) (by kernel_rfl))) ?_;intro W base args ds gs before fV hW hc _ hL _;have jL:laidMetH Tryz.prog Rows.layoutMemoryRow.laid W:=hL;rw[MakeChecks.laidMetH_plain _ _ _ (by kernel_rfl)]at jL;have bF:Xec.QF W:=glob_of jL (by simp[Rows.layoutMemoryRow]);have cU:∀(j:Nat) t v,Tryz.f12.params[j]? =some t->args[j]? =some v->Value.okWide Tryz.prog W .any base t v:=fV;have gR:=hW;obtain⟨p,q,mh,hV,rfl,_,_⟩:=hW;have hA:DataW.TrodAll enc Tryz.prog W 0 (fun _=>true) true Tryz.f12.params.toList args.toList ds p:=mh;rw[Tryz.params12]at hA cU;obtain⟨v0,d0,rfl,rfl,h0⟩:=trodAll_one hA;obtain⟨rfl,rfl⟩:=trodVars_none hV;have ah:∀x∈p,x.block<W.heap.size:=fun x hx=>by{have:=gR.lt x (by simpa using hx);simpa using this};have k0:=h0;obtain⟨x0,y0⟩:=open_ops (cU 0 84 v0 rfl rfl) h0;clear mh fV;simp only[List.append_nil]at gR;refine(memory_any x0 W v0 bF y0).mono fun e W' ⟨he,hB⟩=>?_;subst he;exact⟨_,rfl,_,_,_,[],p,[],gR,trodAll_mk1 (shut_bool Tryz.underlying4 _),trodAll_mk1 (Below.trod v5B (by kernel_rfl) (of_decide_eq_true (by kernel_rfl)) k0 hB (fun x hx=>ah x (by simp[hx]))),rfl,hB.frame _,fun h=>by cases h⟩
theorem x3R {a b:Bool}(ha:a=true)(hb:b=true):(a&&b)=true:=by rw[ha,hb];rfl
theorem rec_of {P:Program}{f g h:FuncId}{fn:Func}(h1:(P.closure f).contains g=true)(h2:P.funcs[g]? =some fn)(h3:(P.leadsTo fn).contains h=true)(h4:(P.closure h).contains g=true):P.recurses f=true:=by unfold Program.recurses;rw[Bool.or_eq_true];refine .inr (List.any_eq_true.2 ⟨g,by simpa using h1,List.any_eq_true.2 ⟨h,?_,h4⟩⟩);rw[h2];simpa using h3
theorem memory_k1:(Rows.layoutMemoryRow.wf (OpenSpec.ofChange Rows.layoutMemorySpec))=true:=by kernel_rfl
theorem memory_k2:(laidOutB Tryz.prog)=true:=by kernel_rfl
theorem memory_k3:(mapsRowed Tryz.prog)=true:=by kernel_rfl
theorem memory_k4:(Tryz.f12.params.all (Tryz.prog.readableRec ·))=true:=by kernel_rfl
theorem memory_k5:(namedTie Tryz.prog Rows.layoutMemoryRow.named Rows.layoutMemorySpec.vars)=true:=by kernel_rfl
theorem memory_k6:((Rows.layoutMemoryRow.stops==[]))=true:=by kernel_rfl
theorem memory_k7:((Tryz.prog.stops==[]))=true:=by kernel_rfl
theorem memory_k8:((Rows.layoutMemoryRow.knobs==[]))=true:=by kernel_rfl
theorem memory_k9:((Tryz.prog.stopKnobs==[]))=true:=by kernel_rfl
theorem memory_k10:((Rows.layoutMemoryRow.inPlace==Tryz.prog.inPlace 12))=true:=by kernel_rfl
theorem memory_k11:((Rows.layoutMemoryRow.unfollowed==Tryz.prog.unfollowed 12))=true:=by kernel_rfl
theorem memory_rec:Tryz.prog.recurses 12=true:=rec_of (g:=110) (h:=110) (by kernel_rfl) Tryz.func110 (by kernel_rfl) (by kernel_rfl)
theorem memory_k12:(Rows.layoutMemoryRow.recurses==Tryz.prog.recurses 12)=true:=by rw[memory_rec];rfl
theorem memory_k13:((Rows.layoutMemoryRow.named==Tryz.prog.varsNamed 12))=true:=by kernel_rfl
theorem memory_k14:((Rows.layoutMemoryRow.maps==(Tryz.f12.params.toList++Rows.layoutMemorySpec.plain.varTypes Tryz.prog).any (Tryz.prog.mapsRec ·)))=true:=by kernel_rfl
theorem memory_k15:((Rows.layoutMemoryRow.ifaces==(Tryz.f12.params.toList++Rows.layoutMemorySpec.plain.varTypes Tryz.prog).any (Tryz.prog.ifacesRec ·)))=true:=by kernel_rfl
theorem memory_k16:((Rows.layoutMemoryRow.mapsOut==Tryz.prog.mapsAmong Tryz.f12.resultTypes.toList))=true:=by kernel_rfl
theorem memory_k17:((Rows.layoutMemoryRow.loops==(Tryz.f12.params.toList++Rows.layoutMemorySpec.plain.varTypes Tryz.prog).any (Tryz.prog.loopsFrom ·)))=true:=by kernel_rfl
theorem memory_k17b:((Rows.layoutMemoryRow.wideKeys==(Tryz.f12.params.toList++Rows.layoutMemorySpec.plain.varTypes Tryz.prog++Tryz.f12.resultTypes.toList).any (Tryz.prog.wideKeysFrom ·)))=true:=by kernel_rfl
theorem memory_k18:(Rows.layoutMemorySpec.vars.all (Tryz.prog.varReadable ·))=true:=by kernel_rfl
theorem memory_k19:(Tryz.f12.resultTypes.all (fun t=>Tryz.prog.readableRec t&&decide (t<Tryz.prog.types.size)))=true:=by kernel_rfl
theorem memory_k20:((Rows.layoutMemoryRow.ifacesOut==Tryz.f12.resultTypes.toList.any (Tryz.prog.ifacesRec ·)))=true:=by kernel_rfl
theorem memory_k21:((Rows.layoutMemoryRow.loopsOut==Tryz.f12.resultTypes.toList.any (Tryz.prog.loopsFrom ·)))=true:=by kernel_rfl
theorem memory_k22:((Rows.layoutMemoryRow.plainKeys==Tryz.prog.plainKeys))=true:=by kernel_rfl
theorem memory_k23:(Rows.layoutMemoryRow.shortTexts.isNone)=true:=by kernel_rfl
theorem memory_k23b:(Tryz.prog.stopsHeard)=true:=by kernel_rfl
theorem memory_k24:(Tryz.prog.mayEnter)=true:=by kernel_rfl
theorem memory_k24b:((Rows.layoutMemoryRow.lifted==Tryz.prog.liftsFinal))=true:=by kernel_rfl
theorem memory_k24c:((Tryz.prog.make==some Rows.layoutMemoryRow.make))=true:=by kernel_rfl
theorem memory_k25:((Rows.layoutMemoryRow.kinds==(if Rows.layoutMemoryRow.domain.isEmpty then[]else Tryz.f12.params.toList.map fun t=>match Tryz.prog.underlying t with|some (.int k)=>some k|_=>none)))=true:=by kernel_rfl
theorem memory_k26:((Rows.layoutMemoryRow.pinned==Rows.layoutMemoryRow.pinnedBy))=true:=by kernel_rfl
theorem memory_k27:((Rows.layoutMemoryRow.veiled==(Tryz.f12.params.toList++Rows.layoutMemorySpec.plain.varTypes Tryz.prog++Tryz.f12.resultTypes.toList).any (Tryz.prog.veiledRec ·)))=true:=by kernel_rfl
theorem memory_k28:(Rows.layoutMemoryRow.veiledFits Tryz.prog Tryz.f12.params.toList (Tryz.f12.params.toList++Rows.layoutMemorySpec.plain.varTypes Tryz.prog++Tryz.f12.resultTypes.toList))=true:=by kernel_rfl
theorem memory_closed:joinedFacts Tryz.prog 12 Tryz.f12 Rows.layoutMemorySpec Rows.layoutMemoryRow=true:=by unfold joinedFacts;exact x3R (x3R (x3R (x3R (x3R (x3R (x3R (x3R (x3R (x3R (x3R (x3R (x3R (x3R (x3R (x3R (x3R (x3R (x3R (x3R (x3R (x3R (x3R (x3R (x3R (x3R (x3R (x3R (x3R (x3R (x3R (memory_k1) memory_k2) memory_k3) memory_k4) memory_k5) memory_k6) memory_k7) memory_k8) memory_k9) memory_k10) memory_k11) memory_k12) memory_k13) memory_k14) memory_k15) memory_k16) memory_k17) memory_k17b) memory_k18) memory_k19) memory_k20) memory_k21) memory_k22) memory_k23) memory_k23b) memory_k24) memory_k24b) memory_k24c) memory_k25) memory_k26) memory_k27) memory_k28
theorem memory_row:Rows.LayoutMemorySaid:=OpenClaim.holds_of_wide 12 Tryz.f12 rfl rfl rfl rfl rfl rfl rfl ⟨rfl,rfl,rfl,rfl,rfl⟩ rfl rfl rfl rfl rfl (by kernel_rfl) Tryz.func12 memory_closed (of_decide_eq_true (by kernel_rfl)) (by unfold Func.isWrapper;rw[if_neg (of_decide_eq_false (by kernel_rfl))];exact⟨rfl,rfl⟩) (fun os started H enc _=>memory_lifted os started H enc)
theorem memory_wf:Rows.layoutMemoryRow.wfByText (OpenSpec.ofChange Rows.layoutMemorySpec)=true:=by kernel_rfl
theorem memory_main:Tryz.pinned.checked.prog.mainIs=some (true, "0b37673327b5ed7bc480cf8098c4a44163534662d2a1e5311548fec35bbad9f8".toList):=by kernel_rfl
theorem memory_name:Tryz.prog.funcNamed "pliant/pliantlaw09.LayoutMemory" =some 12:=by kernel_rfl
theorem memory_looks:true=Tryz.pinned.checked.prog.looks []:=by kernel_rfl
theorem memory_stand:([84].all fun u=>!Tryz.prog.wantsStandIn u)=true:=by kernel_rfl
theorem memory_goes:false=Rows.layoutMemoryRow.goesBy Tryz.pinned.checked.prog:=by kernel_rfl
theorem memory_card:Rows.LayoutMemoryCardSaid:=Claim7.holds_tied_plain_at .later [] [.data,.data,.data,.data,.sentinel,.sentinel,.data,.pinned] true (true, "0b37673327b5ed7bc480cf8098c4a44163534662d2a1e5311548fec35bbad9f8") true memory_row (fun _ h=>by cases h) memory_wf (fun _ h=>by cases h) layoutMemory_row_tie rfl ⟨rfl,rfl⟩ memory_main rfl (fun f fn hf nq=>by obtain rfl:f=12:=Option.some.inj (memory_name.symm.trans hf)|>.symm;obtain rfl:fn=Tryz.f12:=(Option.some.inj (Tryz.func12.symm.trans nq)).symm;exact⟨memory_looks,fun j t ht=>by(rw[Tryz.params12]at ht;have hm:t∈[84]:=by simpa using Array.mem_of_getElem? ht);exact(show Tryz.prog.wantsStandIn t=false by simpa using List.all_eq_true.1 memory_stand t hm)⟩) memory_goes
end Go.Proofs.YtadehgdfijjikaaGreatDoor
