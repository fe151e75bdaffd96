/-
  A type and a value that came in, opened and shut.
-/
import Derived.Test.YtadehgdfijjikaaGreatDoorT1
import Derived.ProofKit
import Derived.OpenShut
import Derived.LaidMore
import Derived.Lay
import Derived.SevenTiedAt
import Derived.Stop.Joined
import Derived.Lib.SmallJoins
import Derived.Lib.LaidU8
set_option linter.all false
set_option maxRecDepth 100000
namespace Go.Proofs
open Go.ChangeShapes Go.WideShapes Go.ChangeAt Go.RowKit Go.Joins Go.Deep
section
variable {H:Type} {enc:TypeId×Value->H} {P:Program} {w:World} {base:Nat} {spare:Nat->Bool} {held:Bool}
theorem array5 {α:Type}{cs:Array α}(h:cs.size=5):∃ c0 c1 c2 c3 c4,cs=#[c0,c1,c2,c3,c4]:=by
  obtain ⟨l⟩:=cs
  match l,h with
  | [c0,c1,c2,c3,c4],_=>exact ⟨c0,c1,c2,c3,c4,rfl⟩
theorem y3A {t:TypeId}{f0 f1 f2 f3 f4:Field}{fuel:Nat}{cs:List Value}{x:DataW H×List MemPlace}(ht:P.underlying t=some (.struct #[f0,f1,f2,f3,f4]))(h:DataW.trod enc P w base spare held fuel t cs=some x) :
    ∃ y0 y1 y2 y3 y4 n,x=(.agg [y0.1,y1.1,y2.1,y3.1,y4.1],y0.2++(y1.2++(y2.2++(y3.2++y4.2))))/\cs.length=P.cellsOf t/\DataW.trod enc P w base spare held n f0.type ((cs.drop f0.offset).take (P.cellsOf f0.type))=some y0 /\
      DataW.trod enc P w base spare held n f1.type ((cs.drop f1.offset).take (P.cellsOf f1.type))=some y1/\DataW.trod enc P w base spare held n f2.type ((cs.drop f2.offset).take (P.cellsOf f2.type))=some y2 /\
      DataW.trod enc P w base spare held n f3.type ((cs.drop f3.offset).take (P.cellsOf f3.type))=some y3/\DataW.trod enc P w base spare held n f4.type ((cs.drop f4.offset).take (P.cellsOf f4.type))=some y4:=by
  obtain ⟨xs,n,_,rfl,hl,am,hf⟩:=DataW.trod_struct ht h
  match xs,am with
  | [y0,y1,y2,y3,y4],_=>exact ⟨y0,y1,y2,y3,y4,n,by simp,hl,by simpa using hf 0 f0 rfl,by simpa using hf 1 f1 rfl,by simpa using hf 2 f2 rfl,by simpa using hf 3 f3 rfl,by simpa using hf 4 f4 rfl⟩
theorem v2Z {r:Reach}{b0:Nat}{t:TypeId}{f0 f1 f2 f3 f4:Field}{v:Value}{d:DataW H}{p:List MemPlace}(hs:P.underlying t=some (.struct #[f0,f1,f2,f3,f4]))(aR:oneCellFields P #[f0,f1,f2,f3,f4]=true)(hC:P.cellsOf t=5)
    (hv:Value.okWide P w r b0 t v) (h:DataW.Trod enc P w base spare held t v d p) :
    ∃ (v0 v1 v2 v3 v4:Value) (y0 y1 y2 y3 y4:DataW H×List MemPlace) (n:Nat),v = .agg #[v0,v1,v2,v3,v4]/\d = .agg [y0.1,y1.1,y2.1,y3.1,y4.1]/\p=y0.2++(y1.2++(y2.2++(y3.2++y4.2))) /\
      DataW.trod enc P w base spare held n f0.type [v0]=some y0/\DataW.trod enc P w base spare held n f1.type [v1]=some y1/\DataW.trod enc P w base spare held n f2.type [v2]=some y2/\DataW.trod enc P w base spare held n f3.type [v3]=some y3/\DataW.trod enc P w base spare held n f4.type [v4]=some y4:=by
  obtain ⟨cs,rfl,bd⟩:=okWide_struct hs hv;obtain ⟨c0,c1,c2,c3,c4,rfl⟩:=array5 (bd.trans hC);obtain ⟨fuel,hf⟩:=h;obtain ⟨y0,y1,y2,y3,y4,n,hx,_,h0,h1,h2,h3,h4⟩:=y3A hs hf;obtain ⟨o0,k0⟩:=hone_of aR 0 f0 rfl;obtain ⟨o1,k1⟩:=hone_of aR 1 f1 rfl;obtain ⟨o2,k2⟩:=hone_of aR 2 f2 rfl;obtain ⟨o3,k3⟩:=hone_of aR 3 f3 rfl;obtain ⟨o4,k4⟩:=hone_of aR 4 f4 rfl;simp only [Prod.mk.injEq] at hx;exact ⟨c0,c1,c2,c3,c4,y0,y1,y2,y3,y4,n,rfl,hx.1,hx.2,by simpa [Value.cells,o0,k0] using h0,by simpa [Value.cells,o1,k1] using h1,by simpa [Value.cells,o2,k2] using h2,by simpa [Value.cells,o3,k3] using h3,by simpa [Value.cells,o4,k4] using h4⟩
theorem v1Z {t:TypeId}{f0 f1 f2 f3 f4:Field}{v0 v1 v2 v3 v4:Value}{y0 y1 y2 y3 y4:DataW H×List MemPlace}(hs:P.underlying t=some (.struct #[f0,f1,f2,f3,f4]))(aR:oneCellFields P #[f0,f1,f2,f3,f4]=true)(hC:P.cellsOf t=5)
    (t0:∃ n,DataW.trod enc P w base spare held n f0.type [v0]=some y0) (t1:∃ n,DataW.trod enc P w base spare held n f1.type [v1]=some y1) (t2:∃ n,DataW.trod enc P w base spare held n f2.type [v2]=some y2) (t3:∃ n,DataW.trod enc P w base spare held n f3.type [v3]=some y3) (t4:∃ n,DataW.trod enc P w base spare held n f4.type [v4]=some y4) :
    DataW.Trod enc P w base spare held t (.agg #[v0,v1,v2,v3,v4]) (.agg [y0.1,y1.1,y2.1,y3.1,y4.1]) (y0.2++(y1.2++(y2.2++(y3.2++y4.2)))):=by
  obtain ⟨n0,t0⟩:=t0;obtain ⟨n1,t1⟩:=t1;obtain ⟨n2,t2⟩:=t2;obtain ⟨n3,t3⟩:=t3;obtain ⟨n4,t4⟩:=t4;obtain ⟨o0,k0⟩:=hone_of aR 0 f0 rfl;obtain ⟨o1,k1⟩:=hone_of aR 1 f1 rfl;obtain ⟨o2,k2⟩:=hone_of aR 2 f2 rfl;obtain ⟨o3,k3⟩:=hone_of aR 3 f3 rfl;obtain ⟨o4,k4⟩:=hone_of aR 4 f4 rfl;have ts:=trod_struct_mk (enc:=enc) (w:=w) (base:=base) (spare:=spare) (held:=held) (n:=n0+n1+n2+n3+n4) (cs:=[v0,v1,v2,v3,v4]) (xs:=[y0,y1,y2,y3,y4]) hs (by simp [hC])
    (by
      have e0:=DataW.trod_le (show n0 <= n0+n1+n2+n3+n4 by omega) t0
      have e1:=DataW.trod_le (show n1 <= n0+n1+n2+n3+n4 by omega) t1
      have e2:=DataW.trod_le (show n2 <= n0+n1+n2+n3+n4 by omega) t2
      have e3:=DataW.trod_le (show n3 <= n0+n1+n2+n3+n4 by omega) t3
      have e4:=DataW.trod_le (show n4 <= n0+n1+n2+n3+n4 by omega) t4
      simp [o0,k0,o1,k1,o2,k2,o3,k3,o4,k4,e0,e1,e2,e3,e4])
  exact ⟨_,by simpa [Value.cells] using ts⟩
end
section
variable {H:Type} {enc:TypeId×Value->H} {w:World} {base:Nat} {spare:Nat->Bool} {held:Bool}
theorem v7H:Tryz.prog.cellsOf 25=5:=by kernel_rfl
theorem v7G:Tryz.prog.cellsOf 87=2:=by kernel_rfl
def tyD {H:Type}(k p q:Int)(v:Bool)(s:ByteArray):DataW H:= .agg [.lit (.int .i64 k), .lit (.int .i64 p), .lit (.int .i64 q), .lit (.bool v), .lit (.string s.data.toList)]
def vaD {H:Type}(n:Int)(s:ByteArray):DataW H:= .agg [.lit (.int .i64 n), .lit (.string s.data.toList)]
def tyWf (k p q:Int)(s:ByteArray):Prop:=(Lit.int .i64 k).wf=true/\(Lit.int .i64 p).wf=true/\(Lit.int .i64 q).wf=true/\s.size <= maxLen
theorem open_ty {r:Reach}{b0:Nat}{x:Value}{d:DataW H}{ps:List MemPlace}(hv:Value.okWide Tryz.prog w r b0 25 x)(h:DataW.Trod enc Tryz.prog w base spare held 25 x d ps):∃ k p q v s,x=tyV k p q v s/\d=tyD k p q v s/\ps=[]/\tyWf k p q s:=by
  obtain ⟨c0,c1,c2,c3,c4,y0,y1,y2,y3,y4,m,rfl,rfl,rfl,h0,h1,h2,h3,h4⟩:=v2Z Tryz.underlying25 (by kernel_rfl) v7H hv h
  obtain ⟨k,e0,rfl,wk⟩:=DataW.trod_int Tryz.underlying3 h0;obtain ⟨p,e1,rfl,wp⟩:=DataW.trod_int Tryz.underlying3 h1;obtain ⟨q,e2,rfl,wq⟩:=DataW.trod_int Tryz.underlying3 h2;obtain ⟨v,e3,rfl⟩:=DataW.trod_bool Tryz.underlying4 h3;obtain ⟨s,e4,rfl,ws⟩:=DataW.trod_string Tryz.underlying9 h4;simp at e0 e1 e2 e3 e4;subst e0 e1 e2 e3 e4;exact ⟨k,p,q,v,s,rfl,rfl,rfl,wk,wp,wq,ws⟩
theorem open_va {r:Reach}{b0:Nat}{x:Value}{d:DataW H}{ps:List MemPlace}(hv:Value.okWide Tryz.prog w r b0 87 x)(h:DataW.Trod enc Tryz.prog w base spare held 87 x d ps):∃ n s,x=vaV n s/\d=vaD n s/\ps=[]/\(Lit.int .i64 n).wf=true/\s.size <= maxLen:=by
  obtain ⟨c0,c1,y0,y1,m,rfl,rfl,rfl,h0,h1⟩:=open_agg2 Tryz.underlying87 (by kernel_rfl) v7G hv h
  obtain ⟨n,e0,rfl,wn⟩:=DataW.trod_int Tryz.underlying3 h0;obtain ⟨s,e1,rfl,ws⟩:=DataW.trod_string Tryz.underlying9 h1;simp at e0 e1;subst e0 e1;exact ⟨n,s,rfl,rfl,rfl,wn,ws⟩
theorem shut_ty {k p q:Int}{v:Bool}{s:ByteArray}(h:tyWf k p q s):DataW.Trod enc Tryz.prog w base spare held 25 (tyV k p q v s) (tyD k p q v s) []:=by
  obtain ⟨wk,wp,wq,ws⟩:=h;exact v1Z (y0:=(.lit (.int .i64 k),[])) (y1:=(.lit (.int .i64 p),[])) (y2:=(.lit (.int .i64 q),[])) (y3:=(.lit (.bool v),[])) (y4:=(.lit (.string s.data.toList),[])) Tryz.underlying25 (by kernel_rfl) v7H
    ⟨1,by simp [DataW.trod,Tryz.underlying3,wk]⟩ ⟨1,by simp [DataW.trod,Tryz.underlying3,wp]⟩ ⟨1,by simp [DataW.trod,Tryz.underlying3,wq]⟩ ⟨1,by simp [DataW.trod,Tryz.underlying4]⟩ ⟨1,by simp [DataW.trod,Tryz.underlying9,ws]⟩
theorem shut_va {n:Int}{s:ByteArray}(wn:(Lit.int .i64 n).wf=true)(ws:s.size <= maxLen):DataW.Trod enc Tryz.prog w base spare held 87 (vaV n s) (vaD n s) [] :=
  shut_agg2 (y0:=(.lit (.int .i64 n),[])) (y1:=(.lit (.string s.data.toList),[])) Tryz.underlying87 (by kernel_rfl) v7G ⟨1,by simp [DataW.trod,Tryz.underlying3,wn]⟩ ⟨1,by simp [DataW.trod,Tryz.underlying9,ws]⟩
end
end Go.Proofs
