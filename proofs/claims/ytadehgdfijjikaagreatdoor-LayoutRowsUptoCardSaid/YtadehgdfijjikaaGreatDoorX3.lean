/-
  THE EXECUTOR: append.;THE EXECUTOR: a string's bytes zq a row of bytes;a row of bytes zq the same.;THE EXECUTOR: slices, comparisons, arithmetic, conversions, builtins;and all operations together.
-/
import Derived.Test.YtadehgdfijjikaaGreatDoorX2
import Derived.Laws.Append
import Derived.Lib.ConvBytes
import Derived.Laws.AppendOwn
import Derived.Laws.BytesString
set_option linter.all false
namespace Go.Xec
open Go
variable [GT]
section
variable {P:Program} {o:Oper} {T:Tm} {H H':Hp} {n n':Nat} {v:Value}
theorem z8T {β:Bm}:∀l:List UInt8,VL β (l.map fun b=>Value.int .u8 b.toNat) (l.map fun b=>Value.int .u8 b.toNat)|[]=>.nil|_::l=>.cons (.int _ _) (z8T l)
theorem v2J {β:Bm}{w:World}(hW:WR P β (hget H) w){xA x:Value}(hx:VR β xA x){size k:Nat}{new:List Value}(hk:lenS xA=some k)(hn:x6M H size xA=some new):(Builtin.lenOf x).run P w=.ok k w/\∃us:List Value,VL β new us/\∀w1:World,w1.heap=w.heap->(Builtin.firstCells size k x).run P w1=.ok us.toArray w1:=by{unfold lenS at hk;split at hk;·{cases hk;cases hx;cases hn;exact⟨by simp[Builtin.lenOf],[],.nil,fun w1 _=>by simp[Builtin.firstCells]⟩};·{rename_i a m cp;cases hk;obtain⟨b,k',_,hb,hρ,_⟩:=y4C hx;subst hρ;have jy:(x0Z H a.block).bind (fun p=>cut p.1 a.off (Nat.mul k size))=some new:=hn;cases h1:x0Z H a.block with|none=>{rw[h1]at jy;cases jy}|some p=>{rw[h1]at jy;obtain⟨c,l',rest,fz,e1,e2,e3,_,_⟩:=hW.cells h1 hb;obtain⟨r',q1,q2,q3⟩:=part_at e2 e3 jy;refine⟨by simp[Builtin.lenOf],r',q1,fun w1 aV=>?_⟩;simp only[Builtin.firstCells];exact x7A (by rw[aV];exact e1) _ r' _ q2 q3}};·{rename_i s;cases hk;cases hx;cases hn;refine⟨by simp[Builtin.lenOf],s.data.toList.map fun b=>.int .u8 b.toNat,z8T _,fun w1 _=>?_⟩;(have e:s.extract 0 s.size=s:=by simp);simp only[Builtin.firstCells,Sem.run_pure,e];congr 1;apply Array.ext';simp};·{cases hk}}
theorem v3H {o:Option TypeDesc}(h:u5C o=true):∃d,o=some d/\∀k,d≠ .int k:=by{unfold u5C at h;split at h;·{cases h};·{rename_i d ae;exact⟨d,rfl,fun k e=>ae k (by rw[e])⟩};·{cases h}}
theorem y9L (z:Array Value)(m:Nat):(Builtin.zeroCells z m).size=m*z.size:=by simp[Builtin.zeroCells]
theorem v7T {sT xT:TypeId}{s x:Operand}(ho:∃args ts,o.op=.call {callee:=.builtin .append,args,argTypes:=ts}/\args.toList=[s,x]/\ts.toList=[sT,xT])
    (h:(y8G P sT xT s x).f T H n=.ok v H' n'):OpS P o T H n v H' n':=by
  obtain⟨args,ts,ho,ha,ht⟩:=ho;obtain rfl:args=#[s,x]:=Array.ext' ha;obtain rfl:ts=#[sT,xT]:=Array.ext' ht;unfold y8G at h;obtain⟨h1,h2⟩:=x4Z h;obtain⟨e,h3,h4⟩:=x1S h2;obtain⟨i,h5,h6⟩:=x1S h4;obtain⟨z,h7,h8⟩:=x1S h6;obtain⟨h9,aQ⟩:=x4Z h8;obtain⟨ce,dI⟩:=x0D h9;obtain⟨gW,ik⟩:=x0D dI;obtain⟨k,sI,sH⟩:=x1M (o:=lenS (ev T x)) aQ;obtain⟨new,sG,sF⟩:=x1M sH;obtain⟨tS,fq⟩:=x3A sF;obtain⟨tR,sD⟩:=x0D tS;have s1:1<=i.size:=x1H ce;have b1:1<=i.bytes:=x1H gW;have zl:z.length=i.size:=x0U ik;have nl:new.length=k*i.size:=x0U sD;obtain⟨dx,rx,qJ⟩:=v3H h1;have aW:x1K P e=some i.size:=by unfold x1K;rw[h5];rfl
  have common:∀(β:Bm) (w:World) (ρ:Operand->Value),(∀y∈o.op.operands,VR β (ev T y) (ρ y))->WR P β (hget H) w->
      ∃us:List Value,VL β new us/\us.length=k*i.size/\(∀y∈us,y.oneCell'=true)/\(∀w1:World,w1.heap=w.heap->(Builtin.firstCells i.size k (ρ x)).run P w1=.ok us.toArray w1)/\(Builtin.lenOf (ρ x)).run P w=.ok k w:=by
    intro β w ρ hx hW;have bL:=hx x (by simp[ho,Op.operands,Call.operands])
    obtain⟨r1,us,r2,r3⟩:=v2J hW bL sI sG;exact⟨us,r2,by rw[<-r2.length];exact nl,y9E tR r2,r3,r1⟩
  have jF:¬(i.bytes=0):=by omega
  have fit:∀(w:World) (ρ:Operand->Value) (base:Option Addr) (sLen sCap:Nat) (us:List Value),ρ s=.slice base sLen sCap->(Builtin.lenOf (ρ x)).run P w=.ok k w->(Builtin.firstCells i.size k (ρ x)).run P w=.ok us.toArray w->sLen+k<=sCap->
      ∀w',(∀a,base=some a->(storeCells (a.add (sLen*i.size)) us).run P w=.ok () w')->(base=none->w'=w)->(execOp ρ o).run P w=.ok (.value (.slice base (sLen+k) sCap)) w':=by
    intro w ρ base sLen sCap us hs r1 r3 cn w' hw ug;simp only[execOp,ho,resolve,invoke,builtin,Builtin.append_,List.map_toArray,List.map_cons,List.map_nil,Sem.run_bind,Sem.run_pure,Result.andThen_ok,List.getElem?_toArray,List.getElem?_cons_zero,List.getElem?_cons_succ,
      x0M (x2Q h3),hs,x2D aW,x0M rx,Bool.false_eq_true,if_false,r1,Bool.not_false,if_true,if_pos cn,r3]
    cases base with
    |none=>rw[ug rfl];simp
    |some a=>simp[hw a rfl]
  have grow:∀(w:World) (ρ:Operand->Value) (base:Option Addr) (sLen sCap:Nat) (us os:List Value),ρ s=.slice base sLen sCap->(Builtin.lenOf (ρ x)).run P w=.ok k w->
      (∀w1:World,w1.heap=w.heap->(Builtin.firstCells i.size k (ρ x)).run P w1=.ok us.toArray w1)->(∀w1:World,w1.heap=w.heap->(Builtin.firstCells i.size sLen (.slice base sLen sCap)).run P w1=.ok os.toArray w1)->
      ¬(sLen+k<=sCap)->(sLen+k)*i.bytes<=1099511627776->
      ∃(nc:Nat) (y:Value),sLen+k<=nc/\y.cells.toList=z/\
        (execOp ρ o).run P w=.ok (.value (.slice (some ⟨w.heap.size,0,none⟩) (sLen+k) nc)) {w with heap:=w.heap.push (.cells (os.toArray++us.toArray++Builtin.zeroCells y.cells (nc-(sLen+k))) e (0,0)),drawn:=w.drawn+1}:=by
    intro w ρ base sLen sCap us os hs r1 r3 r4 cn df;have iK:¬(Builtin.nextslicecap (sLen+k) sCap*i.bytes>281474976710656):=by
      have:=growslice_fits (need:=sLen+k) (old:=sCap) (bytes:=i.bytes) (by omega) (by omega)
      omega
    obtain⟨bY,_⟩:=y5J h7;obtain⟨y,hy,zt⟩:=z2L (P:=P) (w:= {w with drawn:=w.drawn+1}) bY;refine⟨Question.cut (.appendCap (sLen+k) sCap e) (w.tape w.drawn (.appendCap (sLen+k) sCap e)),y,by simp[Question.cut],zt,?_⟩
    have e48:(2:Nat)^48=281474976710656:=by decide
    simp only[execOp,ho,resolve,invoke,builtin,Builtin.append_,List.map_toArray,List.map_cons,List.map_nil,Sem.run_bind,Sem.run_pure,Result.andThen_ok,List.getElem?_toArray,List.getElem?_cons_zero,List.getElem?_cons_succ,
      x0M (x2Q h3),hs,x2D aW,x0M rx,Bool.false_eq_true,if_false,r1,Bool.not_false,if_true,if_neg cn,y4H h5,jF,or_self,and_false,e48,if_neg iK,run_choose,Question.forced,run_askRoom]
    have q4:=r4 {w with drawn:=w.drawn+1} rfl;have q3:=r3 {w with drawn:=w.drawn+1} rfl;simp only[q4,Result.andThen_ok,q3,hy,newRow,Sem.run_bind,run_newObj,Sem.run_pure]
  have grown:∀(base:Option Addr) (sLen:Nat) (oldA:List Value),oldA.length=sLen*i.size->Nat.ble (Nat.mul (Nat.add sLen k) i.bytes) 1099511627776=true->
      ∀(β:Bm) (w:World) (ρ:Operand->Value) (sCap:Nat) (us os:List Value),WR P β (hget H) w->β n=none->ρ s=.slice base sLen sCap->(Builtin.lenOf (ρ x)).run P w=.ok k w->
      (∀w1:World,w1.heap=w.heap->(Builtin.firstCells i.size k (ρ x)).run P w1=.ok us.toArray w1)->(∀w1:World,w1.heap=w.heap->(Builtin.firstCells i.size sLen (.slice base sLen sCap)).run P w1=.ok os.toArray w1)->
      ¬(sLen+k<=sCap)->VL β oldA os->VL β new us->
      ∃r c w' γ,(execOp ρ o).run P w=.ok r w'/\nextV r=some c/\VR γ (.slice (some ⟨n,0,none⟩) (sLen+k) unk) c/\Ext P β (hget H) n w γ (hget (hset H n (.cells (oldA++new) e))) (n+1) w':=by
    intro base sLen oldA ol df β w ρ sCap us os hW hn hs r1 r3 r4 cn cZ iu;obtain⟨nc,y,g1,g2,g3⟩:=grow w ρ base sLen sCap us os hs r1 r3 r4 cn (x1H df);have ys:y.cells.size=i.size:=by rw[<-Array.length_toList,g2];exact zl
    refine⟨_,_,_,upd β n (w.heap.size,nc),g3,rfl,.sl _ _ (w.heap.size,nc) _ _ _ (x1J _ _ _) (.inr ⟨rfl,g1,fun _=>rfl⟩),?_⟩;refine Ext.congr (Ext.new hW hn (m:=nc) (.cells (oldA++new) (os++us) e _ (Builtin.zeroCells y.cells (nc-(sLen+k))).toList (0,0) (cZ.append iu) (by simp) ?_ (.inl rfl))) rfl rfl rfl rfl
    intro sz ft;rw[aW]at ft;cases ft;have l1:=cZ.length;have l2:=iu.length;have:(sLen+k)*i.size+(nc-(sLen+k))*i.size=nc*i.size:=by rw[<-Nat.add_mul];congr 1;omega
    have t:(sLen+k)*i.size=sLen*i.size+k*i.size:=Nat.add_mul _ _ _;simp only[Array.size_append,y9L,List.size_toArray,ys];omega
  unfold appTo at fq;split at fq
  ·
    rename_i gw;cases kw:Nat.beq k 0 with
    |true=>
      rw[kw,cond_true]at fq;cases fq;have k0:k=0:=x0U kw;refine OpS.same fun β w ρ hx hW=>?_;obtain⟨us,u1,u2,u3,u4,u5⟩:=common β w ρ hx hW;have hr:=hx s (by simp[ho,Op.operands,Call.operands])
      rw[gw]at hr;have hs:ρ s=.slice none 0 0:=by generalize ρ s=y at hr;cases hr;rfl
      refine⟨.slice none (0+k) 0,fit w ρ none 0 0 us hs u5 (u4 w rfl) (by omega) w (fun _ h=>by cases h) (fun _=>rfl),?_⟩
      subst k0;exact .nilSl 0 0
    |false=>
      rw[kw,cond_false]at fq;obtain⟨df,sC⟩:=x3A fq;cases sC;have k0:k≠0:=fun e=>by subst e;cases kw
      refine⟨by omega,fun j hj h0=>by rw[x0E,if_neg (by omega)];exact h0,fun β w ρ hx hW hf=>?_⟩
      obtain⟨us,u1,u2,u3,u4,u5⟩:=common β w ρ hx hW;have hr:=hx s (by simp[ho,Op.operands,Call.operands])
      rw[gw]at hr;have hs:ρ s=.slice none 0 0:=by generalize ρ s=y at hr;cases hr;rfl
      have:=grown none 0 [] (by simp) (by simpa using df) β w ρ 0 us [] hW (hf n (Nat.le_refl _) (by omega)) hs u5 u4 (fun w1 _=>by simp[Builtin.firstCells]) (by omega) .nil u1
      simpa using this
  . rename_i a sLen sCap gw;cases kw:Nat.beq k 0 with
    |true=>
      rw[kw,cond_true]at fq;obtain⟨i7,sC⟩:=x3A fq;cases sC;have k0:k=0:=x0U kw;refine OpS.same fun β w ρ hx hW=>?_;obtain⟨us,u1,u2,u3,u4,u5⟩:=common β w ρ hx hW;have hr:=hx s (by simp[ho,Op.operands,Call.operands])
      rw[gw]at hr;obtain⟨b,k',cD,hb,hs,dt⟩:=y4C hr;have us0:us=[]:=List.eq_nil_of_length_eq_zero (by rw[u2,k0];simp)
      subst us0;have aK:sLen<=k':=by
        rcases dt with⟨e1,e2⟩|⟨_,e2,_⟩
        . rw[x0J e2,cond_false]at i7;have:=x1H i7;omega
        . exact e2
      refine⟨.slice (some ⟨b.1,a.off,none⟩) (sLen+k) k',fit w ρ _ sLen k' [] hs u5 (u4 w rfl) (by omega) w (fun _ _=>by simp[storeCells]) (fun h=>by cases h),?_⟩
      subst k0;rw[hs]at hr;exact hr
    |false=>
      rw[kw,cond_false]at fq;have k0:k≠0:=fun e=>by subst e;cases kw
      obtain⟨df,sC⟩:=x3A fq;obtain⟨p,xm,kU⟩:=x1M sC;unfold z9B at kU;cases hu:Nat.beq sCap unk with
      |true=>
        rw[hu,cond_true]at kU;obtain⟨oU,sB⟩:=x3A kU;cases sB;obtain⟨xk,xj⟩:=x0D oU;obtain⟨BW,BV⟩:=x0D xj;have a0:a.off=0:=x0U xk;have pl:p.1.length=sLen*i.size:=x0U BW;have pe:p.2=e:=x0U BV;have scu:sCap=unk:=x0U hu;have aE:=x4J xm;refine⟨by omega,fun j hj h0=>?_,fun β w ρ hx hW hf=>?_⟩
        . rw[x0E,if_neg (by omega),x0E]
          split
          . rename_i ej;subst ej;rw[aE]at h0;cases h0
          . exact h0
        . have hn:=hf n (Nat.le_refl _) (by omega)
          obtain⟨us,u1,u2,u3,u4,u5⟩:=common β w ρ hx hW;have hr:=hx s (by simp[ho,Op.operands,Call.operands])
          rw[gw]at hr;obtain⟨b,k',cD,hb,hs,dt⟩:=y4C hr;have dt:sLen<=k'/\b.2=k':=by
            rcases dt with⟨_,e2⟩|⟨_,e2,e3⟩
            . exact absurd scu e2
            . exact⟨e2,e3 a0⟩
          obtain⟨c,l',rest,fz,e1,e2,e3,e4,hz⟩:=hW.cells xm hb;have l1:=e2.length
          by_cases cn:sLen+k<=k'
          ·
            have lu:(sLen+k)*i.size<=c.size:=by
              have q1:=e4 i.size (by rw[pe];exact aW)
              rw[dt.2]at q1;exact Nat.le_trans (Nat.mul_le_mul_right _ cn) q1
            have t:(sLen+k)*i.size=sLen*i.size+k*i.size:=Nat.add_mul _ _ _;have bD:=x6Z (P:=P) b.1 (sLen*i.size) p.2 fz us 0 c w e1 hz (by omega) u3
            have eS:=setRow_heap w b.1 c (c.toList.take (sLen*i.size+0)++us++c.toList.drop (sLen*i.size+0+us.length)).toArray p.2 fz e1;have eL:c.toList.length=c.size:=Array.length_toList;refine⟨_,_,_,upd β n b,fit w ρ _ sLen k' us hs u5 (u4 w rfl) cn _ (fun x lj=>by cases lj;rw[x4P,a0,Nat.zero_add];exact bD) (fun h=>by cases h),rfl,?_,?_⟩
            . rw[a0];exact .sl _ _ b _ _ _ (x1J _ _ _) (.inr ⟨rfl,cn,fun _=>dt.2⟩)
            . rw[<-pe];refine Ext.move hW hn aE hb (by simp) (by simp) (by simp) eS (fun c' fP=>setRow_other w b.1 c' _ fP) (.cells (p.1++new) (l'++us) p.2 _ (c.toList.drop (sLen*i.size+us.length)) fz (e2.append u1) ?_ (fun sz ft=>?_) ?_) rfl rfl rfl
              . have:c.toList.take (sLen*i.size)=l':=by rw[e3,List.take_append_of_le_length (by omega),List.take_of_length_le (by omega)]
                simp[this]
              . have:=e4 sz ft
                simp;omega
              . rcases hz with hz|hz
                . exact .inl hz
                . right;simp;omega
          ·
            have fB:∀w1:World,w1.heap=w.heap->(Builtin.firstCells i.size sLen (.slice (some ⟨b.1,a.off,none⟩) sLen k')).run P w1=.ok l'.toArray w1:=fun w1 aV=>by
              simp only[Builtin.firstCells];refine x7A (by rw[aV];exact e1) _ l' _ (by omega) fun j v hv=>?_
              rw[a0,Nat.zero_add,e3,List.getElem?_append_left (List.getElem?_eq_some_iff.1 hv).1];exact hv
            obtain⟨r,cc,w',γ,q1,q2,q3,q4⟩:=grown (some ⟨b.1,a.off,none⟩) sLen p.1 pl df β w ρ k' us l' hW hn hs u5 u4 fB cn e2 u1;refine⟨r,cc,w',γ,q1,q2,q3,?_⟩;have b8:a.block≠n:=fun e=>by rw[e,hW.fresh hn]at aE;cases aE
            have get:∀j,hget (hset (hset H a.block .dead) n (.cells (p.1++new) e)) j=if j=n then some (.cells (p.1++new) e)else if j=a.block then some .dead else hget H j:=fun j=>by rw[x0E,x0E]
            refine⟨q4.same,⟨fun j r g=>?_,fun j m c d r t g1 g2 d1 d2 b1 b2 bc=>?_,q4.wr.glob,fun g cs eJ j r c k1 k2 k3=>?_⟩,q4.size,q4.frame,fun j r d g1 g2 g3=>?_,fun j g=>?_,q4.kept,q4.os,q4.out,q4.tape⟩
            . rw[get]at g
              by_cases ej:j=n
              . rw[if_pos ej]at g;exact q4.wr.obj j r (by rw[x0E,if_pos ej];exact g)
              . rw[if_neg ej]at g
                by_cases ea:j=a.block
                . rw[if_pos ea]at g;cases g;obtain⟨d,x,k1,k2,k3⟩:=q4.wr.obj j _ (by rw[x0E,if_neg ej,ea];exact aE)
                  exact⟨d,x,k1,k2,.dead _⟩
                . rw[if_neg ea]at g;exact q4.wr.obj j r (by rw[x0E,if_neg ej];exact g)
            . have back:∀j r,hget (hset (hset H a.block .dead) n (.cells (p.1++new) e)) j=some r->r≠ .dead->hget (hset H n (.cells (p.1++new) e)) j=some r:=fun j r g d=>by
                rw[get]at g;rw[x0E]
                by_cases ej:j=n
                . rw[if_pos ej]at g|-;exact g
                . rw[if_neg ej]at g|-
                  by_cases ea:j=a.block
                  . rw[if_pos ea]at g;cases g;exact absurd rfl d
                  . rw[if_neg ea]at g;exact g
              exact q4.wr.inj j m c d r t (back j r g1 d1) (back m t g2 d2) d1 d2 b1 b2 bc
            . refine q4.wr.off g cs eJ j r c ?_ k2 k3;rw[get]at k1;rw[x0E]
              by_cases ej:j=n
              . rw[if_pos ej]at k1|-;exact k1
              . rw[if_neg ej]at k1|-
                by_cases ea:j=a.block
                . rw[if_pos ea]at k1;cases k1;exact absurd rfl k2
                . rw[if_neg ea]at k1;exact k1
            . rw[get]at g1;refine q4.orig j r d ?_ g2 g3;rw[x0E]
              by_cases ej:j=n
              . rw[if_pos ej]at g1|-;exact g1
              . rw[if_neg ej]at g1|-
                by_cases ea:j=a.block
                . rw[if_pos ea]at g1;cases g1;exact absurd rfl g2
                . rw[if_neg ea]at g1;exact g1
            . rw[get,if_neg,if_neg]
              . exact g
              . intro ea;rw[ea,aE]at g;cases g
              . intro ej;rw[ej,hW.fresh hn]at g;cases g
      |false=>
        rw[hu,cond_false]at kU;have scu:sCap≠unk:=fun e=>by rw[x0T e]at hu;cases hu
        cases eZ:Nat.ble (Nat.add sLen k) sCap with
        |true=>
          rw[eZ,cond_true]at kU;unfold x8L at kU;obtain⟨p',oU,sB⟩:=x1M kU;obtain⟨l2,xk,xj⟩:=x1M sB;cases xj;refine⟨Nat.le_refl _,fun j _ h0=>?_,fun β w ρ hx hW _=>?_⟩
          . rw[x0E];split
            . rename_i ej;subst ej;rw[x4J oU]at h0;cases h0
            . exact h0
          . obtain⟨us,u1,u2,u3,u4,u5⟩:=common β w ρ hx hW;have hr:=hx s (by simp[ho,Op.operands,Call.operands])
            rw[gw]at hr;obtain⟨b,k',cD,hb,hs,dt⟩:=y4C hr;have dt:sCap=k':=by
              rcases dt with⟨e1,_⟩|⟨e1,_⟩
              . exact e1
              . exact absurd e1 scu
            subst dt;obtain⟨w',r1,r2⟩:=z5D (P:=P) (n:=n) hW oU hb xk u1 u3;refine⟨_,_,w',β,fit w ρ _ sLen sCap us hs u5 (u4 w rfl) (x1H eZ) w' (fun x lj=>by cases lj;rw[x4P];exact r1) (fun h=>by cases h),rfl,.sl _ _ b _ _ _ hb (.inl ⟨rfl,scu⟩),r2⟩
        |false=>
          rw[eZ,cond_false]at kU;obtain⟨old,oU,sB⟩:=x1M kU;cases sB;have aM:¬(sLen+k<=sCap):=fun h=>by
            have:Nat.ble (sLen+k) sCap=true:=Nat.ble_eq_true_of_le h;rw[show Nat.add sLen k=sLen+k from rfl,this]at eZ;cases eZ
          refine⟨by omega,fun j hj h0=>by rw[x0E,if_neg (by omega)];exact h0,fun β w ρ hx hW hf=>?_⟩
          obtain⟨us,u1,u2,u3,u4,u5⟩:=common β w ρ hx hW;have hr:=hx s (by simp[ho,Op.operands,Call.operands])
          rw[gw]at hr;obtain⟨b,k',cD,hb,hs,dt⟩:=y4C hr;have dt:sCap=k':=by
            rcases dt with⟨e1,_⟩|⟨e1,_⟩
            . exact e1
            . exact absurd e1 scu
          subst dt;obtain⟨c,l',rest,fz,e1,e2,e3,e4,hz⟩:=hW.cells xm hb;obtain⟨os,q1,q2,q3⟩:=part_at e2 e3 oU;have ol:old.length=sLen*i.size:=by rw[q1.length];exact q2
          exact grown (some ⟨b.1,a.off,none⟩) sLen old ol df β w ρ sCap us os hW (hf n (Nat.le_refl _) (by omega)) hs u5 u4 (fun w1 aV=>by
            simp only[Builtin.firstCells];exact x7A (by rw[aV];exact e1) _ os _ q2 q3) aM q1 u1
  . cases fq
end
variable [GT]
section
variable {P:Program} {o:Oper} {T:Tm} {H H':Hp} {n n':Nat} {v:Value}
theorem isU8_ok' {o:Option TypeDesc}(h:isU8 o=true):o=some (.int .u8):=by{unfold isU8 at h;split at h;·{rfl};·{cases h}}
theorem v5M {o:Option TypeDesc}(h:x9Y o=true):o=some .string:=by{unfold x9Y at h;split at h;·{rfl};·{cases h}}
theorem y8H (w:World)(e:TypeId)(s:ByteArray):(Lib.bytesWorld w e s).heap=w.heap.push (.cells (Lib.bytesCells w e s) e ((Lib.bytesCells w e s).size,(Lib.bytesCells w e s).size+1)):=by{apply Array.ext_getElem?;intro j;by_cases h1:j<w.heap.size;·{rw[Lib.bytesWorld_at_old w e s j h1,Array.getElem?_push_lt h1,Array.getElem?_eq_getElem h1]};·{by_cases h2:j=w.heap.size;·{subst h2;rw[Lib.bytesWorld_at_new];simp};·{rw[Array.getElem?_eq_none (by rw[Lib.bytesWorld_size];omega),Array.getElem?_eq_none (by simp;omega)]}}}
theorem u1G (w:World)(b k:Nat){c:Array Value}{e:TypeId}{fz:Nat×Nat}(h:w.heap[b]? =some (.cells c e fz))(hk:c.size=k)(hz:fz=(0,0)\/c.size<=fz.1):∃fz',(fz'=(0,0)\/c.size<=fz'.1)/\(w.freeze ⟨b,k,none⟩ 1).heap[b]? =some (.cells c e fz')/\(∀j,j≠b->(w.freeze ⟨b,k,none⟩ 1).heap[j]? =w.heap[j]?)/\(w.freeze ⟨b,k,none⟩ 1).heap.size=w.heap.size/\(w.freeze ⟨b,k,none⟩ 1).os=w.os/\(w.freeze ⟨b,k,none⟩ 1).output=w.output/\(w.freeze ⟨b,k,none⟩ 1).tape=w.tape:=by{subst hk;obtain⟨lo,hi⟩:=fz;refine⟨if lo==hi then(c.size,c.size+1)else(min lo c.size,max hi (c.size+1)),?_,?_,fun j hj=>?_,?_,rfl,rfl,rfl⟩;·{right;split;·{exact Nat.le_refl _};·{rename_i ae;rcases hz with hz|hz;·{cases hz;exact absurd rfl ae};·{have hz:c.size<=lo:=hz;show c.size<=min lo c.size;omega}}};·{simp[World.freeze,Array.getElem?_modify,h]};·{simp[World.freeze,Array.getElem?_modify,Ne.symm hj]};·{simp[World.freeze]}}
theorem u7Q {s d:TypeId}{x:Operand}{e:TypeId}(ho:o.op=.convert s d x)(hd:P.underlying d=some (.slice e))(h:(y1T P s d x e).f T H n=.ok v H' n'):OpS P o T H n v H' n':=by{obtain⟨h1,h2⟩:=x4Z h;obtain⟨h3,h4⟩:=x0D h1;have h3:=isU8_ok' h3;have aW:x1K P e=some 1:=by{split at h4;·{rename_i k hk;rw[hk,x0U h4]};·{cases h4}};cases hs:x9Y (P.underlying s)with|true=>{rw[hs,cond_true]at h2;obtain⟨b,h5,h6⟩:=z2U (x:=ev T x) h2;cases h6;refine⟨Nat.le_succ n,fun i hi h0=>by rw[x0E,if_neg (by omega)];exact h0,fun β w ρ hx hW hf=>?_⟩;have hn:=hf n (Nat.le_refl _) (Nat.lt_succ_self n);have hρ:ρ x=.string b:=str_of (β:=β) (h5▸hx x (by simp[ho,Op.operands]));have bD:=Lib.run_convert_string_bytes (P:=P) w s d e b (v5M hs) hd h3;have bu:=grownCap_ge w b.size 0 e;have eK:(Lib.bytesCells w e b).size=grownCap w b.size 0 e:=by{have:b.data.size=b.size:=rfl;simp[Lib.bytesCells,this];omega};(have hE:execOp ρ o=(do pure (.value (<-convert s d (ρ x)))):=by unfold execOp;rw[ho]);refine⟨.value (.slice (some ⟨w.heap.size,0,none⟩) b.size (grownCap w b.size 0 e)),_,Lib.bytesWorld w e b,upd β n (w.heap.size,grownCap w b.size 0 e),?_,rfl,.sl _ _ (w.heap.size,grownCap w b.size 0 e) _ _ _ (x1J _ _ _) (.inr ⟨rfl,bu,fun _=>rfl⟩),?_⟩;·{rw[hE,hρ];simp only[Sem.run_bind,bD,Result.andThen_ok,Sem.run_pure]};·{refine Ext.congr (Ext.new hW hn (m:=grownCap w b.size 0 e) (.cells _ (b.data.toList.map fun c=>.int .u8 c.toNat) e (Lib.bytesCells w e b) (List.replicate (grownCap w b.size 0 e-b.size) (.int .u8 0)) ((Lib.bytesCells w e b).size,(Lib.bytesCells w e b).size+1) (x9W ?_) ?_ (fun sz ft=>?_) (.inr (Nat.le_refl _)))) (y8H w e b) rfl rfl rfl;·{generalize b.data.toList=l;induction l with|nil=>rfl|cons a l ih=>{exact ih}};·{simp[Lib.bytesCells]};·{rw[aW]at ft;cases ft;rw[eK];omega}}}|false=>{rw[hs,cond_false]at h2;obtain⟨h5,h6⟩:=x4Z h2;obtain⟨h7,h8⟩:=x0D h5;have uD:s=d:=x0U h7;subst uD;obtain⟨a,l,c,h9,aQ⟩:=z2V h6;obtain⟨p,ce,dI⟩:=x1M aQ;cases dI;refine⟨Nat.le_refl _,fun i _ h0=>h0,fun β w ρ hx hW _=>?_⟩;have hr:=hx x (by simp[ho,Op.operands]);(rw[h9]at hr;obtain⟨b,k',cD,hb,hρ,dt⟩:=y4C hr;obtain⟨cs,l',rest,fz,e1,e2,e3,e4,hz⟩:=hW.cells ce hb;obtain⟨fz',q1,q2,q3,q4,q5,q6,q7⟩:=u1G w b.1 cs.size e1 rfl hz;have hE:execOp ρ o=(do pure (.value (<-convert s s (ρ x)))):=by unfold execOp;rw[ho]);(have mD:w.shape? b.1=some (p.2,cs.size):=by simp[World.shape?,e1]);have hG:hget (hset H a.block (.cells p.1 p.2))=hget H:=by{funext j;rw[x0E];split;·{rename_i e;subst e;exact(x4J ce).symm};·{rfl}};refine⟨.value (ρ x),_,w.freeze ⟨b.1,cs.size,none⟩ 1,β,?_,rfl,hr,?_⟩;·{rw[hE,hρ];have:(convert s s (.slice (some ⟨b.1,a.off,none⟩) l k')).run P w=.ok (.slice (some ⟨b.1,a.off,none⟩) l k') (w.freeze ⟨b.1,cs.size,none⟩ 1):=by{simp[convert,x0M hd,x0M h3,markStringish,mD]};simp only[Sem.run_bind,this,Result.andThen_ok,Sem.run_pure]};·{have:=Ext.turn (n:=n) hW (x4J ce) hb (by simp) (by simp) q4 q2 q3 (.cells p.1 l' p.2 cs rest fz' e2 e3 e4 q1) q5 q6 q7;rw[hG]at this;exact this}}}
end
variable [GT]
section
variable {P:Program} {o:Oper} {T:Tm} {H H':Hp} {n n':Nat} {v:Value}
theorem z3A {x:Value}{m:Nat}(h:z6V x=some m):∃k,x=.int k (.ofNat m):=by{unfold z6V at h;split at h;·{cases h;exact⟨_,rfl⟩};·{cases h}}
theorem y0X {w:World}{k:IntKind}{m y:Nat}{c:BoundsCode}(h:m<=y):(Instr.sliceBound (.int k (m:Int)) y c).run P w=.ok m w:=by{(have:(m:Int)<=(y:Int):=by omega);simp[Instr.sliceBound,asIntOf,h]}
theorem y8M {len cap:Nat}{lo hi:Option Operand}{f:Nat->Nat->OR}(h:y8N len cap (lo.map (ev T)) (hi.map (ev T)) f=.ok v H' n'):∃l h',l<=h'/\h'<=cap/\f l h'=.ok v H' n'/\∀(β:Bm) (w:World) (ρ:Operand->Value),(∀x,lo=some x->VR β (ev T x) (ρ x))->(∀x,hi=some x->VR β (ev T x) (ρ x))->∀cap',cap<=cap'->∀b,(Instr.sliceBounds b len cap' (lo.map ρ) (hi.map ρ) none).run P w=.ok (l,h',cap') w:=by{unfold y8N at h;obtain⟨l,h1,h2⟩:=x1M h;obtain⟨h',h3,h4⟩:=x1M h2;obtain⟨h5,h6⟩:=x3A h4;obtain⟨h7,h8⟩:=x0D h5;have a1:=x1H h7;have a2:=x1H h8;refine⟨l,h',a1,a2,h6,fun β w ρ hl hh cap' hc b=>?_⟩;cases lo with|none=>{have h1:some 0=some l:=h1;cases h1;cases hi with|none=>{have h3:some len=some h':=h3;cases h3;simp[Instr.sliceBounds]}|some y=>{have h3:z6V (ev T y)=some h':=h3;obtain⟨k,hk⟩:=z3A h3;have hy:=int_of (β:=β) (hk▸hh y rfl);simp[Instr.sliceBounds,hy,y0X (P:=P) (w:=w) (k:=k) (show h'<=cap' by omega)]}}|some x=>{have h1:z6V (ev T x)=some l:=h1;obtain⟨k,hk⟩:=z3A h1;have hx:=int_of (β:=β) (hk▸hl x rfl);cases hi with|none=>{have h3:some len=some h':=h3;cases h3;simp[Instr.sliceBounds,hx,y0X (P:=P) (w:=w) (k:=k) a1]}|some y=>{have h3:z6V (ev T y)=some h':=h3;obtain⟨k2,gJ⟩:=z3A h3;have hy:=int_of (β:=β) (gJ▸hh y rfl);simp[Instr.sliceBounds,hx,hy,y0X (P:=P) (w:=w) (k:=k) a1,y0X (P:=P) (w:=w) (k:=k2) (show h'<=cap' by omega)]}}}
theorem y4V {o:Option TypeDesc}(h:x9Y o=true):o=some .string:=by{unfold x9Y at h;split at h;·{rfl};·{cases h}}
theorem v1Y {sz:Nat}{a:Addr}{len cap:Nat}{lo hi:Option Operand}(h:slKn sz a len cap (lo.map (ev T)) (hi.map (ev T)) H n = .ok v H' n') :
    H'=H/\n'=n/\∀ (β:Bm) (w:World) (ρ:Operand->Value),(∀ x,lo=some x->VR β (ev T x) (ρ x))->(∀ x,hi=some x->VR β (ev T x) (ρ x))->∀ (q:Nat×Nat),a.spot=none->β a.block=some q->∀ b,
      ∃ l h' c,(Instr.sliceBounds b len cap (lo.map ρ) (hi.map ρ) none).run P w = .ok (l,h',cap) w/\VR β v c /\
        c = .slice (some (if cap=l then (⟨q.1,a.off,none⟩:Addr) else (⟨q.1,a.off,none⟩:Addr).add (l*sz))) (h'-l) (cap-l):=by
  unfold slKn at h;obtain ⟨h0,h⟩:=x3A h;have i7:cap<unk:=by have:=x1H h0;unfold unk;omega
  obtain ⟨l,h',a1,a2,h1,h2⟩:=y8M (P:=P) h;cases h1;refine ⟨rfl,rfl,fun β w ρ hl hh q cD hq b=>⟨l,h',_,h2 β w ρ hl hh cap (Nat.le_refl _) b, ?_,rfl⟩⟩;have hk:cap-l≠unk:=by omega
  cases hb:Nat.beq cap l with
  | true =>
    have e:cap=l:=x0U hb;rw [cond_true,if_pos e];obtain ⟨ab,ao,zq⟩:=a;simp only at cD;subst cD;exact .sl ab ao q _ _ _ hq (.inl ⟨rfl,hk⟩)
  | false =>
    have e:¬ cap=l:=fun e=>by rw [x0T e] at hb;cases hb
    rw [cond_false,if_neg e,x4P];exact .sl _ _ q _ _ _ hq (.inl ⟨rfl,hk⟩)
theorem slUnk_ok {sz:Nat}{a:Addr}{len:Nat}{lo hi:Option Operand}(h:slUnk sz a len (lo.map (ev T)) (hi.map (ev T)) H n = .ok v H' n') :
    H'=H/\n'=n/\∀ (β:Bm) (w:World) (ρ:Operand->Value),(∀ x,lo=some x->VR β (ev T x) (ρ x))->(∀ x,hi=some x->VR β (ev T x) (ρ x))->∀ (q:Nat×Nat) (cap':Nat),a.spot=none->β a.block=some q->len <= cap'->(a.off=0->q.2=cap')->∀ b,
      ∃ l h' c,(Instr.sliceBounds b len cap' (lo.map ρ) (hi.map ρ) none).run P w = .ok (l,h',cap') w/\VR β v c /\
        c = .slice (some (if cap'=l then (⟨q.1,a.off,none⟩:Addr) else (⟨q.1,a.off,none⟩:Addr).add (l*sz))) (h'-l) (cap'-l):=by
  unfold slUnk at h;obtain ⟨l,h',a1,a2,h1,h2⟩:=y8M (P:=P) h;obtain ⟨ab,ao,zq⟩:=a;cases hb:Nat.beq l 0 with
  | true =>
    rw [hb,cond_true] at h1;cases h1;have e:l=0:=x0U hb;subst e;refine ⟨rfl,rfl,fun β w ρ hl hh q cap' cD hq aK h0 b=>⟨0,h',_,h2 β w ρ hl hh cap' aK b, ?_,rfl⟩⟩;simp only at cD;subst cD;have:(if cap'=0 then (⟨q.1,ao,none⟩:Addr) else (⟨q.1,ao,none⟩:Addr).add (0*sz))=⟨q.1,ao,none⟩:=by split <;> simp [x4P]
    rw [this];simp only [Nat.sub_zero];exact .sl ab ao q _ _ _ hq (.inr ⟨rfl,by omega,h0⟩)
  | false =>
    rw [hb,cond_false] at h1;obtain ⟨h3,h4⟩:=x3A h1;cases h4;obtain ⟨h5,h6⟩:=x0D h3;have e:l≠0:=fun e=>by rw [x0T e] at hb;cases hb
    have gH:l<len:=x1H h5;have aW:1 <= sz:=x1H h6;refine ⟨rfl,rfl,fun β w ρ hl hh q cap' cD hq aK h0 b=>⟨l,h',_,h2 β w ρ hl hh cap' aK b, ?_,rfl⟩⟩;rw [if_neg (by omega),x4P]
    have:1 <= l*sz:=Nat.mul_pos (by omega) aW
    exact .sl ab (ao+l*sz) q _ _ _ hq (.inr ⟨rfl,by show h'-l <= cap'-l;omega,fun h=>by omega⟩)
theorem slice_ok {t:TypeId}{x:Operand}{lo hi:Option Operand}(ho:o.op=.slice t x lo hi none)(h:(z8Q P t x lo hi).f T H n=.ok v H' n'):OpS P o T H n v H' n':=by{have kb:∀(β:Bm) (ρ:Operand->Value),(∀y∈o.op.operands,VR β (ev T y) (ρ y))->VR β (ev T x) (ρ x)/\(∀y,lo=some y->VR β (ev T y) (ρ y))/\(∀y,hi=some y->VR β (ev T y) (ρ y)):=fun β ρ hx=>⟨hx x (by simp[ho,Op.operands]),fun y hy=>hx y (by subst hy;simp[ho,Op.operands]),fun y hy=>hx y (by subst hy;simp[ho,Op.operands])⟩;unfold z8Q at h;cases bM:x9Y (P.underlying t)with|true=>{rw[bM,cond_true]at h;have hu:=y4V bM;obtain⟨s,h1,h2⟩:=z2U (x:=ev T x) h;obtain⟨l,h',a1,a2,h3,h4⟩:=y8M (P:=P) h2;cases h3;refine OpS.same fun β w ρ hx _=>?_;obtain⟨o1,o2,o3⟩:=kb β ρ hx;have hs:=str_of (β:=β) (h1▸o1);refine⟨.string (s.extract l h'),?_,.string _⟩;have hb:=h4 β w ρ o2 o3 s.size (Nat.le_refl _) false;simp[execOp,ho,Instr.sliceAt,Instr.slice,x0M hu,hs,hb]}|false=>{rw[bM,cond_false]at h;split at h;·{rename_i p hp;obtain⟨sz,h1,h2⟩:=x1S h;obtain⟨a,h5,h6⟩:=x4M (x:=ev T x) h2;obtain⟨rfl,rfl,h7⟩:=v1Y (P:=P) h6;refine OpS.same fun β w ρ hx _=>?_;obtain⟨o1,o2,o3⟩:=kb β ρ hx;obtain⟨b,cD,hb,hρ⟩:=x8E (β:=β) (h5▸o1);obtain⟨l,h',c,r1,r2,r3⟩:=h7 β w ρ o2 o3 b cD hb false;refine⟨c,?_,r2⟩;subst r3;simp[execOp,ho,Instr.sliceAt,x0M (y8Z hp),hρ,Instr.sureAddr,r1,x2D h1]};·{rename_i hp;obtain⟨e,h1,h2⟩:=x1S h;obtain⟨sz,h3,h4⟩:=x1S h2;obtain⟨a,len,cap,h5,h6⟩:=z2V (x:=ev T x) h4;have hu:=x2Q h1;cases hc:Nat.beq cap unk with|true=>{rw[hc,cond_true]at h6;obtain⟨rfl,rfl,h7⟩:=slUnk_ok (P:=P) h6;refine OpS.same fun β w ρ hx _=>?_;obtain⟨o1,o2,o3⟩:=kb β ρ hx;obtain⟨b,k',cD,hb,hρ,hk⟩:=y4C (β:=β) (h5▸o1);have hk:len<=k'/\(a.off=0->b.2=k'):=by{rcases hk with⟨_,e2⟩|⟨_,e2,e3⟩;·{exact absurd (x0U hc) e2};·{exact⟨e2,e3⟩}};obtain⟨l,h',c,r1,r2,r3⟩:=h7 β w ρ o2 o3 b k' cD hb hk.1 hk.2 true;refine⟨c,?_,r2⟩;subst r3;simp[execOp,ho,Instr.sliceAt,Instr.slice,x0M hu,hρ,r1,x2D h3];split<;>rfl}|false=>{(rw[hc,cond_false]at h6;have ae:cap≠unk:=fun e=>by rw[x0T e]at hc;cases hc);obtain⟨rfl,rfl,h7⟩:=v1Y (P:=P) h6;refine OpS.same fun β w ρ hx _=>?_;obtain⟨o1,o2,o3⟩:=kb β ρ hx;obtain⟨b,k',cD,hb,hρ,hk⟩:=y4C (β:=β) (h5▸o1);have hk:cap=k':=by{rcases hk with⟨e1,_⟩|⟨e1,_⟩;·{exact e1};·{exact absurd e1 ae}};subst hk;obtain⟨l,h',c,r1,r2,r3⟩:=h7 β w ρ o2 o3 b cD hb true;refine⟨c,?_,r2⟩;subst r3;simp[execOp,ho,Instr.sliceAt,Instr.slice,x0M hu,hρ,r1,x2D h3];split<;>rfl}}}}
theorem x4T {t:TypeId}{x y:Value}{b:Bool}{w:World}(h:∀k,(Op.equalIn (k+1) t x y).run P w=.ok b w):(Op.equal t x y).run P w=.ok b w:=h 9999
theorem eqK_ptr {o:Option TypeDesc}(h:eqK o=.ptr):∃e,o=some (.pointer e):=by{unfold eqK at h;split at h<;>first|(cases h;done)|exact⟨_,rfl⟩}
theorem v6J {o:Option TypeDesc}(h:eqK o=.slice):∃e,o=some (.slice e):=by{unfold eqK at h;split at h<;>first|(cases h;done)|exact⟨_,rfl⟩}
theorem eqK_func {o:Option TypeDesc}(h:eqK o=.func):∃a b c,o=some (.func a b c):=by{unfold eqK at h;split at h<;>first|(cases h;done)|exact⟨_,_,_,rfl⟩}
theorem v6K {o:Option TypeDesc}(h:eqK o=.iface):∃a,o=some (.interface a):=by{unfold eqK at h;split at h<;>first|(cases h;done)|exact⟨_,rfl⟩}
theorem z6T {β:Bm}{x:Value}(h:VR β (.pointer none) x):x=.pointer none:=by cases h;rfl
theorem u5F {β:Bm}{l c:Nat}{x:Value}(h:VR β (.slice none l c) x):x=.slice none l c:=by cases h;rfl
theorem z0T {β:Bm}{x:Value}(h:VR β .nilFunc x):x=.nilFunc:=by cases h;rfl
theorem y6R {β:Bm}{x:Value}(h:VR β .nilIface x):x=.nilIface:=by cases h;rfl
theorem v5Z {β:Bm}{f:Fn}{a b:Array Value}{x:Value}(h:VR β (.func f a b) x):∃f' a' b',x=.func f' a' b':=by cases h<;>exact⟨_,_,_,rfl⟩
theorem u5Q {β:Bm}{t:TypeId}{v x:Value}(h:VR β (.iface t v) x):∃v',x=.iface t v':=by cases h;exact⟨_,rfl⟩
theorem v6G {t:TypeId}{xa ya X Y:Value}{β:Bm}{b:Bool}(h:eqOp (eqK (P.underlying t)) xa ya=some b)(hX:VR β xa X)(hY:VR β ya Y)(w:World):(Op.equal t X Y).run P w=.ok b w/\(∀op x y,(eqGuard op t x y X Y).run P w=.ok () w)/\binOp .eql t X Y=(do pure (.bool (<-Op.equal t X Y)))/\binOp .neq t X Y=(do pure (.bool (!(<-Op.equal t X Y)))):=by{cases hk:eqK (P.underlying t)<;>rw[hk]at h;(case other=>unfold eqOp at h;split at h<;>first|(cases h;done)|contradiction);(case ptr=>(obtain⟨e,hu⟩:=eqK_ptr hk;unfold eqOp at h;split at h<;>first|(cases h;done)|contradiction|skip);·{cases h;obtain⟨c,_,_,rfl⟩:=x8E hX;obtain rfl:=z6T hY;exact⟨x4T fun k=>by simp[Op.equalIn,x0M hu],fun op x y=>by simp[eqGuard],rfl,rfl⟩};·{cases h;obtain⟨c,_,_,rfl⟩:=x8E hY;obtain rfl:=z6T hX;exact⟨x4T fun k=>by simp[Op.equalIn,x0M hu],fun op x y=>by simp[eqGuard],rfl,rfl⟩});(case slice=>(obtain⟨e,hu⟩:=v6J hk;unfold eqOp at h;split at h<;>first|(cases h;done)|contradiction|skip);·{cases h;obtain⟨c,_,_,_,rfl,_⟩:=y4C hX;obtain rfl:=u5F hY;exact⟨x4T fun k=>by simp[Op.equalIn,x0M hu],fun op x y=>by simp[eqGuard],rfl,rfl⟩};·{cases h;obtain⟨c,_,_,_,rfl,_⟩:=y4C hY;obtain rfl:=u5F hX;exact⟨x4T fun k=>by simp[Op.equalIn,x0M hu],fun op x y=>by simp[eqGuard],rfl,rfl⟩});(case func=>(obtain⟨e1,e2,e3,hu⟩:=eqK_func hk;unfold eqOp at h;split at h<;>first|(cases h;done)|contradiction|skip);·{cases h;obtain⟨_,_,_,rfl⟩:=v5Z hX;obtain rfl:=z0T hY;exact⟨x4T fun k=>by simp[Op.equalIn,x0M hu],fun op x y=>by simp[eqGuard],rfl,rfl⟩};·{cases h;obtain⟨_,_,_,rfl⟩:=v5Z hY;obtain rfl:=z0T hX;exact⟨x4T fun k=>by simp[Op.equalIn,x0M hu],fun op x y=>by simp[eqGuard],rfl,rfl⟩});case iface=>(obtain⟨e,hu⟩:=v6K hk;unfold eqOp at h;split at h<;>first|(cases h;done)|contradiction|skip);·{cases h;obtain⟨_,rfl⟩:=u5Q hX;obtain rfl:=y6R hY;exact⟨x4T fun k=>by simp[Op.equalIn,x0M hu],fun op x y=>by simp[eqGuard],rfl,rfl⟩};·{cases h;obtain⟨_,rfl⟩:=u5Q hY;obtain rfl:=y6R hX;exact⟨x4T fun k=>by simp[Op.equalIn,x0M hu],fun op x y=>by simp[eqGuard],rfl,rfl⟩}}
theorem evEq_ok {t yt:TypeId}{op:BinOp}{x y:Operand}(ho:o.op=.binOp op t x y yt)(h:evEq P t op (ev T x) (ev T y) H n=.ok v H' n'):OpS P o T H n v H' n':=by{unfold evEq at h;obtain⟨b,h1,h2⟩:=x1M h;split at h2;·{cases h2;refine OpS.same fun β w ρ hx _=>?_;obtain⟨r1,r2,r3,_⟩:=v6G (P:=P) h1 (hx x (by simp[ho,Op.operands])) (hx y (by simp[ho,Op.operands])) w;exact⟨.bool b,by simp[execOp,ho,r2,r3,r1],.bool b⟩};·{cases h2;refine OpS.same fun β w ρ hx _=>?_;obtain⟨r1,r2,_,r3⟩:=v6G (P:=P) h1 (hx x (by simp[ho,Op.operands])) (hx y (by simp[ho,Op.operands])) w;exact⟨.bool (!b),by simp[execOp,ho,r2,r3,r1],.bool _⟩};·{cases h2}}
theorem x3G {t yt:TypeId}{op:BinOp}{x y:Operand}(ho:o.op=.binOp op t x y yt)(h:x4S P T H n o op t (ev T x) (ev T y)=.ok v H' n'):OpS P o T H n v H' n':=by{unfold x4S at h;cases hp:(cond (plain (ev T x)) (plain (ev T y)) false)with|true=>{rw[hp,cond_true]at h;obtain⟨p1,p2⟩:=x0D hp;refine x4G h (by rw[ho];simp) fun z hz=>?_;simp[ho,Op.operands]at hz;rcases hz with rfl|rfl<;>assumption}|false=>{rw[hp,cond_false]at h;exact evEq_ok ho h}}
theorem x3X {x y:Value}{f:Int->Int->OR}{els:OR}(h:x3Y x y f els=.ok v H' n'):(∃a b,x=.int .i64 a/\y=.int .i64 b/\f a b=.ok v H' n')\/els=.ok v H' n':=by{unfold x3Y at h;split at h;·{exact .inl ⟨_,_,rfl,rfl,h⟩};·{exact .inr h}}
theorem y7Q {m:Int}{els:OR}(h:y7R m H n els=.ok v H' n'):(v=.int .i64 m/\IntKind.i64.wrap m=m/\H'=H/\n'=n)\/els=.ok v H' n':=by{unfold y7R at h;split at h;·{rename_i m;cases hb:Nat.ble m 9223372036854775807 with|true=>{rw[hb,cond_true]at h;cases h;have:=x1H hb;exact .inl ⟨rfl,IntWalk.i64_in _ (by simp;omega),rfl,rfl⟩}|false=>{rw[hb,cond_false]at h;exact .inr h}};·{rename_i m;cases hb:Nat.ble m 9223372036854775807 with|true=>{rw[hb,cond_true]at h;cases h;have:=x1H hb;exact .inl ⟨rfl,IntWalk.i64_in _ (by omega),rfl,rfl⟩}|false=>{rw[hb,cond_false]at h;exact .inr h}}}
theorem x7V {t yt:TypeId}{op:BinOp}{x y:Operand}(ho:o.op=.binOp op t x y yt){a b:Int}(hx:ev T x=.int .i64 a)(hy:ev T y=.int .i64 b){u:Value}(hu:plain u=true) (hr:∀w:World,(binOp op t (.int .i64 a) (.int .i64 b)).run P w=.ok u w):OpS P o T H n u H n:=by{refine OpS.same fun β w ρ hρ _=>⟨u,?_,x5N hu⟩;have e1:=int_of (β:=β) (hx▸hρ x (by simp[ho,Op.operands]));have e2:=int_of (β:=β) (hy▸hρ y (by simp[ho,Op.operands]));have hg:(eqGuard op t x y (.int .i64 a) (.int .i64 b)).run P w=.ok () w:=by{unfold eqGuard;split<;>simp};simp[execOp,ho,e1,e2,hg,hr w]}
theorem binOp_ok {t yt:TypeId}{op:BinOp}{x y:Operand}(ho:o.op=.binOp op t x y yt)(h:(y3Z P o t x y op).f T H n=.ok v H' n'):OpS P o T H n v H' n':=by{unfold y3Z at h;split at h;·{rcases x3X h with⟨a,b,hx,hy,h1⟩|h1;·{rcases y7Q h1 with⟨rfl,h2,rfl,rfl⟩|h2;·{exact x7V ho hx hy rfl fun w=>by simp[binOp,Op.intArith,h2]};·{exact x3G ho h2}};·{exact x3G ho h1}};·{rcases x3X h with⟨a,b,hx,hy,h1⟩|h1;·{rcases y7Q h1 with⟨rfl,h2,rfl,rfl⟩|h2;·{exact x7V ho hx hy rfl fun w=>by simp[binOp,Op.intArith,h2]};·{exact x3G ho h2}};·{exact x3G ho h1}};·{rcases x3X h with⟨a,b,hx,hy,h1⟩|h1;·{rcases y7Q h1 with⟨rfl,h2,rfl,rfl⟩|h2;·{exact x7V ho hx hy rfl fun w=>by simp[binOp,Op.intArith,h2]};·{exact x3G ho h2}};·{exact x3G ho h1}};·{rcases x3X h with⟨a,b,hx,hy,h1⟩|h1;·{cases h1;exact x7V ho hx hy rfl fun w=>by simp[binOp,Op.intCmp]};·{exact x3G ho h1}};·{rcases x3X h with⟨a,b,hx,hy,h1⟩|h1;·{cases h1;exact x7V ho hx hy rfl fun w=>by simp[binOp,Op.intCmp]};·{exact x3G ho h1}};·{rcases x3X h with⟨a,b,hx,hy,h1⟩|h1;·{cases h1;exact x7V ho hx hy rfl fun w=>by simp[binOp,Op.intCmp]};·{exact x3G ho h1}};·{rcases x3X h with⟨a,b,hx,hy,h1⟩|h1;·{cases h1;exact x7V ho hx hy rfl fun w=>by simp[binOp,Op.intCmp]};·{exact x3G ho h1}};·{rcases x3X h with⟨a,b,hx,hy,h1⟩|h1;·{cases h1;exact x7V ho hx hy rfl fun w=>by simp[binOp,Op.intCmp]};·{exact x3G ho h1}};·{rcases x3X h with⟨a,b,hx,hy,h1⟩|h1;·{cases h1;exact x7V ho hx hy rfl fun w=>by simp[binOp,Op.intCmp]};·{exact x3G ho h1}};·{exact x3G ho h}}
theorem z4B (x:Value)(l:List Value):x5G (x::l)=(match x with|.int .u8 n=>(x5G l).map fun r=>UInt8.ofNat n.toNat::r|_=>none):=rfl
theorem y8J {β:Bm}:∀{l m:List Value} {bs:List UInt8},x5G l=some bs->VL β l m->∃ns:List Int,m=ns.map (Value.int .u8)/\bs=ns.map fun n=>UInt8.ofNat n.toNat|_,_,bs,h,.nil=>by cases h;exact⟨[],rfl,rfl⟩|x::l,y::m,bs,h,.cons a b=>by{rw[z4B]at h;split at h;·{rename_i k;cases h1:x5G l with|none=>{rw[h1]at h;cases h}|some r=>{rw[h1]at h;cases h;obtain⟨ns,e1,e2⟩:=y8J h1 b;exact⟨k::ns,by rw[int_of a,e1];rfl,by rw[e2];rfl⟩}};·{cases h}}
theorem z1B:∀(ns:List Int) (s:ByteArray),(ns.foldl (fun r n=>r.push (UInt8.ofNat n.toNat)) s).data=s.data++(ns.map fun n=>UInt8.ofNat n.toNat).toArray|[],s=>by simp|n::ns,s=>by{rw[List.foldl_cons,z1B ns];simp[ByteArray.push]}
theorem v5L {o:Option TypeDesc}(h:isU8 o=true):o=some (.int .u8):=by{unfold isU8 at h;split at h;·{rfl};·{cases h}}
theorem v0D {s d:TypeId}{x:Operand}(ho:o.op=.convert s d x)(h:(x4N P o s d x).f T H n=.ok v H' n'):OpS P o T H n v H' n':=by{have pl:∀{v:Value} {H':Hp} {n':Nat},chk (plain (ev T x)) (x0X P T H n o)=.ok v H' n'->OpS P o T H n v H' n':=fun h=>by{obtain⟨h1,h2⟩:=x3A h;exact x4G h2 (by rw[ho];simp) fun z hz=>by simp[ho,Op.operands]at hz;subst hz;exact h1};unfold x4N at h;cases hs:x9Y (P.underlying d)with|false=>{rw[hs,cond_false]at h;split at h;·{rename_i e he;exact u7Q ho (x2Q he) h};·{exact pl h}}|true=>{rw[hs,cond_true]at h;split at h;·{rename_i e he;obtain⟨h1,h2⟩:=x4Z h;have h2:v3C (ev T x) _ _=.ok v H' n':=h2;unfold v3C at h2;split at h2;·{rename_i a len cp fm;obtain⟨p,h3,h4⟩:=x1M h2;obtain⟨r,h5,h6⟩:=x1M h4;obtain⟨bs,h7,h8⟩:=x1M h6;cases h8;refine OpS.same fun β w ρ hx hW=>?_;obtain⟨b,k',cD,hb,hρ,_⟩:=y4C (β:=β) (fm▸hx x (by simp[ho,Op.operands]));obtain⟨c,l',rest,fz,e1,e2,e3,_,_⟩:=hW.cells h3 hb;obtain⟨r',q1,q2,q3⟩:=part_at e2 e3 h5;obtain⟨ns,rfl,rfl⟩:=y8J h7 q1;have bD:=run_bytesToString (P:=P) w ⟨b.1,a.off,none⟩ len k' ns (x7A e1 a.off _ len q2 q3);refine⟨_,?_,.string _⟩;simp only[execOp,ho,hρ,Sem.run_bind,run_convert_bytes_string w s d e _ _ _ (x2Q he) (v5L h1) (y4V hs),bD,Result.andThen_ok,Sem.run_pure];congr 3;apply ByteArray.ext;have e0:ByteArray.empty.data=#[]:=rfl;rw[z1B,e0];simp};·{exact pl h2}};·{exact pl h}}}
theorem u3A:∀{l:List Operand},allX T l=true->∀x∈l,plain (ev T x)=true|[],_,_,hx=>by cases hx|y::l,h,x,hx=>by{have h':cond (plain (ev T y)) (allX T l) false=true:=h;obtain⟨h1,h2⟩:=x0D h';rcases List.mem_cons.1 hx with rfl|hx;·{exact h1};·{exact u3A h2 x hx}}
theorem len_ok {args:Array Operand}{ts:Array TypeId}{t:TypeId}{x:Operand}(ho:o.op=.call {callee:=.builtin .len,args,argTypes:=ts})(ha:args.toList=[x])(ht:ts.toList=[t]) (h:(cLen P o t x).f T H n=.ok v H' n'):OpS P o T H n v H' n':=by{obtain rfl:args=#[x]:=Array.ext' ha;obtain rfl:ts=#[t]:=Array.ext' ht;unfold cLen at h;split at h;·{rename_i e he;have h:(match ev T x with|.slice _ k _=>OR.ok (.int .i64 k) H n|_=>.bad)=.ok v H' n':=h;split at h;·{rename_i a k c fm;cases h;refine OpS.same fun β w ρ hx _=>⟨.int .i64 k,?_,.int _ _⟩;have hr:=hx x (by simp[ho,Op.operands,Call.operands]);rw[fm]at hr;have:∃a' c',ρ x=.slice a' k c':=by{generalize ρ x=y at hr;cases hr<;>exact⟨_,_,rfl⟩};obtain⟨a',c',hρ⟩:=this;simp[execOp,ho,resolve,invoke,builtin,Builtin.len_,hρ,x0M (x2Q he),goInt]};·{cases h}};·{obtain⟨h1,h2⟩:=x3A (b:=plain (ev T x)) (x:=x0X P T H n o) h;exact x4G h2 (by rw[ho];simp) fun z hz=>by simp[ho,Op.operands,Call.operands]at hz;subst hz;exact h1}}
theorem v0L {b:Builtin}{args:Array Operand}{ts:Array TypeId}(ho:o.op=.call {callee:=.builtin b,args,argTypes:=ts})(h:(x7Z P o args.toList ts.toList b).f T H n=.ok v H' n'):OpS P o T H n v H' n':=by{unfold x7Z at h;split at h;·{split at h;·{rename_i x t ha ht;exact len_ok ho ha ht h};·{cases h}};·{split at h;·{rename_i s x st xt ha ht;exact v7T ⟨args,ts,ho,ha,ht⟩ h};·{cases h}};·{obtain⟨h1,h2⟩:=x3A (b:=allX T args.toList) (x:=x0X P T H n o) h;exact x4G h2 (by rw[ho];simp) fun z hz=>u3A h1 z (by simpa[ho,Op.operands,Call.operands]using hz)};·{obtain⟨h1,h2⟩:=x3A (b:=allX T args.toList) (x:=x0X P T H n o) h;exact x4G h2 (by rw[ho];simp) fun z hz=>u3A h1 z (by simpa[ho,Op.operands,Call.operands]using hz)};·{cases h}}
theorem range_ok {t:TypeId}{x:Operand}(ho:o.op=.range t x)(h:(u6U P t x).f T H n=.ok v H' n'):OpS P o T H n v H' n':=by{obtain⟨h1,h2⟩:=x4Z h;obtain⟨s,h3,h4⟩:=z2U h2;cases h4;refine⟨Nat.le_succ n,fun i hi h0=>by rw[x0E,if_neg (by omega)];exact h0,fun β w ρ hx hW hf=>?_⟩;have hn:=hf n (Nat.le_refl _) (Nat.lt_succ_self n);have hρ:ρ x=.string s:=str_of (β:=β) (h3▸hx x (by simp[ho,Op.operands]));refine⟨.value (.pointer (some ⟨w.heap.size,0,none⟩)),_,_,_,?_,rfl,.ptr _ _ (w.heap.size,0) (x1J _ _ _),Ext.new hW hn (.iter s 0)⟩;simp[execOp,ho,hρ,Instr.range,x0M (y4V h1)]}
theorem v5G {o:Option AObj}{p:ByteArray×Nat}(h:u5P o=some p):o=some (.iter p.1 p.2):=by{unfold u5P at h;split at h;·{cases h;rfl};·{cases h}}
theorem y6A {w:World}{r:Nat}{s:ByteArray}{p:Nat}(hb:w.heap[r]? =some (.stringIter s p)):(getObj r).run P w=.ok (.stringIter s p) w:=by simp[getObj,Sem.run,hb]
theorem z9X {w:World}{r:Nat}{s:ByteArray}{p:Nat}(o:Obj)(hb:w.heap[r]? =some (.stringIter s p)):(setObj r o).run P w=.ok () {w with heap:=w.heap.setIfInBounds r o}:=by simp[setObj,Sem.run,hb]
theorem next_ok {it:Operand}(ho:o.op=.next it true)(h:(cNext it).f T H n=.ok v H' n'):OpS P o T H n v H' n':=by{obtain⟨a,h1,h2⟩:=x4M (x:=ev T it) h;obtain⟨h3,h4⟩:=x3A h2;obtain⟨p,h5,h6⟩:=x1M h4;have hg:=v5G h5;have h3:=x0U h3;unfold v3N at h6;cases hb:Nat.ble (Nat.succ p.2) p.1.size with|true=>{rw[hb,cond_true]at h6;cases h6;have ai:p.2<p.1.size:=x1H hb;refine⟨Nat.le_refl _,fun i _ h0=>?_,fun β w ρ hx hW _=>?_⟩;·{rw[x0E];split;·{rename_i e;subst e;rw[hg]at h0;cases h0};·{exact h0}};·{obtain⟨b,cD,bR,hρ⟩:=x8E (β:=β) (h1▸hx it (by simp[ho,Op.operands]));obtain⟨q,e1,e2⟩:=hW.at hg bR;cases e2;refine⟨.value (.tuple #[.bool true,.int .i64 p.2,.int .i32 (Utf8.decode p.1 p.2).1]),_,{w with heap:=w.heap.setIfInBounds b.1 (.stringIter p.1 (p.2+(Utf8.decode p.1 p.2).2))},β,?_,rfl,x5N rfl,?_⟩;·{simp[execOp,ho,hρ,h3,Instr.next,y6A e1,z9X _ e1,ai,goInt]};·{have aW:b.1<w.heap.size:=(Array.getElem?_eq_some_iff.1 e1).1;refine Ext.turn hW hg bR (by simp) (by simp) (by simp) (q:=.stringIter p.1 (p.2+(Utf8.decode p.1 p.2).2)) (by simp[aW]) (fun c hc=>Array.getElem?_setIfInBounds_ne (fun e=>hc e.symm)) (.iter _ _) rfl rfl rfl}}}|false=>{(rw[hb,cond_false]at h6;cases h6;have ai:¬p.2<p.1.size:=fun hl=>by rw[Nat.ble_eq_true_of_le hl]at hb;cases hb);refine OpS.same fun β w ρ hx hW=>?_;obtain⟨b,cD,bR,hρ⟩:=x8E (β:=β) (h1▸hx it (by simp[ho,Op.operands]));obtain⟨q,e1,e2⟩:=hW.at hg bR;cases e2;exact⟨.tuple #[.bool false],by simp[execOp,ho,hρ,h3,Instr.next,y6A e1,ai],x5N rfl⟩}}
theorem op_sound (h:(x0N P o).f T H n=.ok v H' n'):OpS P o T H n v H' n':=by{unfold x0N at h;split at h;·{rename_i x ho;cases h;exact move_ok ho};·{rename_i x ho;cases h;exact v7R ho};·{rename_i ho;exact pick_ok ho h};·{rename_i ho;exact alloc_ok ho h};·{rename_i ho;cases h;exact box_ok ho};·{rename_i ho;exact build_ok ho h};·{rename_i ho;exact z4D ho h};·{rename_i ho;exact load_ok ho h};·{rename_i ho;exact store_ok ho h};·{rename_i ho;exact u0Q ho h};·{rename_i ho;exact makeI_ok ho h};·{rename_i ho;cases h;exact u0W ho};·{rename_i ho;exact z6Y ho h};·{rename_i ho;exact slice_ok ho h};·{rename_i ho;exact z7M ho h};·{rename_i ho;exact field_ok ho h};·{rename_i ho;exact z7D ho h};·{rename_i ho;exact u8S ho h};·{rename_i ho;exact v0L ho h};·{rename_i ho;exact v0D ho h};·{rename_i ho;exact binOp_ok ho h};·{rename_i x ho;obtain⟨h1,h2⟩:=x3A (b:=plain (ev T x)) (x:=x0X P T H n o) h;exact x4G h2 (by rw[ho];simp) fun z hz=>by simp[ho,Op.operands]at hz;subst hz;exact h1};·{rename_i t x i ho;obtain⟨h1,h2⟩:=x3A (b:=cond (plain (ev T x)) (plain (ev T i)) false) (x:=x0X P T H n o) h;obtain⟨p1,p2⟩:=x0D h1;exact x4G h2 (by rw[ho];simp) fun z hz=>by simp[ho,Op.operands]at hz;rcases hz with rfl|rfl<;>assumption};·{rename_i ho;exact range_ok ho h};·{rename_i ho;exact next_ok ho h};·{cases h}}
end
end Go.Xec
