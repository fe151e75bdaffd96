/-
  mapped of the layout, walked.
-/
import Derived.Test.YtadehgdfijjikaaGreatDoorS6
set_option linter.all false
set_option maxRecDepth 100000
namespace Go.Proofs
open Go.RowKit Go.Yec Go.Shp Go.Deep
open Go.Xec (Glob)
set_option maxHeartbeats 8000000 in
theorem map_leaf (D:List (Int×Int))(P:List Sh)(t:Ty)(g:Bool)(W w:World)(dv pv:Value)(hG:Glob W)(hs:ShAt W dv pv (.node D P t g))(hB:Below W.heap.size W w)(bA:t.pic.data.toList.length <= 200)(am:P.length <= 100)(hd:x4C D=true)(h3:D.length <= 3)(ht:P=[]->tyB t=true)
    (cK:∀ s∈P, ∀ w dv pv,ShAt W dv pv s->Below W.heap.size W w->Calls Tryz.prog 149 #[shV dv pv s.t s.g] w fun e w'=>MpOk W s w w' e (mpS s)/\Below w.heap.size w w')
    (bS:∀ s∈P, ∀ n,mpS s=some n->x2S n.u) (ml:Hid (P=[])) :
    Calls Tryz.prog 149 #[shV dv pv t g] w fun e w'=>MpOk W (.node D P t g) w w' e (mpS (.node D P t g))/\Below w.heap.size w w':=by
  unfold ShAt at hs;obtain ⟨hD,pa,pcap,rfl,bF,ba⟩:=hs;obtain ⟨da,dcap,rfl,co,cI⟩:=id hD;obtain ⟨k,p,q,v,pic⟩:=t;simp only at bA;have cn:=fun e a ns he=>y5A (t:=⟨k,p,q,v,pic⟩) (g:=g) (e:=e) (a:=a) (ns:=ns) bS ht he;have cZ:=fun h=>z7A (g:=g) (ht h);have jm:=run_make_row' (P:=Tryz.prog) 32 3 (.int .i64 0) 8 Tryz.underlying32 v5R rfl .i64 .i64 D.length (by omega) (by omega)
  generalize hE:mpS (.node D P ⟨k,p,q,v,pic⟩ g)=E;have kw:Hid (mpS (.node D P ⟨k,p,q,v,pic⟩ g)=E):=hE;clear hE;go_enter Tryz.func149,Tryz.ntmps149;go_wp2
  go_region
  go_upto_if 22 with fail
  generalize bx:(((w.alloc (.cells #[.slice da D.length dcap, .slice pa P.length pcap, .int .i64 k, .int .i64 p, .int .i64 q, .bool v, .string pic, .bool g] 27)).alloc (.cells (madeCells #[.int .i64 0] D.length) 3)).alloc (.cells #[.slice da D.length dcap, .slice pa P.length pcap, .int .i64 k, .int .i64 p, .int .i64 q, .bool v, .string pic, .bool g, .int .i64 0, .int .i64 0, .int .i64 0, .int .i64 0, .int .i64 0, .int .i64 0, .slice (some ⟨w.heap.size+1, 0,none⟩) D.length D.length, .slice none 0 0, .slice none 0 0] 133)).drew=w1;have cg:w1.heap.size=w.heap.size+3:=by rw [<- bx];simp [World.drew]
  have au:Below w.heap.size w w1:=by
    rw [<- bx];exact ((((Below.refl _ w).alloc (Nat.le_refl _) _).alloc (by simp) _).alloc (by simp;omega) _).drew
  have bX:ShBox w1 w.heap.size (.slice da D.length dcap) (.slice pa P.length pcap) ⟨k,p,q,v,pic⟩ g:=by
    rw [<- bx];exact (((ShBox.here w _ _ _ _).alloc _).alloc _).below (Below.refl _ _).drew
  have gV:w1.rowIs (w.heap.size+1) 3 D.length (stC D.length []):=by
    rw [<- bx]
    have:=(World.rowIs_made (w.alloc (.cells #[.slice da D.length dcap, .slice pa P.length pcap, .int .i64 k, .int .i64 p, .int .i64 q, .bool v, .string pic, .bool g] 27)) (.int .i64 0) D.length 3).alloc (.cells #[.slice da D.length dcap, .slice pa P.length pcap, .int .i64 k, .int .i64 p, .int .i64 q, .bool v, .string pic, .bool g, .int .i64 0, .int .i64 0, .int .i64 0, .int .i64 0, .int .i64 0, .int .i64 0, .slice (some ⟨w.heap.size+1, 0,none⟩) D.length D.length, .slice none 0 0, .slice none 0 0] 133)
    simp only [World.size_alloc] at this;exact (this.congr fun i hi=>by unfold stC;rw [if_pos hi])
  have cY:NB w1 (w.heap.size+1+1) (ndC (.slice da D.length dcap) (.slice pa P.length pcap) ⟨k,p,q,v,pic⟩ g ⟨0, 0, 0⟩ ⟨0, 0, 0⟩ (.slice (some ⟨w.heap.size+1, 0,none⟩) D.length D.length) (.slice none 0 0) (.slice none 0 0)) 133:=by
    rw [<- bx]
    have:=NB.here ((w.alloc (.cells #[.slice da D.length dcap, .slice pa P.length pcap, .int .i64 k, .int .i64 p, .int .i64 q, .bool v, .string pic, .bool g] 27)).alloc (.cells (madeCells #[.int .i64 0] D.length) 3)) (ndC (.slice da D.length dcap) (.slice pa P.length pcap) ⟨k,p,q,v,pic⟩ g ⟨0, 0, 0⟩ ⟨0, 0, 0⟩ (.slice (some ⟨w.heap.size+1, 0,none⟩) D.length D.length) (.slice none 0 0) (.slice none 0 0)) 133
    simp only [World.size_alloc] at this;exact this.drew
  clear bx jm;have jB:=x1C (hB.trans (au.mono hB.size)) hG
  go_cut [] (fun wc=> ∃ e0:Un,NB wc (w.heap.size+1+1) (ndC (.slice da D.length dcap) (.slice pa P.length pcap) ⟨k,p,q,v,pic⟩ g ⟨0, 0, 0⟩ e0 (.slice (some ⟨w.heap.size+1, 0,none⟩) D.length D.length) (.slice none 0 0) (.slice none 0 0)) 133/\(P=[]->e0=y4E ⟨k,p,q,v,pic⟩ g)/\Below (w.heap.size+1+1) w1 wc)
  case first =>
    have hP:=ml.out;clear ml;subst hP;have lq:y4E ⟨k,p,q,v,pic⟩ g=⟨0,szS k p q v pic.data.toList,cond (decide (k=4)&&!g) 8 (alS k p q v pic.data.toList)⟩:=rfl;have ql:=fun w hg=>c19 (k:=k) (p:=p) (q:=q) (v:=v) bA w hg;have qk:=fun w hg=>c21 (k:=k) (p:=p) (q:=q) (v:=v) bA w hg;generalize szS k p q v pic.data.toList=sz at lq ql;generalize alS k p q v pic.data.toList=al0 at lq qk;have fe:Hid (y4E ⟨k,p,q,v,pic⟩ g=⟨0,sz,cond (decide (k=4)&&!g) 8 al0⟩):=lq;have lw:((([]:List Sh).length:Int)==0)=true:=rfl;have iO:Below w1.heap.size w1 w1.drew:=(Below.refl _ _).drew;obtain ⟨l0,c0,c1,c2,c3,c4,c5,c6,c7⟩:=id bX;obtain ⟨m0,m1,m2,m3,m4,m5,m6,m7,m8,mf⟩:=x1Y cY;clear lq cK bS cn cZ bF ba co cI kw;go_wp2
    go_region_with (first
      | (go_at_call 53;refine (ql w1.drew (x1C iO jB)).mono ?_;rintro e w2 ⟨rfl,bq⟩;have aO:Below w1.heap.size w1 w2:=iO.trans bq;have dM:=aO.size;obtain ⟨l2,d0,d1,d2,d3,d4,d5,d6,d7⟩:=bX.below aO)
      | (go_at_call 26;refine (qk w2 (x1C aO jB)).mono ?_;rintro e w3 ⟨rfl,dp⟩;have cb:Below w1.heap.size w1 w3:=aO.trans (dp.mono dM);have lX:=cb.size;obtain ⟨l3,k0,k1,k2,k3,k4,k5,k6,k7⟩:=bX.below cb;have gw:=cY.below cb;obtain ⟨j0,j1,j2,j3,j4,j5,j6,j7,j8,jf⟩:=x1Y gw))
    all_goals
      have fS:=nd_el gw ⟨0,sz,al0⟩;have fk:Below (w.heap.size+1+1) w1 (((w3.setCell ⟨w.heap.size+1+1, 11,none⟩ (.int .i64 0)).setCell ⟨w.heap.size+1+1, 12,none⟩ (.int .i64 sz)).setCell ⟨w.heap.size+1+1, 13,none⟩ (.int .i64 al0)):=x7K (cb.mono (by omega)) (Nat.le_refl _)
      have gl:=bX.keep fk (by omega)
      generalize gn:((w3.setCell ⟨w.heap.size+1+1, 11,none⟩ (.int .i64 0)).setCell ⟨w.heap.size+1+1, 12,none⟩ (.int .i64 sz)).setCell ⟨w.heap.size+1+1, 13,none⟩ (.int .i64 al0)=w4 at *;clear gn j0 j1 j2 j3 j4 j5 j6 j7 j8 jf k0 k1 k2 k3 k4 k5 k6 k7 l3 d0 d1 d2 d3 d4 d5 d6 d7 l2 c0 c1 c2 c3 c4 c5 c6 c7 l0 m0 m1 m2 m3 m4 m5 m6 m7 m8 mf bq dp;obtain ⟨l0,c0,c1,c2,c3,c4,c5,c6,c7⟩:=gl;obtain ⟨m0,m1,m2,m3,m4,m5,m6,m7,m8,mf⟩:=x1Y fS
      by_cases hk:k=4
      . subst hk;cases g
        . go_wp2_with fail
          go_meet
          case rel=>exact ⟨⟨0,sz, 8⟩,nd_al fS 8,fun _=>fe.out.symm,x4L fk (Nat.le_refl _)⟩
        . go_wp2_with fail
          go_meet
          case rel=>exact ⟨⟨0,sz,al0⟩,fS,fun _=>fe.out.symm,fk⟩
      . go_wp2_with fail
        go_meet
        case rel=>exact ⟨⟨0,sz,al0⟩,fS,fun _=>by rw [fe.out,decide_eq_false hk];rfl,fk⟩
  case rest =>
    obtain ⟨e0,hn,oL,cV⟩:=hcut;have mO:=bX.keep cV (by omega)
    obtain ⟨l0,c0,c1,c2,c3,c4,c5,c6,c7⟩:=id mO;generalize hR:elL P ⟨k,p,q,v,pic⟩ g=R at cn;have cM:Hid (elL P ⟨k,p,q,v,pic⟩ g=R):=hR;have iy:Hid (P=[]->e0=y4E ⟨k,p,q,v,pic⟩ g):=oL;obtain ⟨i1,cy,ce,aK,bW⟩:=x6T v5R;obtain ⟨i2,oB,pJ,aW,jH⟩:=x6T info128;clear hR oL cZ;go_wp2
    go_loopw [49] (fun vx wr=> ∃ (x:Int) (e:Un) (av pv:Value) (na np:Nat) (xa xp:List Value) (at0:List Int) (ns:List Nd) (Bs:List Nat) (S:Nat->Prop),vx = .int .i64 x/\0 <= x/\x <= P.length/\NB wr (w.heap.size+1+1) (ndC (.slice da D.length dcap) (.slice pa P.length pcap) ⟨k,p,q,v,pic⟩ g ⟨0, 0, 0⟩ e (.slice (some ⟨w.heap.size+1, 0,none⟩) D.length D.length) av pv) 133 /\
      wr.ownsRow (w.heap.size+3) 3 1 av na xa/\na <= x.toNat/\wr.ownsRow (w.heap.size+3) 128 1 pv np xp/\np <= x.toNat/\(P=[]->e=y4E ⟨k,p,q,v,pic⟩ g)/\Hid ((x=0/\at0=[]/\ns=[])\/(0<x/\x2S e/\goL (P.drop x.toNat) e at0 ns=R))/\MpI S W w wr av pv P xa xp at0 ns Bs x.toNat/\Below (w.heap.size+1+1) w1 wr) (fun vx _=>(P.length-intOf vx).toNat)
    case atStart=>exact ⟨0,e0,_,_, 0, 0,[],[],[],[],[],fun _=>False,rfl,by omega,by omega,hn,World.ownsRow_nil _ _ _ _,by omega,World.ownsRow_nil _ _ _ _,by omega,iy.out,(show Hid _ from .inl ⟨rfl,rfl,rfl⟩),⟨rfl,rfl,rfl,fun _ h=>h.elim,PtsAt.nil _ _ _⟩,cV⟩
    case round =>
      clear c0 c1 c2 c3 c4 c5 c6 c7 l0 iy hn cV mO;obtain ⟨x,e,av,pv,na,np,xa,xp,at1,ns1,Bs1,S1,rfl,x0,x1,hn,ep,rv,bY,rj,iw,bQ,aS,aD⟩:=hrel;have cA:=bX.keep aD (by omega)
      have ak:Below w.heap.size w wr:=au.trans (aD.mono (by omega))
      have aL:Below W.heap.size W wr:=hB.trans (ak.mono hB.size);have bD:=aD.size;have cU:Hid (P=[]->e=y4E ⟨k,p,q,v,pic⟩ g):=iw;clear iw
      by_cases ai:x<(P.length:Int)
      . exact absurd ai (by rw [ml.out];simp;omega)
      . have dy:x=P.length:=by omega
        subst dy;obtain rfl:R=some (e,at1,ns1):=by
          rcases bQ.out with ⟨h0,h1,h2⟩ | ⟨-, -, dh⟩
          . have o7:P=[]:=List.eq_nil_of_length_eq_zero (by omega)
            have h3:=cM.out;rw [o7,elL] at h3;rw [cU.out o7,h1,h2];exact h3.symm
          . rw [show ((P.length:Int)).toNat=P.length by omega,List.drop_length,goL] at dh
            exact dh.symm
        have bZ:=cn e at1 ns1 rfl;have ip:=KeepS.refl (fun b=>b<wr.heap.size/\b≠w.heap.size+1+1/\b≠w.heap.size+1) wr;have ik:=fun wf l u0 e0 fB df dB hl pm=>mp_fin (l:=l) (wf:=wf) (u:=u0) (e:=e0) (t:=⟨k,p,q,v,pic⟩) (g:=g) (pa:=pa) (pcap:=pcap) aS (by omega) hB.size pm hD ep bY (by omega) fB df dB hl
        obtain ⟨es,eb,ea⟩:=e;have gi:=x3L bZ.1;have bB:=bZ.2.2.2;simp only at gi bB;have tB:=z5K (n:=eb) gi.1;have mp:E=(Shp.stR D.reverse (str0 ⟨es,eb,ea⟩) eb []).map fun y=> .mk ⟨es,y.1,ea⟩ ⟨es,eb,ea⟩ y.2 at1 ns1:=by
          rw [<- kw.out,mpS,cM.out];rfl
        generalize hS:Shp.stR D.reverse (str0 ⟨es,eb,ea⟩) eb []=S at mp;have fl:Hid (Shp.stR D.reverse (str0 ⟨es,eb,ea⟩) eb []=S):=hS;have dR:Hid (E=S.map fun y=> .mk ⟨es,y.1,ea⟩ ⟨es,eb,ea⟩ y.2 at1 ns1):=mp;have bP:wr.rowIs (w.heap.size+1) 3 D.length (stC D.length []):=gV.of_block (aD.block _ (by omega))
        have ic:=hn.lt;obtain ⟨aa,acap,rfl⟩:=y6L ep;obtain ⟨pp,pcp,rfl⟩:=y6L bY;have lh:=ik;clear hS mp kw cM cn bQ cU cK bS bF ba ep bY rj rv gV cY co cI aS ik cy ce aK bW oB pJ aW jH;obtain ⟨m0,m1,m2,m3,m4,m5,m6,m7,m8,mf⟩:=x1Y hn;obtain ⟨l0,c0,c1,c2,c3,c4,c5,c6,c7⟩:=id cA;simp only at m3 m4 m5;have oR:¬ 524288<eb:=by omega
        go_upto_region 25 with fail
        have fR:=nd_un hn ⟨es,eb,ea⟩;have dt:=x7K (i:= 8) (j:= 9) (l:= 10) (y0:= .int .i64 es) (y1:= .int .i64 eb) (y2:= .int .i64 ea) aD (Nat.le_refl _);have gA:=((ip.set (p:=⟨w.heap.size+1+1, 8,none⟩) (fun h=>h.2.1 rfl) (.int .i64 es)).set (p:=⟨w.heap.size+1+1, 9,none⟩) (fun h=>h.2.1 rfl) (.int .i64 eb)).set (p:=⟨w.heap.size+1+1, 10,none⟩) (fun h=>h.2.1 rfl) (.int .i64 ea);simp only at fR dt gA;have dZ:((((wr.setCell ⟨w.heap.size+1+1, 8,none⟩ (.int .i64 es)).setCell ⟨w.heap.size+1+1, 9,none⟩ (.int .i64 eb)).setCell ⟨w.heap.size+1+1, 10,none⟩ (.int .i64 ea))).rowIs (w.heap.size+1) 3 D.length (stC D.length []):=((bP.setOther (by simp only;omega) _).setOther (by simp only;omega) _).setOther (by simp only;omega) _
        generalize mP:((wr.setCell ⟨w.heap.size+1+1, 8,none⟩ (.int .i64 es)).setCell ⟨w.heap.size+1+1, 9,none⟩ (.int .i64 eb)).setCell ⟨w.heap.size+1+1, 10,none⟩ (.int .i64 ea)=w5 at *;clear mP m0 m1 m2 m3 m4 m5 m6 m7 m8 mf c0 c1 c2 c3 c4 c5 c6 c7 l0 hn bP;obtain ⟨m0,m1,m2,m3,m4,m5,m6,m7,m8,mf⟩:=x1Y fR;simp only at m0 m1 m2 m3 m4 m5;have gI:=bX.keep dt (by omega)
        obtain ⟨l0,c0,c1,c2,c3,c4,c5,c6,c7⟩:=id gI
        go_quiet (first | (go_at_call 93;exact Calls.quiet_of_same (up_any _ _ _ gi (by omega))))
        go_wp2;have gv:NB (w5.drewN nq) (w.heap.size+1+1) _ 133:=fR
        have aT:=x8A dt nq;have gL:=u4M dZ nq;have iL:KeepS (fun b=>b<wr.heap.size/\b≠w.heap.size+1+1/\b≠w.heap.size+1) wr (w5.drewN nq):=gA;have bR:1 <= max (upS eb ea) ea/\max (upS eb ea) ea <= 1048576:=by omega
        have lg:Hid (max (upS eb ea) ea=str0 ⟨es,eb,ea⟩):=by show max (upS eb ea) ea=max ea (upS eb ea);omega
        have lW:Below (w.heap.size+1) w1 (w5.drewN nq):=aT.mono (by omega)
        have qC:(w5.drewN nq).heap.size=w5.heap.size:=rfl;have iV:=dt.size;generalize qu:w5.drewN nq=w6 at *;clear qu fR dt dZ gI aT gA ip;have kC:∃ T:Nat->Prop,T=(fun b=>b<wr.heap.size/\b≠w.heap.size+1+1/\b≠w.heap.size+1):=⟨_,rfl⟩;obtain ⟨T,hT⟩:=kC;have sK:¬ T (w.heap.size+1+1):=by rw [hT];exact fun h=>h.2.1 rfl
        have sJ:¬ T (w.heap.size+1):=by rw [hT];exact fun h=>h.2.2 rfl
        rw [<- hT] at iL;have o5:Hid (T=(fun b=>b<wr.heap.size/\b≠w.heap.size+1+1/\b≠w.heap.size+1)):=hT;clear hT;clear m0 m1 m2 m3 m4 m5 m6 m7 m8 mf c0 c1 c2 c3 c4 c5 c6 c7 l0
        go_loopw [9, 10] (fun v9 v10 wr2=> ∃ (nx all x:Int) (l:List Int),v9 = .int .i64 nx/\v10 = .int .i64 x/\-1 <= x/\x<D.length/\1 <= nx/\nx <= 1048576/\0 <= all/\all <= 524288/\Shp.stR (D.take (x+1).toNat).reverse nx all l=S/\l.length=D.length-(x+1).toNat/\wr2.rowIs (w.heap.size+1) 3 D.length (stC (x+1).toNat l)/\NB wr2 (w.heap.size+1+1) (ndC (.slice da D.length dcap) (.slice pa P.length pcap) ⟨k,p,q,v,pic⟩ g ⟨es,all,ea⟩ ⟨es,eb,ea⟩ (.slice (some ⟨w.heap.size+1, 0,none⟩) D.length D.length) (.slice aa na acap) (.slice pp np pcp)) 133/\KeepS T wr wr2/\Below (w.heap.size+1) w1 wr2) (fun _ v10 _=>(intOf v10+1).toNat)
        case atStart =>
          refine ⟨_,eb,_,[],rfl,rfl,by omega,by omega,bR.1,bR.2,by omega,by omega, ?_,by simp, ?_,gv,iL,lW⟩
          . rw [show ((D.length:Int)-1+1).toNat=D.length by omega,List.take_length,lg.out]
            exact fl.out
          . rw [show ((D.length:Int)-1+1).toNat=D.length by omega]
            exact gL
        case round =>
          obtain ⟨nx,all,x,l,rfl,rfl,x0',x1',n0,n1,a0,a1,aN,im,dB,jh,ip,aG⟩:=hrel;have kA:=bX.keep aG (by omega)
          obtain ⟨l0,c0,c1,c2,c3,c4,c5,c6,c7⟩:=id kA;obtain ⟨m0,m1,m2,m3,m4,m5,m6,m7,m8,mf⟩:=x1Y jh;simp only at m0 m1 m2 m3 m4 m5;have bV:Below w.heap.size w wr:=au.trans (aG.mono (by omega))
          have ch:Hid (Shp.stR (D.take (x+1).toNat).reverse nx all l=S):=aN;clear aN
          by_cases nK:x<0
          . have:x=-1:=by omega
            subst this;have eI:S=some (all,l):=by rw [<- ch.out];rfl
            subst eI;have iD:=dR.out;simp only [Option.map_some] at iD;clear ch fl dR lg;subst iD;go_wp2;go_ret;exact ⟨⟨_,rfl,by omega,m0,m1,m2,lh _ _ _ _ (by rw [<- o5.out];exact ip) jh (by simpa using dB) (by simpa using im) (hB.trans (bV.mono hB.size))⟩,bV⟩
          . obtain ⟨b,o,cap,d,hv,bI,gE,e0,e1⟩:=z8M (i:=x.toNat) (hB.trans (bV.mono hB.size)) hD (by omega)
            obtain ⟨lo,hi⟩:=d;cases hv;have oN:=x7F hd _ (List.mem_of_getElem? gE);simp only at oN e0 e1;have bE:=ch.out;rw [show (x+1).toNat=x.toNat+1 by omega,u4A gE,Shp.stR] at bE
            simp only at bE;obtain ⟨n,hn⟩:∃ n,hi-lo+1=n:=⟨_,rfl⟩;have ii:hi-lo=n-1:=by omega
            rw [ii,show n-1+1=n by omega] at bE
            have hm:=z9S (n:=n-1) (by omega) (by omega) n0 n1
            have bO:=dB.cell (i:=x.toNat) (by omega)
            have uf:=dB.frozen x.toNat;generalize fM:(n-1)*nx=pr at *;have eu:=z2F (n:=n) (by omega) n0 n1
            rw [fM] at eu;have cR:Hid (pr <= 524288->1 <= nx*n/\nx*n <= 1048576):=eu;have bp:Hid ((if 524288<all+pr then none else Shp.stR (D.take x.toNat).reverse (nx*n) (all+pr) (nx::l))=S):=bE
            have nM:¬ w.heap.size+1=w.heap.size:=by omega
            have rT:b<w.heap.size:=Nat.lt_of_lt_of_le bI hB.size;have ru:¬ b=w.heap.size+1:=by omega
            clear bE ch gE fl ii eu lg;go_wp2
            go_quiet (fail)
            have kQ:=u4M (dB.set x.toNat (.int .i64 nx)) nq;have ie:NB ((wr.setCell ⟨w.heap.size+1,x.toNat,none⟩ (.int .i64 nx)).drewN nq) (w.heap.size+1+1) _ 133:=jh.other (a:=⟨w.heap.size+1,x.toNat,none⟩) (by simp only;omega) (.int .i64 nx)
            have lx:KeepS T _ ((wr.setCell ⟨w.heap.size+1,x.toNat,none⟩ (.int .i64 nx)).drewN nq):=ip.set (p:=⟨w.heap.size+1,x.toNat,none⟩) sJ (.int .i64 nx);have iF:Below (w.heap.size+1) w1 ((wr.setCell ⟨w.heap.size+1,x.toNat,none⟩ (.int .i64 nx)).drewN nq):=x8A (x4L aG (Nat.le_refl _)) nq;generalize kE:(wr.setCell ⟨w.heap.size+1,x.toNat,none⟩ (.int .i64 nx)).drewN nq=w7 at *;clear kE m0 m1 m2 m3 m4 m5 m6 m7 m8 mf c0 c1 c2 c3 c4 c5 c6 c7 l0 jh dB;obtain ⟨m0,m1,m2,m3,m4,m5,m6,m7,m8,mf⟩:=x1Y ie;simp only at m0 m1 m2 m3 m4 m5;have mq:Below w.heap.size w w7:=au.trans (iF.mono (by omega))
            by_cases cJ:524288<all+pr
            . have sL:S=none := by
                have:=bp.out
                rw [if_pos cJ] at this;exact this.symm
              subst sL;have iD:=dR.out;simp only [Option.map_none] at iD;clear bp cR dR;subst iD;go_wp2;go_ret;exact ⟨rfl,x4L mq (by omega)⟩
            . have cO:=bp.out;rw [if_neg cJ] at cO;have fQ:=cR.out (by omega)
              have d9:Hid (Shp.stR (D.take x.toNat).reverse (nx*n) (all+pr) (nx::l)=S):=cO;clear bp cO cR;go_wp2
              go_roundw
              case rel =>
                refine ⟨_,all+pr,_,nx::l,rfl,rfl,by omega,by omega,fQ.1,fQ.2,by omega,by omega, ?_, ?_, ?_,nd_ub ie (all+pr),lx.set (p:=⟨w.heap.size+1+1, 9,none⟩) sK _,x4L iF (by omega)⟩
                . rw [show x-1+1=x by omega]
                  exact d9.out
                . rw [show x-1+1=x by omega,List.length_cons,im]
                  omega
                . rw [show x-1+1=x by omega]
                  exact (kQ.setOther (by simp only;omega) _).congr fun i hi=>by
                    rw [show (x+1).toNat=x.toNat+1 by omega]
                    exact u4B i
              case measure=>simp [intOf];omega
set_option maxHeartbeats 8000000 in
theorem map_str (D:List (Int×Int))(P:List Sh)(t:Ty)(g:Bool)(W w:World)(dv pv:Value)(hG:Glob W)(hs:ShAt W dv pv (.node D P t g))(hB:Below W.heap.size W w)(bA:t.pic.data.toList.length <= 200)(am:P.length <= 100)(hd:x4C D=true)(h3:D.length <= 3)(ht:P=[]->tyB t=true)
    (cK:∀ s∈P, ∀ w dv pv,ShAt W dv pv s->Below W.heap.size W w->Calls Tryz.prog 149 #[shV dv pv s.t s.g] w fun e w'=>MpOk W s w w' e (mpS s)/\Below w.heap.size w w')
    (bS:∀ s∈P, ∀ n,mpS s=some n->x2S n.u) (ml:Hid (P≠[])) :
    Calls Tryz.prog 149 #[shV dv pv t g] w fun e w'=>MpOk W (.node D P t g) w w' e (mpS (.node D P t g))/\Below w.heap.size w w':=by
  unfold ShAt at hs;obtain ⟨hD,pa,pcap,rfl,bF,ba⟩:=hs;obtain ⟨da,dcap,rfl,co,cI⟩:=id hD;obtain ⟨k,p,q,v,pic⟩:=t;simp only at bA;have cn:=fun e a ns he=>y5A (t:=⟨k,p,q,v,pic⟩) (g:=g) (e:=e) (a:=a) (ns:=ns) bS ht he;have cZ:=fun h=>z7A (g:=g) (ht h);have jm:=run_make_row' (P:=Tryz.prog) 32 3 (.int .i64 0) 8 Tryz.underlying32 v5R rfl .i64 .i64 D.length (by omega) (by omega)
  generalize hE:mpS (.node D P ⟨k,p,q,v,pic⟩ g)=E;have kw:Hid (mpS (.node D P ⟨k,p,q,v,pic⟩ g)=E):=hE;clear hE;go_enter Tryz.func149,Tryz.ntmps149;go_wp2
  go_region
  go_upto_if 22 with fail
  generalize bx:(((w.alloc (.cells #[.slice da D.length dcap, .slice pa P.length pcap, .int .i64 k, .int .i64 p, .int .i64 q, .bool v, .string pic, .bool g] 27)).alloc (.cells (madeCells #[.int .i64 0] D.length) 3)).alloc (.cells #[.slice da D.length dcap, .slice pa P.length pcap, .int .i64 k, .int .i64 p, .int .i64 q, .bool v, .string pic, .bool g, .int .i64 0, .int .i64 0, .int .i64 0, .int .i64 0, .int .i64 0, .int .i64 0, .slice (some ⟨w.heap.size+1, 0,none⟩) D.length D.length, .slice none 0 0, .slice none 0 0] 133)).drew=w1;have cg:w1.heap.size=w.heap.size+3:=by rw [<- bx];simp [World.drew]
  have au:Below w.heap.size w w1:=by
    rw [<- bx];exact ((((Below.refl _ w).alloc (Nat.le_refl _) _).alloc (by simp) _).alloc (by simp;omega) _).drew
  have bX:ShBox w1 w.heap.size (.slice da D.length dcap) (.slice pa P.length pcap) ⟨k,p,q,v,pic⟩ g:=by
    rw [<- bx];exact (((ShBox.here w _ _ _ _).alloc _).alloc _).below (Below.refl _ _).drew
  have gV:w1.rowIs (w.heap.size+1) 3 D.length (stC D.length []):=by
    rw [<- bx]
    have:=(World.rowIs_made (w.alloc (.cells #[.slice da D.length dcap, .slice pa P.length pcap, .int .i64 k, .int .i64 p, .int .i64 q, .bool v, .string pic, .bool g] 27)) (.int .i64 0) D.length 3).alloc (.cells #[.slice da D.length dcap, .slice pa P.length pcap, .int .i64 k, .int .i64 p, .int .i64 q, .bool v, .string pic, .bool g, .int .i64 0, .int .i64 0, .int .i64 0, .int .i64 0, .int .i64 0, .int .i64 0, .slice (some ⟨w.heap.size+1, 0,none⟩) D.length D.length, .slice none 0 0, .slice none 0 0] 133)
    simp only [World.size_alloc] at this;exact (this.congr fun i hi=>by unfold stC;rw [if_pos hi])
  have cY:NB w1 (w.heap.size+1+1) (ndC (.slice da D.length dcap) (.slice pa P.length pcap) ⟨k,p,q,v,pic⟩ g ⟨0, 0, 0⟩ ⟨0, 0, 0⟩ (.slice (some ⟨w.heap.size+1, 0,none⟩) D.length D.length) (.slice none 0 0) (.slice none 0 0)) 133:=by
    rw [<- bx]
    have:=NB.here ((w.alloc (.cells #[.slice da D.length dcap, .slice pa P.length pcap, .int .i64 k, .int .i64 p, .int .i64 q, .bool v, .string pic, .bool g] 27)).alloc (.cells (madeCells #[.int .i64 0] D.length) 3)) (ndC (.slice da D.length dcap) (.slice pa P.length pcap) ⟨k,p,q,v,pic⟩ g ⟨0, 0, 0⟩ ⟨0, 0, 0⟩ (.slice (some ⟨w.heap.size+1, 0,none⟩) D.length D.length) (.slice none 0 0) (.slice none 0 0)) 133
    simp only [World.size_alloc] at this;exact this.drew
  clear bx jm;have jB:=x1C (hB.trans (au.mono hB.size)) hG
  go_cut [] (fun wc=> ∃ e0:Un,NB wc (w.heap.size+1+1) (ndC (.slice da D.length dcap) (.slice pa P.length pcap) ⟨k,p,q,v,pic⟩ g ⟨0, 0, 0⟩ e0 (.slice (some ⟨w.heap.size+1, 0,none⟩) D.length D.length) (.slice none 0 0) (.slice none 0 0)) 133/\(P=[]->e0=y4E ⟨k,p,q,v,pic⟩ g)/\Below (w.heap.size+1+1) w1 wc)
  case first =>
    have hP:=ml.out;have rG:(0:Int)<(P.length:Int):=by have:=List.length_pos_iff.2 hP;omega
    have ka:((P.length:Int)==0)=false:=by simpa using hP
    go_wp2_with fail
    go_meet
    case rel=>exact ⟨⟨0, 0, 0⟩,cY,fun h=>absurd h hP,Below.refl _ _⟩
  case rest =>
    obtain ⟨e0,hn,oL,cV⟩:=hcut;have mO:=bX.keep cV (by omega)
    obtain ⟨l0,c0,c1,c2,c3,c4,c5,c6,c7⟩:=id mO;generalize hR:elL P ⟨k,p,q,v,pic⟩ g=R at cn;have cM:Hid (elL P ⟨k,p,q,v,pic⟩ g=R):=hR;have iy:Hid (P=[]->e0=y4E ⟨k,p,q,v,pic⟩ g):=oL;obtain ⟨i1,cy,ce,aK,bW⟩:=x6T v5R;obtain ⟨i2,oB,pJ,aW,jH⟩:=x6T info128;clear hR oL cZ;go_wp2
    go_loopw [49] (fun vx wr=> ∃ (x:Int) (e:Un) (av pv:Value) (na np:Nat) (xa xp:List Value) (at0:List Int) (ns:List Nd) (Bs:List Nat) (S:Nat->Prop),vx = .int .i64 x/\0 <= x/\x <= P.length/\NB wr (w.heap.size+1+1) (ndC (.slice da D.length dcap) (.slice pa P.length pcap) ⟨k,p,q,v,pic⟩ g ⟨0, 0, 0⟩ e (.slice (some ⟨w.heap.size+1, 0,none⟩) D.length D.length) av pv) 133 /\
      wr.ownsRow (w.heap.size+3) 3 1 av na xa/\na <= x.toNat/\wr.ownsRow (w.heap.size+3) 128 1 pv np xp/\np <= x.toNat/\(P=[]->e=y4E ⟨k,p,q,v,pic⟩ g)/\Hid ((x=0/\at0=[]/\ns=[])\/(0<x/\x2S e/\goL (P.drop x.toNat) e at0 ns=R))/\MpI S W w wr av pv P xa xp at0 ns Bs x.toNat/\Below (w.heap.size+1+1) w1 wr) (fun vx _=>(P.length-intOf vx).toNat)
    case atStart=>exact ⟨0,e0,_,_, 0, 0,[],[],[],[],[],fun _=>False,rfl,by omega,by omega,hn,World.ownsRow_nil _ _ _ _,by omega,World.ownsRow_nil _ _ _ _,by omega,iy.out,(show Hid _ from .inl ⟨rfl,rfl,rfl⟩),⟨rfl,rfl,rfl,fun _ h=>h.elim,PtsAt.nil _ _ _⟩,cV⟩
    case round =>
      clear c0 c1 c2 c3 c4 c5 c6 c7 l0 iy hn cV mO;obtain ⟨x,e,av,pv,na,np,xa,xp,at1,ns1,Bs1,S1,rfl,x0,x1,hn,ep,rv,bY,rj,iw,bQ,aS,aD⟩:=hrel;have cA:=bX.keep aD (by omega)
      have ak:Below w.heap.size w wr:=au.trans (aD.mono (by omega))
      have aL:Below W.heap.size W wr:=hB.trans (ak.mono hB.size);have bD:=aD.size;have cU:Hid (P=[]->e=y4E ⟨k,p,q,v,pic⟩ g):=iw;clear iw
      by_cases ai:x<(P.length:Int)
      . obtain ⟨b,o,rfl,aM⟩:=bF (by intro h;subst h;simp at ai;omega)
        obtain ⟨a1,c1',a2,c2',s',mX,ne,e0',e1,e2,e3,e4,e5,e6,e7⟩:=part_at (i:=x.toNat) aL aM (ba b o rfl) (by omega)
        have cF:s'∈P:=List.mem_of_getElem? mX;have iq:=fun w hB=>cK s' cF w _ _ ne hB;have ff:=bS s' cF;obtain ⟨m0,m1,m2,m3,m4,m5,m6,m7,m8,mf⟩:=x1Y hn;obtain ⟨l0,c0,c1,c2,c3,c4,c5,c6,c7⟩:=id cA;have eX:Hid (P[x.toNat]? = some s'):=mX;clear cK bS ne cF bF ba co cI mX
        go_wp2_with (go_at_call 149;fail)
        refine (iq _ (aL.alloc aL.size _)).mono ?_;rintro ee w2 ⟨dC,hb⟩;have fp:Below wr.heap.size wr w2:=y5H (Below.refl _ wr) (Nat.le_refl _) hb;have jk:=hn.below fp;have nG:=x4H ep fp;have nA:=x4H bY fp;have bv:=cA.below fp;have lO:Below (w.heap.size+1+1) w1 w2:=aD.trans (fp.mono (by omega))
        have ti:Below w.heap.size w w2:=ak.trans (fp.mono ak.size);have dY:=lO.size;clear iq c0 c1 c2 c3 c4 c5 c6 c7 l0 m0 m1 m2 m3 m4 m5 m6 m7 m8 mf e0' e1 e2 e3 e4 e5 e6 e7;cases hm:mpS s' with
        | none =>
          rw [hm] at dC;obtain rfl:=dC;have pY:R=none:=by
            obtain ⟨hi,mw⟩:=List.getElem?_eq_some_iff.1 eX.out;rcases bQ.out with ⟨h0, -, -⟩ | ⟨-, -, dh⟩
            . subst h0;rw [<- cM.out];cases P with
              | nil=>simp at ai
              | cons p0 P0 =>
                have:p0=s':=by simpa using mw
                subst this;rw [elL,hm];rfl
            . rw [<- dh,List.drop_eq_getElem_cons hi,mw,goL,hm];rfl
          have pj:E=none:=by rw [<- kw.out,mpS,cM.out,pY];rfl
          subst pj;clear hm ff cM eX bQ pY cn;go_wp2;go_ret;exact ⟨rfl,ti⟩
        | some n =>
          rw [hm] at dC;obtain ⟨B,rfl,uW,u0,u1,u2,bM⟩:=dC;have gB:=ff n hm;have mr:wr.heap.size<B:=by simp at uW;omega
          obtain ⟨S2,bU,nm⟩:=mp_step aS fp ep bY hB.size (by omega) eX.out (by simp) bM
          obtain ⟨m0,m1,m2,m3,m4,m5,m6,m7,m8,mf⟩:=x1Y jk;have dP:∀ o,Below w2.heap.size w2 (w2.alloc o):=fun o=>(Below.refl _ w2).alloc (Nat.le_refl _) o;clear ff;have en:=fun o=>x4H nA (dP o);have pP:∀ g,pv.ownBlock=some g->g<wr.heap.size:=fun g hg=>y3G bY hg
          go_upto_region 13 with (at_builtin;refine y9X _ rfl _ _ 131 rfl (w.heap.size+3) 128 i2 (.pointer none) 1 8 Tryz.underlying131 oB pJ aW jH rfl (by decide) _ _ _ rfl (en _) ⟨w2.heap.size, 0,none⟩ 1 1 [.pointer (some ⟨B, 0,none⟩)] rfl rfl (cell_one_new _ _ _) (fun x hx=>by simp at hx;subst hx;rfl) (by unfold maxLen;omega) (by omega) (by simp;omega) ?_;intro v' w3 kV eB iJ;obtain ⟨gp,capp,rfl⟩:=z2S kV;have oE:=v7U (fun b hb=>(bU b hb).lt) (fun b hb=>(bU b hb).p) iJ;have cT:=u5N (KeepS.refl S2 w2) (fun b hb=>(bU b hb).lt) eB (fun b hb=>(bU b hb).p);have gw:=z2Y (en _) (by omega) (jk.alloc _) eB;have nF:=y6K (by decide) (en _) (x4H nG (dP _)) eB;have cb:=y8R (en _) (by omega) (lO.alloc (by omega) _) (by simp;omega) eB;have v0:=y8F (en _) pP (Nat.le_of_lt mr) (((dP _).cell (World.block_lt_of_cell? _ _ u0)).trans u0) eB;have v1:=y8F (en _) pP (Nat.le_of_lt mr) (((dP _).cell (World.block_lt_of_cell? _ _ u1)).trans u1) eB;have v2:=y8F (en _) pP (Nat.le_of_lt mr) (((dP _).cell (World.block_lt_of_cell? _ _ u2)).trans u2) eB;obtain ⟨n0,n1,n2,n3,n4,n5,n6,n7,n8,nf⟩:=x1Y gw)
          have kY:B≠w.heap.size+1+1:=by omega
          have fS:=nd_ps gw (.slice (some ⟨gp, 0,none⟩) (np+1) capp);have hZ:=x9K (i:= 16) (y:= .slice (some ⟨gp, 0,none⟩) (np+1) capp) nF (show w.heap.size+1+1<w.heap.size+3 by omega)
          have jd:=x9K (i:= 16) (y:= .slice (some ⟨gp, 0,none⟩) (np+1) capp) kV (show w.heap.size+1+1<w.heap.size+3 by omega)
          have fk:=x4L (i:= 16) (y:= .slice (some ⟨gp, 0,none⟩) (np+1) capp) cb (Nat.le_refl _);have lz:=cT.set (p:=⟨w.heap.size+1+1, 16,none⟩) (fun h=>(bU _ h).n rfl) (.slice (some ⟨gp, 0,none⟩) (np+1) capp);have t0:=(x2V (j:= 16) (i:= 8) (y:= .slice (some ⟨gp, 0,none⟩) (np+1) capp) (w:=w3) kY).trans v0;have t1:=(x2V (j:= 16) (i:= 9) (y:= .slice (some ⟨gp, 0,none⟩) (np+1) capp) (w:=w3) kY).trans v1;have t2:=(x2V (j:= 16) (i:= 10) (y:= .slice (some ⟨gp, 0,none⟩) (np+1) capp) (w:=w3) kY).trans v2;generalize gn:w3.setCell ⟨w.heap.size+1+1, 16,none⟩ (.slice (some ⟨gp, 0,none⟩) (np+1) capp)=w4 at *;clear gn n0 n1 n2 n3 n4 n5 n6 n7 n8 nf v0 v1 v2 gw nF cb m0 m1 m2 m3 m4 m5 m6 m7 m8 mf en pP eB iJ kV jk nG nA ep bY bM cT;have gl:=bX.keep fk (by omega)
          have gJ:=fk.size
          by_cases dG:x=0
          . subst dG;have uI:goL (P.drop 1) n.u [0] [n]=R:=by
              obtain ⟨hi,mw⟩:=List.getElem?_eq_some_iff.1 eX.out;rw [<- cM.out];cases P with
              | nil=>simp at ai
              | cons p0 P0 =>
                have:p0=s':=by simpa using mw
                subst this;rw [elL,hm];rfl
            have o6:Hid (goL (P.drop 1) n.u [0] [n]=R):=uI;have mj:Hid (P≠[]):=by
              intro h;subst h;simp at ai
            obtain ⟨rfl,rfl⟩:at1=[]/\ns1=[]:=by
              rcases bQ.out with ⟨-, h1,h2⟩ | ⟨h, -⟩
              . exact ⟨h1,h2⟩
              . omega
            clear hm uI eX bQ cU;obtain ⟨⟨ns0,nb0,na0⟩,ne0,nst0,nat0,nps0⟩:=n;simp only [Nd.u] at t0 t1 t2 gB o6;obtain ⟨n0,n1,n2,n3,n4,n5,n6,n7,n8,nf⟩:=x1Y fS
            go_upto_region 15 with fail
            have fR:=nd_el fS ⟨ns0,nb0,na0⟩;have nE:=y4Q (i:= 11) (j:= 12) (l:= 13) (y0:= .int .i64 ns0) (y1:= .int .i64 nb0) (y2:= .int .i64 na0) hZ (show w.heap.size+1+1<w.heap.size+3 by omega)
            have nz:=y4Q (i:= 11) (j:= 12) (l:= 13) (y0:= .int .i64 ns0) (y1:= .int .i64 nb0) (y2:= .int .i64 na0) jd (show w.heap.size+1+1<w.heap.size+3 by omega)
            have dt:=x7K (i:= 11) (j:= 12) (l:= 13) (y0:= .int .i64 ns0) (y1:= .int .i64 nb0) (y2:= .int .i64 na0) fk (Nat.le_refl _);have gA:=((lz.set (p:=⟨w.heap.size+1+1, 11,none⟩) (fun h=>(bU _ h).n rfl) (.int .i64 ns0)).set (p:=⟨w.heap.size+1+1, 12,none⟩) (fun h=>(bU _ h).n rfl) (.int .i64 nb0)).set (p:=⟨w.heap.size+1+1, 13,none⟩) (fun h=>(bU _ h).n rfl) (.int .i64 na0);simp only at fR nE nz dt gA;generalize mP:((w4.setCell ⟨w.heap.size+1+1, 11,none⟩ (.int .i64 ns0)).setCell ⟨w.heap.size+1+1, 12,none⟩ (.int .i64 nb0)).setCell ⟨w.heap.size+1+1, 13,none⟩ (.int .i64 na0)=w5 at *;clear mP n0 n1 n2 n3 n4 n5 n6 n7 n8 nf fS hZ jd fk lz;have iV:=dt.size;obtain ⟨n0,n1,n2,n3,n4,n5,n6,n7,n8,nf⟩:=x1Y fR;have oV:∀ o,Below w5.heap.size w5 (w5.alloc o):=fun o=>(Below.refl _ w5).alloc (Nat.le_refl _) o;have je:=fun o=>x4H nE (oV o)
            go_wp2_with (at_builtin;refine y9X _ rfl _ _ 32 rfl (w.heap.size+3) 3 i1 (.int .i64 0) 1 8 Tryz.underlying32 cy ce aK bW rfl (by decide) _ _ _ rfl (je _) ⟨w5.heap.size, 0,none⟩ 1 1 [.int .i64 0] rfl rfl (cell_one_new _ _ _) (fun x hx=>by simp at hx;subst hx;rfl) (by unfold maxLen;omega) (by omega) (by simp;omega) ?_;intro v' w6 hU aw ca;obtain ⟨ga,capa,rfl⟩:=z2S hU;have lF:=v7U (fun b hb=>Nat.lt_of_lt_of_le (bU b hb).lt gA.1) (fun b hb=>(bU b hb).a) ca;have iL:=u5N gA (fun b hb=>Nat.lt_of_lt_of_le (bU b hb).lt gA.1) aw (fun b hb=>(bU b hb).a);have gv:=z2Y (je _) (by omega) (fR.alloc _) aw;have kU:=y6K (by decide) (je _) (x4H nz (oV _)) aw;have aT:=y8R (je _) (by omega) (dt.alloc (by omega) _) (by simp;omega) aw;obtain ⟨q0,q1,q2,q3,q4,q5,q6,q7,q8,qf⟩:=x1Y gv)
            go_roundw
            case rel=>exact ⟨_,⟨ns0,nb0,na0⟩,_,_,_,_,_,_,[]++[0],[]++[⟨⟨ns0,nb0,na0⟩,ne0,nst0,nat0,nps0⟩],Bs1++[B],S2,rfl,by omega,by omega,nd_at gv _,x9K hU (by omega),by omega,x9K kU (by omega),by omega,fun h=>absurd h mj.out,(show Hid _ from .inr ⟨by omega,gB,by have h1:=o6.out;simpa using h1⟩),u5G aS bU nm (iL.set (p:=⟨w.heap.size+1+1, 15,none⟩) (fun h=>(bU _ h).n rfl) _) lF oE rfl,x4L aT (Nat.le_refl _)⟩
            case measure=>simp [intOf];omega
          . have bE:=bQ.out.resolve_left (fun h=>dG h.1);obtain ⟨-, bZ,dh⟩:=bE;have eI:R=if 524288<(x1Q e n.u).b then none else goL (P.drop (x.toNat+1)) (x1Q e n.u) (at1++[e.b+gapU e n.u]) (ns1++[n]):=by
              obtain ⟨hi,mw⟩:=List.getElem?_eq_some_iff.1 eX.out;rw [<- dh,List.drop_eq_getElem_cons hi,mw,goL,hm];rfl
            have mj:Hid (P≠[]):=by
              intro h;have hl:P.length=0:=by rw [h];rfl
              omega
            have rI:=fun w=>join_un e n.u w bZ gB;have wB:=u5Y bZ gB;have mB:(x1Q e n.u).b=e.b+gapU e n.u+n.u.b:=rfl;have lC:(x1Q e n.u).b <= 524288->x2S (x1Q e n.u):=y1F bZ gB;have su:=bZ.2.2.2;have dM:=gB.2.2.2;have pj:(x1Q e n.u).b <= 524288\/E=none:=by
              rcases Int.lt_or_le 524288 (x1Q e n.u).b with h | h
              . rw [if_pos h] at eI;exact .inr (by rw [<- kw.out,mpS,cM.out,eI];rfl)
              . exact .inl h
            generalize x1Q e n.u=J at *;generalize gapU e n.u=G at *;obtain ⟨js0,jb,ja0⟩:=J;simp only at mB eI lC pj;have sM:Hid (R=if 524288<jb then none else goL (P.drop (x.toNat+1)) ⟨js0,jb,ja0⟩ (at1++[e.b+G]) (ns1++[n])):=eI
            have jp:Hid (jb <= 524288->x2S ⟨js0,jb,ja0⟩):=lC;have mo:Hid (jb <= 524288\/E=none):=pj;have rJ:0 <= jb/\jb <= 2000000:=by omega
            obtain ⟨es,eb,ea⟩:=e;obtain ⟨⟨ns0,nb0,na0⟩,ne0,nst0,nat0,nps0⟩:=n;simp only [Nd.u] at t0 t1 t2 gB rI su dM mB;clear eI lC pj dh eX bQ cU hm mB;have lA:∀ w,Calls Tryz.prog 101 #[.agg #[.int .i64 es, .int .i64 eb, .int .i64 ea], .agg #[.int .i64 ns0, .int .i64 nb0, .int .i64 na0]] w fun e w'=>e = .returned (.tuple #[.agg #[.int .i64 js0, .int .i64 jb, .int .i64 ja0], .int .i64 G])/\Below w.heap.size w w':=rI;clear rI;obtain ⟨n0,n1,n2,n3,n4,n5,n6,n7,n8,nf⟩:=x1Y fS;simp only at n3 n4 n5;have wj:=World.block_lt_of_cell? _ _ t0;have yK:=fS.lt;simp only at wj
            go_upto_region 16 with fail
            have mE:Below w4.heap.size w4 w4.drew:=(Below.refl _ _).drew
            go_cut [7, 8] (fun v7 v8 wc=> ∃ B7,v7 = .pointer (some ⟨B7, 0,none⟩)/\v8 = .int .i64 G/\UBox wc B7 (.int .i64 js0) (.int .i64 jb) (.int .i64 ja0)/\w4.heap.size <= B7/\Below w4.heap.size w4 wc)
            case first =>
              go_region_with (first
                | (go_at_call 101;refine (lA w4.drew).mono ?_;rintro ee w5 ⟨rfl,bq⟩;have dt:Below w4.heap.size w4 w5:=mE.trans bq;have qH:=dt.size)
                | (go_at_call 101;refine (lA (w4.alloc _).drew).mono ?_;rintro ee w5 ⟨rfl,bq⟩;have dt:Below w4.heap.size w4 w5:=y8U (Below.refl _ w4) (Nat.le_refl _) bq;have qH:=dt.size;have oC:UBox w5 w4.heap.size _ _ _:=UBox.topd bq;obtain ⟨z0,z1,z2,z3,z4,z5,z6⟩:=id oC))
              all_goals
                go_wp2_with fail
                go_meet
                case rel =>
                  first
                    | exact ⟨_,rfl,rfl,UBox.here w5 _ _ _ 42,qH,dt.alloc qH _⟩
                    | exact ⟨_,rfl,rfl,oC.set3 _ _ _,Nat.le_refl _,x1W dt (Nat.le_refl _)⟩
            case rest =>
              obtain ⟨B7,rfl,rfl,vA,mL,cV⟩:=hcut;have wv:∀ g,av.ownBlock=some g->g<w4.heap.size:=fun g hg=>y3G hZ hg;have mA:=fS.below cV;have fP:=x4H hZ cV;have ny:=x4H jd cV;have pT:=lz.trans (KeepS.below cV (fun b hb=>Nat.lt_of_lt_of_le (bU b hb).lt lz.1));have uv:Below (w.heap.size+1+1) w1 wc:=fk.trans (cV.mono (by omega))
              have iU:=cV.size;clear n0 n1 n2 n3 n4 n5 n6 n7 n8 nf t0 t1 t2 fS hZ jd mE lA;obtain ⟨n0,n1,n2,n3,n4,n5,n6,n7,n8,nf⟩:=x1Y mA;simp only at n3 n4 n5;have yS:¬ w.heap.size+1+1=B7:=by omega
              have eH:∀ o,Below wc.heap.size wc (wc.alloc o):=fun o=>(Below.refl _ wc).alloc (Nat.le_refl _) o;obtain ⟨aa,acap,rfl⟩:=y6L fP;have tz:IntKind.i64.wrap (eb+G)=eb+G:=w64i (by omega)
              have wh:=mA.lt
              go_upto_region 17 with fail
              go_cut [] (fun wd=> ∃ av',NB wd (w.heap.size+1+1) (ndC (.slice da D.length dcap) (.slice (some ⟨b,o,none⟩) P.length pcap) ⟨k,p,q,v,pic⟩ g ⟨0, 0, 0⟩ ⟨es,eb,ea⟩ (.slice (some ⟨w.heap.size+1, 0,none⟩) D.length D.length) av' (.slice (some ⟨gp, 0,none⟩) (np+1) capp)) 133/\wd.ownsRow (w.heap.size+3) 3 1 av' (na+1) (xa++[.int .i64 (eb+G)])/\wd.ownsRow (w.heap.size+3) 128 1 (.slice (some ⟨gp, 0,none⟩) (np+1) capp) (np+1) (xp++[.pointer (some ⟨B, 0,none⟩)])/\UBox wd B7 (.int .i64 js0) (.int .i64 jb) (.int .i64 ja0)/\Below (w.heap.size+1+1) w1 wd/\KeepS S2 w2 wd/\(∀ b,S2 b->av'.ownBlock≠some b))
              case first =>
                go_region_law (first | (refine y0U _ rfl (.tmp 102) (.tmp 110) 32 rfl (w.heap.size+3) 3 i1 (.int .i64 0) 1 8 Tryz.underlying32 cy ce aK bW rfl (by decide) (.slice aa na acap) na xa (by simp [Act.eval,Act.put]) (x4H fP (eH _).drew) ⟨wc.heap.size, 0,none⟩ 1 1 [.int .i64 (eb+G)] (by simp [Act.eval,Act.put]) rfl (fun j u hu=>cell_one_new wc (.int .i64 (eb+G)) 3 j u hu) (fun x hx=>by simp at hx;subst hx;rfl) (by unfold maxLen;omega) (by omega) (by simp;omega) ?_;intro v' w6 hU aw ca;obtain ⟨ga,capa,rfl⟩:=z2S hU;have lF:=app_ned (fun b hb=>Nat.lt_of_lt_of_le (bU b hb).lt pT.1) (fun b hb=>(bU b hb).a) ca;have iL:=v5D pT (fun b hb=>Nat.lt_of_lt_of_le (bU b hb).lt pT.1) aw (fun b hb=>(bU b hb).a);have gv:=z2Y (x4H fP (eH _).drew) (by omega) (mA.below (eH _).drew) aw;have kU:=y6K (by decide) (x4H fP (eH _).drew) (x4H ny (eH _).drew) aw;have aT:=y8R (x4H fP (eH _).drew) (by omega) (uv.trans ((eH _).drew.mono (by omega))) (by simp;omega) aw;have vB:=u7P wv mL (vA.below (eH _).drew) aw;obtain ⟨q0,q1,q2,q3,q4,q5,q6,q7,q8,qf⟩:=x1Y gv))
                all_goals
                  go_wp2_with fail
                  go_meet
                  case rel=>exact ⟨_,nd_at gv _,x9K hU (by omega),x9K kU (by omega),vB.other (by omega),x4L aT (Nat.le_refl _),iL.set (p:=⟨w.heap.size+1+1, 15,none⟩) (fun h=>(bU _ h).n rfl) _,lF⟩
              case rest =>
                obtain ⟨av',bM,ri,re,vz,cL,bC,rM⟩:=hcut;clear n0 n1 n2 n3 n4 n5 n6 n7 n8 nf mA fP ny uv;obtain ⟨n0,n1,n2,n3,n4,n5,n6,n7,n8,nf⟩:=x1Y bM;obtain ⟨v0,v1,v2,v3,v4,v5,v6⟩:=id vz;simp only at n3 n4 n5;have pu:Below w.heap.size w wc:=au.trans (cL.mono (by omega))
                have vV:¬ B7=w.heap.size+1+1:=by omega
                by_cases cJ:524288<jb
                . obtain rfl:E=none:=mo.out.resolve_left (by omega)
                  clear sM jp mo cn cM;go_wp2;go_ret;exact ⟨rfl,x7K pu (by omega)⟩
                . have sO:=sM.out;rw [if_neg cJ] at sO;have sN:Hid (R=goL (P.drop (x.toNat+1)) ⟨js0,jb,ja0⟩ (at1++[eb+G]) (ns1++[⟨⟨ns0,nb0,na0⟩,ne0,nst0,nat0,nps0⟩])):=sO;clear sO sM mo cn cM;go_wp2
                  go_roundw
                  case rel=>exact ⟨_,⟨js0,jb,ja0⟩,_,_,_,_,_,_,at1++[eb+G],ns1++[⟨⟨ns0,nb0,na0⟩,ne0,nst0,nat0,nps0⟩],Bs1++[B],S2,rfl,by omega,by omega,nd_el bM ⟨js0,jb,ja0⟩,y4Q ri (by omega),by omega,y4Q re (by omega),by omega,fun h=>absurd h mj.out,(show Hid _ from .inr ⟨by omega,jp.out (by omega),by rw [show (x+1).toNat=x.toNat+1 by omega];exact sN.out.symm⟩),u5G aS bU nm (((bC.set (p:=⟨w.heap.size+1+1, 11,none⟩) (fun h=>(bU _ h).n rfl) _).set (p:=⟨w.heap.size+1+1, 12,none⟩) (fun h=>(bU _ h).n rfl) _).set (p:=⟨w.heap.size+1+1, 13,none⟩) (fun h=>(bU _ h).n rfl) _) rM oE (by omega),x7K cL (Nat.le_refl _)⟩
                  case measure=>simp [intOf];omega
      . have dy:x=P.length:=by omega
        subst dy;obtain rfl:R=some (e,at1,ns1):=by
          rcases bQ.out with ⟨h0,h1,h2⟩ | ⟨-, -, dh⟩
          . have o7:P=[]:=List.eq_nil_of_length_eq_zero (by omega)
            have h3:=cM.out;rw [o7,elL] at h3;rw [cU.out o7,h1,h2];exact h3.symm
          . rw [show ((P.length:Int)).toNat=P.length by omega,List.drop_length,goL] at dh
            exact dh.symm
        have bZ:=cn e at1 ns1 rfl;have ip:=KeepS.refl (fun b=>b<wr.heap.size/\b≠w.heap.size+1+1/\b≠w.heap.size+1) wr;have ik:=fun wf l u0 e0 fB df dB hl pm=>mp_fin (l:=l) (wf:=wf) (u:=u0) (e:=e0) (t:=⟨k,p,q,v,pic⟩) (g:=g) (pa:=pa) (pcap:=pcap) aS (by omega) hB.size pm hD ep bY (by omega) fB df dB hl
        obtain ⟨es,eb,ea⟩:=e;have gi:=x3L bZ.1;have bB:=bZ.2.2.2;simp only at gi bB;have tB:=z5K (n:=eb) gi.1;have mp:E=(Shp.stR D.reverse (str0 ⟨es,eb,ea⟩) eb []).map fun y=> .mk ⟨es,y.1,ea⟩ ⟨es,eb,ea⟩ y.2 at1 ns1:=by
          rw [<- kw.out,mpS,cM.out];rfl
        generalize hS:Shp.stR D.reverse (str0 ⟨es,eb,ea⟩) eb []=S at mp;have fl:Hid (Shp.stR D.reverse (str0 ⟨es,eb,ea⟩) eb []=S):=hS;have dR:Hid (E=S.map fun y=> .mk ⟨es,y.1,ea⟩ ⟨es,eb,ea⟩ y.2 at1 ns1):=mp;have bP:wr.rowIs (w.heap.size+1) 3 D.length (stC D.length []):=gV.of_block (aD.block _ (by omega))
        have ic:=hn.lt;obtain ⟨aa,acap,rfl⟩:=y6L ep;obtain ⟨pp,pcp,rfl⟩:=y6L bY;have lh:=ik;clear hS mp kw cM cn bQ cU cK bS bF ba ep bY rj rv gV cY co cI aS ik cy ce aK bW oB pJ aW jH;obtain ⟨m0,m1,m2,m3,m4,m5,m6,m7,m8,mf⟩:=x1Y hn;obtain ⟨l0,c0,c1,c2,c3,c4,c5,c6,c7⟩:=id cA;simp only at m3 m4 m5;have oR:¬ 524288<eb:=by omega
        go_upto_region 25 with fail
        have fR:=nd_un hn ⟨es,eb,ea⟩;have dt:=x7K (i:= 8) (j:= 9) (l:= 10) (y0:= .int .i64 es) (y1:= .int .i64 eb) (y2:= .int .i64 ea) aD (Nat.le_refl _);have gA:=((ip.set (p:=⟨w.heap.size+1+1, 8,none⟩) (fun h=>h.2.1 rfl) (.int .i64 es)).set (p:=⟨w.heap.size+1+1, 9,none⟩) (fun h=>h.2.1 rfl) (.int .i64 eb)).set (p:=⟨w.heap.size+1+1, 10,none⟩) (fun h=>h.2.1 rfl) (.int .i64 ea);simp only at fR dt gA;have dZ:((((wr.setCell ⟨w.heap.size+1+1, 8,none⟩ (.int .i64 es)).setCell ⟨w.heap.size+1+1, 9,none⟩ (.int .i64 eb)).setCell ⟨w.heap.size+1+1, 10,none⟩ (.int .i64 ea))).rowIs (w.heap.size+1) 3 D.length (stC D.length []):=((bP.setOther (by simp only;omega) _).setOther (by simp only;omega) _).setOther (by simp only;omega) _
        generalize mP:((wr.setCell ⟨w.heap.size+1+1, 8,none⟩ (.int .i64 es)).setCell ⟨w.heap.size+1+1, 9,none⟩ (.int .i64 eb)).setCell ⟨w.heap.size+1+1, 10,none⟩ (.int .i64 ea)=w5 at *;clear mP m0 m1 m2 m3 m4 m5 m6 m7 m8 mf c0 c1 c2 c3 c4 c5 c6 c7 l0 hn bP;obtain ⟨m0,m1,m2,m3,m4,m5,m6,m7,m8,mf⟩:=x1Y fR;simp only at m0 m1 m2 m3 m4 m5;have gI:=bX.keep dt (by omega)
        obtain ⟨l0,c0,c1,c2,c3,c4,c5,c6,c7⟩:=id gI
        go_quiet (first | (go_at_call 93;exact Calls.quiet_of_same (up_any _ _ _ gi (by omega))))
        go_wp2;have gv:NB (w5.drewN nq) (w.heap.size+1+1) _ 133:=fR
        have aT:=x8A dt nq;have gL:=u4M dZ nq;have iL:KeepS (fun b=>b<wr.heap.size/\b≠w.heap.size+1+1/\b≠w.heap.size+1) wr (w5.drewN nq):=gA;have bR:1 <= max (upS eb ea) ea/\max (upS eb ea) ea <= 1048576:=by omega
        have lg:Hid (max (upS eb ea) ea=str0 ⟨es,eb,ea⟩):=by show max (upS eb ea) ea=max ea (upS eb ea);omega
        have lW:Below (w.heap.size+1) w1 (w5.drewN nq):=aT.mono (by omega)
        have qC:(w5.drewN nq).heap.size=w5.heap.size:=rfl;have iV:=dt.size;generalize qu:w5.drewN nq=w6 at *;clear qu fR dt dZ gI aT gA ip;have kC:∃ T:Nat->Prop,T=(fun b=>b<wr.heap.size/\b≠w.heap.size+1+1/\b≠w.heap.size+1):=⟨_,rfl⟩;obtain ⟨T,hT⟩:=kC;have sK:¬ T (w.heap.size+1+1):=by rw [hT];exact fun h=>h.2.1 rfl
        have sJ:¬ T (w.heap.size+1):=by rw [hT];exact fun h=>h.2.2 rfl
        rw [<- hT] at iL;have o5:Hid (T=(fun b=>b<wr.heap.size/\b≠w.heap.size+1+1/\b≠w.heap.size+1)):=hT;clear hT;clear m0 m1 m2 m3 m4 m5 m6 m7 m8 mf c0 c1 c2 c3 c4 c5 c6 c7 l0
        go_loopw [9, 10] (fun v9 v10 wr2=> ∃ (nx all x:Int) (l:List Int),v9 = .int .i64 nx/\v10 = .int .i64 x/\-1 <= x/\x<D.length/\1 <= nx/\nx <= 1048576/\0 <= all/\all <= 524288/\Shp.stR (D.take (x+1).toNat).reverse nx all l=S/\l.length=D.length-(x+1).toNat/\wr2.rowIs (w.heap.size+1) 3 D.length (stC (x+1).toNat l)/\NB wr2 (w.heap.size+1+1) (ndC (.slice da D.length dcap) (.slice pa P.length pcap) ⟨k,p,q,v,pic⟩ g ⟨es,all,ea⟩ ⟨es,eb,ea⟩ (.slice (some ⟨w.heap.size+1, 0,none⟩) D.length D.length) (.slice aa na acap) (.slice pp np pcp)) 133/\KeepS T wr wr2/\Below (w.heap.size+1) w1 wr2) (fun _ v10 _=>(intOf v10+1).toNat)
        case atStart =>
          refine ⟨_,eb,_,[],rfl,rfl,by omega,by omega,bR.1,bR.2,by omega,by omega, ?_,by simp, ?_,gv,iL,lW⟩
          . rw [show ((D.length:Int)-1+1).toNat=D.length by omega,List.take_length,lg.out]
            exact fl.out
          . rw [show ((D.length:Int)-1+1).toNat=D.length by omega]
            exact gL
        case round =>
          obtain ⟨nx,all,x,l,rfl,rfl,x0',x1',n0,n1,a0,a1,aN,im,dB,jh,ip,aG⟩:=hrel;have kA:=bX.keep aG (by omega)
          obtain ⟨l0,c0,c1,c2,c3,c4,c5,c6,c7⟩:=id kA;obtain ⟨m0,m1,m2,m3,m4,m5,m6,m7,m8,mf⟩:=x1Y jh;simp only at m0 m1 m2 m3 m4 m5;have bV:Below w.heap.size w wr:=au.trans (aG.mono (by omega))
          have ch:Hid (Shp.stR (D.take (x+1).toNat).reverse nx all l=S):=aN;clear aN
          by_cases nK:x<0
          . have:x=-1:=by omega
            subst this;have eI:S=some (all,l):=by rw [<- ch.out];rfl
            subst eI;have iD:=dR.out;simp only [Option.map_some] at iD;clear ch fl dR lg;subst iD;go_wp2;go_ret;exact ⟨⟨_,rfl,by omega,m0,m1,m2,lh _ _ _ _ (by rw [<- o5.out];exact ip) jh (by simpa using dB) (by simpa using im) (hB.trans (bV.mono hB.size))⟩,bV⟩
          . obtain ⟨b,o,cap,d,hv,bI,gE,e0,e1⟩:=z8M (i:=x.toNat) (hB.trans (bV.mono hB.size)) hD (by omega)
            obtain ⟨lo,hi⟩:=d;cases hv;have oN:=x7F hd _ (List.mem_of_getElem? gE);simp only at oN e0 e1;have bE:=ch.out;rw [show (x+1).toNat=x.toNat+1 by omega,u4A gE,Shp.stR] at bE
            simp only at bE;obtain ⟨n,hn⟩:∃ n,hi-lo+1=n:=⟨_,rfl⟩;have ii:hi-lo=n-1:=by omega
            rw [ii,show n-1+1=n by omega] at bE
            have hm:=z9S (n:=n-1) (by omega) (by omega) n0 n1
            have bO:=dB.cell (i:=x.toNat) (by omega)
            have uf:=dB.frozen x.toNat;generalize fM:(n-1)*nx=pr at *;have eu:=z2F (n:=n) (by omega) n0 n1
            rw [fM] at eu;have cR:Hid (pr <= 524288->1 <= nx*n/\nx*n <= 1048576):=eu;have bp:Hid ((if 524288<all+pr then none else Shp.stR (D.take x.toNat).reverse (nx*n) (all+pr) (nx::l))=S):=bE
            have nM:¬ w.heap.size+1=w.heap.size:=by omega
            have rT:b<w.heap.size:=Nat.lt_of_lt_of_le bI hB.size;have ru:¬ b=w.heap.size+1:=by omega
            clear bE ch gE fl ii eu lg;go_wp2
            go_quiet (fail)
            have kQ:=u4M (dB.set x.toNat (.int .i64 nx)) nq;have ie:NB ((wr.setCell ⟨w.heap.size+1,x.toNat,none⟩ (.int .i64 nx)).drewN nq) (w.heap.size+1+1) _ 133:=jh.other (a:=⟨w.heap.size+1,x.toNat,none⟩) (by simp only;omega) (.int .i64 nx)
            have lx:KeepS T _ ((wr.setCell ⟨w.heap.size+1,x.toNat,none⟩ (.int .i64 nx)).drewN nq):=ip.set (p:=⟨w.heap.size+1,x.toNat,none⟩) sJ (.int .i64 nx);have iF:Below (w.heap.size+1) w1 ((wr.setCell ⟨w.heap.size+1,x.toNat,none⟩ (.int .i64 nx)).drewN nq):=x8A (x4L aG (Nat.le_refl _)) nq;generalize kE:(wr.setCell ⟨w.heap.size+1,x.toNat,none⟩ (.int .i64 nx)).drewN nq=w7 at *;clear kE m0 m1 m2 m3 m4 m5 m6 m7 m8 mf c0 c1 c2 c3 c4 c5 c6 c7 l0 jh dB;obtain ⟨m0,m1,m2,m3,m4,m5,m6,m7,m8,mf⟩:=x1Y ie;simp only at m0 m1 m2 m3 m4 m5;have mq:Below w.heap.size w w7:=au.trans (iF.mono (by omega))
            by_cases cJ:524288<all+pr
            . have sL:S=none := by
                have:=bp.out
                rw [if_pos cJ] at this;exact this.symm
              subst sL;have iD:=dR.out;simp only [Option.map_none] at iD;clear bp cR dR;subst iD;go_wp2;go_ret;exact ⟨rfl,x4L mq (by omega)⟩
            . have cO:=bp.out;rw [if_neg cJ] at cO;have fQ:=cR.out (by omega)
              have d9:Hid (Shp.stR (D.take x.toNat).reverse (nx*n) (all+pr) (nx::l)=S):=cO;clear bp cO cR;go_wp2
              go_roundw
              case rel =>
                refine ⟨_,all+pr,_,nx::l,rfl,rfl,by omega,by omega,fQ.1,fQ.2,by omega,by omega, ?_, ?_, ?_,nd_ub ie (all+pr),lx.set (p:=⟨w.heap.size+1+1, 9,none⟩) sK _,x4L iF (by omega)⟩
                . rw [show x-1+1=x by omega]
                  exact d9.out
                . rw [show x-1+1=x by omega,List.length_cons,im]
                  omega
                . rw [show x-1+1=x by omega]
                  exact (kQ.setOther (by simp only;omega) _).congr fun i hi=>by
                    rw [show (x+1).toNat=x.toNat+1 by omega]
                    exact u4B i
              case measure=>simp [intOf];omega
theorem map_one (D:List (Int×Int))(P:List Sh)(t:Ty)(g:Bool)(W w:World)(dv pv:Value)(hG:Glob W)(hs:ShAt W dv pv (.node D P t g))(hB:Below W.heap.size W w)(bA:t.pic.data.toList.length <= 200)(am:P.length <= 100)(hd:x4C D=true)(h3:D.length <= 3)(ht:P=[]->tyB t=true)
    (cK:∀ s∈P, ∀ w dv pv,ShAt W dv pv s->Below W.heap.size W w->Calls Tryz.prog 149 #[shV dv pv s.t s.g] w fun e w'=>MpOk W s w w' e (mpS s)/\Below w.heap.size w w')
    (bS:∀ s∈P, ∀ n,mpS s=some n->x2S n.u) :
    Calls Tryz.prog 149 #[shV dv pv t g] w fun e w'=>MpOk W (.node D P t g) w w' e (mpS (.node D P t g))/\Below w.heap.size w w':=by
  by_cases hP:P=[]
  . exact map_leaf D P t g W w dv pv hG hs hB bA am hd h3 ht cK bS hP
  . exact map_str D P t g W w dv pv hG hs hB bA am hd h3 ht cK bS hP
end Go.Proofs
