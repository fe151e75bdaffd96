/-
  mapped of the layout, walked.
-/
import Derived.Test.YtadehgdfijjikaaGreatDoorS6
set_option linter.all false
namespace Go.Proofs
open Go.RowKit Go.Yec Go.Shp Go.Deep
open Go.Xec (Glob)
set_option maxRecDepth 100000 in
set_option maxHeartbeats 8000000 in
theorem map_one (D:List (Int×Int)) (P:List Sh) (t:Ty) (g:Bool) (W w:World) (dv pv:Value) (hG:Glob W) (hs:ShAt W dv pv (.node D P t g)) (hB:Below W.heap.size W w) (hpic:t.pic.data.toList.length <= 200) (hlen:P.length <= 100) (hd:x4A D=true) (h3:D.length <= 3) (ht:P=[]->tyB t=true)
    (hih:∀ s∈P, ∀ w dv pv,ShAt W dv pv s->Below W.heap.size W w->Calls Tryz.prog 149 #[shV dv pv s.t s.g] w fun e w'=>MpOk W s w w' e (mpS s)/\Below w.heap.size w w')
    (hgd:∀ s∈P, ∀ n,mpS s=some n->x2B n.u) :
    Calls Tryz.prog 149 #[shV dv pv t g] w fun e w'=>MpOk W (.node D P t g) w w' e (mpS (.node D P t g))/\Below w.heap.size w w':=by
  unfold ShAt at hs;obtain ⟨hD,pa,pcap,rfl,hp0,hpc⟩:=hs;obtain ⟨da,dcap,rfl,hd0,hdc⟩:=id hD;obtain ⟨k,p,q,v,pic⟩:=t;simp only at hpic;have hge:=fun e a ns he=>y1H (t:=⟨k,p,q,v,pic⟩) (g:=g) (e:=e) (a:=a) (ns:=ns) hgd ht he;have hgl:=fun h=>z6Z (g:=g) (ht h);have hmk:=run_make_row' (P:=Tryz.prog) 32 3 (.int .i64 0) 8 Tryz.underlying32 v5V rfl .i64 .i64 D.length (by omega) (by omega)
  generalize hE:mpS (.node D P ⟨k,p,q,v,pic⟩ g)=E;have hEH:Hid (mpS (.node D P ⟨k,p,q,v,pic⟩ g)=E):=hE;clear hE;go_enter Tryz.func149,Tryz.ntmps149;go_wp2
  go_region
  go_upto_if 22 with fail
  generalize hw1:(((w.alloc (.cells #[.slice da D.length dcap, .slice pa P.length pcap, .int .i64 k, .int .i64 p, .int .i64 q, .bool v, .string pic, .bool g] 27)).alloc (.cells (madeCells #[.int .i64 0] D.length) 3)).alloc (.cells #[.slice da D.length dcap, .slice pa P.length pcap, .int .i64 k, .int .i64 p, .int .i64 q, .bool v, .string pic, .bool g, .int .i64 0, .int .i64 0, .int .i64 0, .int .i64 0, .int .i64 0, .int .i64 0, .slice (some ⟨w.heap.size+1, 0,none⟩) D.length D.length, .slice none 0 0, .slice none 0 0] 133)).drew=w1;have hsz1:w1.heap.size=w.heap.size+3:=by rw [<- hw1]; simp [World.drew]
  have hB1:Below w.heap.size w w1:=by
    rw [<- hw1];exact ((((Below.refl _ w).alloc (Nat.le_refl _) _).alloc (by simp) _).alloc (by simp; omega) _).drew
  have hx1:ShBox w1 w.heap.size (.slice da D.length dcap) (.slice pa P.length pcap) ⟨k,p,q,v,pic⟩ g:=by
    rw [<- hw1];exact (((ShBox.here w _ _ _ _).alloc _).alloc _).below (Below.refl _ _).drew
  have hst1:w1.rowIs (w.heap.size+1) 3 D.length (stC D.length []):=by
    rw [<- hw1]
    have:=(World.rowIs_made (w.alloc (.cells #[.slice da D.length dcap, .slice pa P.length pcap, .int .i64 k, .int .i64 p, .int .i64 q, .bool v, .string pic, .bool g] 27)) (.int .i64 0) D.length 3).alloc (.cells #[.slice da D.length dcap, .slice pa P.length pcap, .int .i64 k, .int .i64 p, .int .i64 q, .bool v, .string pic, .bool g, .int .i64 0, .int .i64 0, .int .i64 0, .int .i64 0, .int .i64 0, .int .i64 0, .slice (some ⟨w.heap.size+1, 0,none⟩) D.length D.length, .slice none 0 0, .slice none 0 0] 133)
    simp only [World.size_alloc] at this;exact (this.congr fun i hi=>by unfold stC; rw [if_pos hi])
  have hn1:NB w1 (w.heap.size+1+1) (ndC (.slice da D.length dcap) (.slice pa P.length pcap) ⟨k,p,q,v,pic⟩ g ⟨0, 0, 0⟩ ⟨0, 0, 0⟩ (.slice (some ⟨w.heap.size+1, 0,none⟩) D.length D.length) (.slice none 0 0) (.slice none 0 0)) 133:=by
    rw [<- hw1]
    have:=NB.here ((w.alloc (.cells #[.slice da D.length dcap, .slice pa P.length pcap, .int .i64 k, .int .i64 p, .int .i64 q, .bool v, .string pic, .bool g] 27)).alloc (.cells (madeCells #[.int .i64 0] D.length) 3)) (ndC (.slice da D.length dcap) (.slice pa P.length pcap) ⟨k,p,q,v,pic⟩ g ⟨0, 0, 0⟩ ⟨0, 0, 0⟩ (.slice (some ⟨w.heap.size+1, 0,none⟩) D.length D.length) (.slice none 0 0) (.slice none 0 0)) 133
    simp only [World.size_alloc] at this;exact this.drew
  clear hw1 hmk;have hG1:=x0Y (hB.trans (hB1.mono hB.size)) hG
  go_cut [] (fun wc=> ∃ e0:Un,NB wc (w.heap.size+1+1) (ndC (.slice da D.length dcap) (.slice pa P.length pcap) ⟨k,p,q,v,pic⟩ g ⟨0, 0, 0⟩ e0 (.slice (some ⟨w.heap.size+1, 0,none⟩) D.length D.length) (.slice none 0 0) (.slice none 0 0)) 133/\(P=[]->e0=x8E ⟨k,p,q,v,pic⟩ g)/\Below (w.heap.size+1+1) w1 wc)
  case first =>
    by_cases hP:P=[]
    . subst hP;have hlf:x8E ⟨k,p,q,v,pic⟩ g=⟨0,szS k p q v pic.data.toList,cond (decide (k=4)&&!g) 8 (alS k p q v pic.data.toList)⟩:=rfl;have h19:=fun w hg=>c19 (k:=k) (p:=p) (q:=q) (v:=v) hpic w hg;have h21:=fun w hg=>c21 (k:=k) (p:=p) (q:=q) (v:=v) hpic w hg;generalize szS k p q v pic.data.toList=sz at hlf h19;generalize alS k p q v pic.data.toList=al0 at hlf h21;have hlfH:Hid (x8E ⟨k,p,q,v,pic⟩ g=⟨0,sz,cond (decide (k=4)&&!g) 8 al0⟩):=hlf;have hl0:((([]:List Sh).length:Int)==0)=true:=rfl;have hd1:Below w1.heap.size w1 w1.drew:=(Below.refl _ _).drew;obtain ⟨l0,c0,c1,c2,c3,c4,c5,c6,c7⟩:=id hx1;obtain ⟨m0,m1,m2,m3,m4,m5,m6,m7,m8,mf⟩:=x1X hn1;clear hlf hih hgd hge hgl hp0 hpc hd0 hdc hEH;go_wp2
      go_region_with (first
        | (go_at_call 53; refine (h19 w1.drew (x0Y hd1 hG1)).mono ?_; rintro e w2 ⟨rfl,hbb⟩; have hb2:Below w1.heap.size w1 w2:=hd1.trans hbb; have hb2':=hb2.size; obtain ⟨l2,d0,d1,d2,d3,d4,d5,d6,d7⟩:=hx1.below hb2)
        | (go_at_call 26; refine (h21 w2 (x0Y hb2 hG1)).mono ?_; rintro e w3 ⟨rfl,hbb3⟩; have hb3:Below w1.heap.size w1 w3:=hb2.trans (hbb3.mono hb2'); have hb3':=hb3.size; obtain ⟨l3,k0,k1,k2,k3,k4,k5,k6,k7⟩:=hx1.below hb3; have hn3:=hn1.below hb3; obtain ⟨j0,j1,j2,j3,j4,j5,j6,j7,j8,jf⟩:=x1X hn3))
      all_goals
        have hn4:=nd_el hn3 ⟨0,sz,al0⟩;have hb4:Below (w.heap.size+1+1) w1 (((w3.setCell ⟨w.heap.size+1+1, 11,none⟩ (.int .i64 0)).setCell ⟨w.heap.size+1+1, 12,none⟩ (.int .i64 sz)).setCell ⟨w.heap.size+1+1, 13,none⟩ (.int .i64 al0)):=x7F (hb3.mono (by omega)) (Nat.le_refl _)
        have hx4:=hx1.keep hb4 (by omega)
        generalize hw4:((w3.setCell ⟨w.heap.size+1+1, 11,none⟩ (.int .i64 0)).setCell ⟨w.heap.size+1+1, 12,none⟩ (.int .i64 sz)).setCell ⟨w.heap.size+1+1, 13,none⟩ (.int .i64 al0)=w4 at *;clear hw4 j0 j1 j2 j3 j4 j5 j6 j7 j8 jf k0 k1 k2 k3 k4 k5 k6 k7 l3 d0 d1 d2 d3 d4 d5 d6 d7 l2 c0 c1 c2 c3 c4 c5 c6 c7 l0 m0 m1 m2 m3 m4 m5 m6 m7 m8 mf hbb hbb3;obtain ⟨l0,c0,c1,c2,c3,c4,c5,c6,c7⟩:=hx4;obtain ⟨m0,m1,m2,m3,m4,m5,m6,m7,m8,mf⟩:=x1X hn4
        by_cases hk:k=4
        . subst hk;cases g
          . go_wp2_with fail
            go_meet
            case rel=>exact ⟨⟨0,sz, 8⟩,nd_al hn4 8,fun _=>hlfH.out.symm,x4K hb4 (Nat.le_refl _)⟩
          . go_wp2_with fail
            go_meet
            case rel=>exact ⟨⟨0,sz,al0⟩,hn4,fun _=>hlfH.out.symm,hb4⟩
        . go_wp2_with fail
          go_meet
          case rel=>exact ⟨⟨0,sz,al0⟩,hn4,fun _=>by rw [hlfH.out,decide_eq_false hk]; rfl,hb4⟩
    . have hl1:(0:Int)<(P.length:Int):=by have:=List.length_pos_iff.2 hP; omega
      have hl2:((P.length:Int)==0)=false:=by simpa using hP
      go_wp2_with fail
      go_meet
      case rel=>exact ⟨⟨0, 0, 0⟩,hn1,fun h=>absurd h hP,Below.refl _ _⟩
  case rest =>
    obtain ⟨e0,hn,he0,hbc⟩:=hcut;have hxc:=hx1.keep hbc (by omega)
    obtain ⟨l0,c0,c1,c2,c3,c4,c5,c6,c7⟩:=id hxc;generalize hR:elL P ⟨k,p,q,v,pic⟩ g=R at hge;have hRH:Hid (elL P ⟨k,p,q,v,pic⟩ g=R):=hR;have he0H:Hid (P=[]->e0=x8E ⟨k,p,q,v,pic⟩ g):=he0;obtain ⟨i1,hi1,hz1,hs1,hy1⟩:=y2M v5V;obtain ⟨i2,hi2,hz2,hs2,hy2⟩:=y2M info128;clear hR he0 hgl;go_wp2
    go_loopw [49] (fun vx wr=> ∃ (x:Int) (e:Un) (av pv:Value) (na np:Nat) (xa xp:List Value) (at0:List Int) (ns:List Nd) (Bs:List Nat) (S:Nat->Prop),vx = .int .i64 x/\0 <= x/\x <= P.length/\NB wr (w.heap.size+1+1) (ndC (.slice da D.length dcap) (.slice pa P.length pcap) ⟨k,p,q,v,pic⟩ g ⟨0, 0, 0⟩ e (.slice (some ⟨w.heap.size+1, 0,none⟩) D.length D.length) av pv) 133 /\
      wr.ownsRow (w.heap.size+3) 3 1 av na xa/\na <= x.toNat/\wr.ownsRow (w.heap.size+3) 128 1 pv np xp/\np <= x.toNat/\(P=[]->e=x8E ⟨k,p,q,v,pic⟩ g)/\Hid ((x=0/\at0=[]/\ns=[])\/(0<x/\x2B e/\goL (P.drop x.toNat) e at0 ns=R))/\MpI S W w wr av pv P xa xp at0 ns Bs x.toNat/\Below (w.heap.size+1+1) w1 wr) (fun vx _=>(P.length-intOf vx).toNat)
    case atStart=>exact ⟨0,e0,_,_, 0, 0,[],[],[],[],[],fun _=>False,rfl,by omega,by omega,hn,World.ownsRow_nil _ _ _ _,by omega,World.ownsRow_nil _ _ _ _,by omega,he0H.out,(show Hid _ from .inl ⟨rfl,rfl,rfl⟩),⟨rfl,rfl,rfl,fun _ h=>h.elim,PtsAt.nil _ _ _⟩,hbc⟩
    case round =>
      clear c0 c1 c2 c3 c4 c5 c6 c7 l0 he0H hn hbc hxc;obtain ⟨x,e,av,pv,na,np,xa,xp,at1,ns1,Bs1,S1,rfl,x0,x1,hn,hoa,hna,hop,hnp,hel0,hstH,hmi,hbr⟩:=hrel;have hxr:=hx1.keep hbr (by omega)
      have hBw0:Below w.heap.size w wr:=hB1.trans (hbr.mono (by omega))
      have hBw:Below W.heap.size W wr:=hB.trans (hBw0.mono hB.size);have hszr:=hbr.size;have helH:Hid (P=[]->e=x8E ⟨k,p,q,v,pic⟩ g):=hel0;clear hel0
      by_cases hlt:x<(P.length:Int)
      . obtain ⟨b,o,rfl,hbl⟩:=hp0 (by intro h; subst h; simp at hlt; omega)
        obtain ⟨a1,c1',a2,c2',s',hss,hs2',e0',e1,e2,e3,e4,e5,e6,e7⟩:=part_at (i:=x.toNat) hBw hbl (hpc b o rfl) (by omega)
        have hm':s'∈P:=List.mem_of_getElem? hss;have hih':=fun w hB=>hih s' hm' w _ _ hs2' hB;have hgd':=hgd s' hm';obtain ⟨m0,m1,m2,m3,m4,m5,m6,m7,m8,mf⟩:=x1X hn;obtain ⟨l0,c0,c1,c2,c3,c4,c5,c6,c7⟩:=id hxr;have hssH:Hid (P[x.toNat]? = some s'):=hss;clear hih hgd hs2' hm' hp0 hpc hd0 hdc hss
        go_wp2_with (go_at_call 149; fail)
        refine (hih' _ (hBw.alloc hBw.size _)).mono ?_;rintro ee w2 ⟨hmo,hb⟩;have hw2:Below wr.heap.size wr w2:=y5F (Below.refl _ wr) (Nat.le_refl _) hb;have hn2:=hn.below hw2;have hoa2:=x4G hoa hw2;have hop2:=x4G hop hw2;have hx2:=hxr.below hw2;have hbr2:Below (w.heap.size+1+1) w1 w2:=hbr.trans (hw2.mono (by omega))
        have hB20:Below w.heap.size w w2:=hBw0.trans (hw2.mono hBw0.size);have hsz2:=hbr2.size;clear hih' c0 c1 c2 c3 c4 c5 c6 c7 l0 m0 m1 m2 m3 m4 m5 m6 m7 m8 mf e0' e1 e2 e3 e4 e5 e6 e7;cases hm:mpS s' with
        | none =>
          rw [hm] at hmo;obtain rfl:=hmo;have hRn:R=none:=by
            obtain ⟨hi,hse⟩:=List.getElem?_eq_some_iff.1 hssH.out;rcases hstH.out with ⟨h0, -, -⟩ | ⟨-, -, hgo⟩
            . subst h0;rw [<- hRH.out];cases P with
              | nil=>simp at hlt
              | cons p0 P0 =>
                have:p0=s':=by simpa using hse
                subst this;rw [elL,hm];rfl
            . rw [<- hgo,List.drop_eq_getElem_cons hi,hse,goL,hm];rfl
          have hEn:E=none:=by rw [<- hEH.out,mpS,hRH.out,hRn]; rfl
          subst hEn;clear hm hgd' hRH hssH hstH hRn hge;go_wp2;go_ret;exact ⟨rfl,hB20⟩
        | some n =>
          rw [hm] at hmo;obtain ⟨B,rfl,hB0,u0,u1,u2,hnd⟩:=hmo;have hgn:=hgd' n hm;have hB1':wr.heap.size<B:=by simp at hB0; omega
          obtain ⟨S2,hS2,hpt2⟩:=mp_step hmi hw2 hoa hop hB.size (by omega) hssH.out (by simp) hnd
          obtain ⟨m0,m1,m2,m3,m4,m5,m6,m7,m8,mf⟩:=x1X hn2;have hal:∀ o,Below w2.heap.size w2 (w2.alloc o):=fun o=>(Below.refl _ w2).alloc (Nat.le_refl _) o;clear hgd';have hopA:=fun o=>x4G hop2 (hal o);have hpk:∀ g,pv.ownBlock=some g->g<wr.heap.size:=fun g hg=>y3H hop hg
          go_upto_region 13 with (at_builtin; refine y9W _ rfl _ _ 131 rfl (w.heap.size+3) 128 i2 (.pointer none) 1 8 Tryz.underlying131 hi2 hz2 hs2 hy2 rfl (by decide) _ _ _ rfl (hopA _) ⟨w2.heap.size, 0,none⟩ 1 1 [.pointer (some ⟨B, 0,none⟩)] rfl rfl (cell_one_new _ _ _) (fun x hx=>by simp at hx; subst hx; rfl) (by unfold maxLen; omega) (by omega) (by simp; omega) ?_; intro v' w3 hop3 hgr3 hnn; obtain ⟨gp,capp,rfl⟩:=z2R hop3; have hgp3:=v7W (fun b hb=>(hS2 b hb).lt) (fun b hb=>(hS2 b hb).p) hnn; have hk3:=u6M (KeepS.refl S2 w2) (fun b hb=>(hS2 b hb).lt) hgr3 (fun b hb=>(hS2 b hb).p); have hn3:=z2W (hopA _) (by omega) (hn2.alloc _) hgr3; have hoa3:=y6G (by decide) (hopA _) (x4G hoa2 (hal _)) hgr3; have hb3:=y8P (hopA _) (by omega) (hbr2.alloc (by omega) _) (by simp; omega) hgr3; have v0:=y8D (hopA _) hpk (Nat.le_of_lt hB1') (((hal _).cell (World.block_lt_of_cell? _ _ u0)).trans u0) hgr3; have v1:=y8D (hopA _) hpk (Nat.le_of_lt hB1') (((hal _).cell (World.block_lt_of_cell? _ _ u1)).trans u1) hgr3; have v2:=y8D (hopA _) hpk (Nat.le_of_lt hB1') (((hal _).cell (World.block_lt_of_cell? _ _ u2)).trans u2) hgr3; obtain ⟨n0,n1,n2,n3,n4,n5,n6,n7,n8,nf⟩:=x1X hn3)
          have hneB:B≠w.heap.size+1+1:=by omega
          have hn4:=nd_ps hn3 (.slice (some ⟨gp, 0,none⟩) (np+1) capp);have hoa4:=x9F (i:= 16) (y:= .slice (some ⟨gp, 0,none⟩) (np+1) capp) hoa3 (show w.heap.size+1+1<w.heap.size+3 by omega)
          have hop4:=x9F (i:= 16) (y:= .slice (some ⟨gp, 0,none⟩) (np+1) capp) hop3 (show w.heap.size+1+1<w.heap.size+3 by omega)
          have hb4:=x4K (i:= 16) (y:= .slice (some ⟨gp, 0,none⟩) (np+1) capp) hb3 (Nat.le_refl _);have hk4:=hk3.set (p:=⟨w.heap.size+1+1, 16,none⟩) (fun h=>(hS2 _ h).n rfl) (.slice (some ⟨gp, 0,none⟩) (np+1) capp);have t0:=(x2U (j:= 16) (i:= 8) (y:= .slice (some ⟨gp, 0,none⟩) (np+1) capp) (w:=w3) hneB).trans v0;have t1:=(x2U (j:= 16) (i:= 9) (y:= .slice (some ⟨gp, 0,none⟩) (np+1) capp) (w:=w3) hneB).trans v1;have t2:=(x2U (j:= 16) (i:= 10) (y:= .slice (some ⟨gp, 0,none⟩) (np+1) capp) (w:=w3) hneB).trans v2;generalize hw4:w3.setCell ⟨w.heap.size+1+1, 16,none⟩ (.slice (some ⟨gp, 0,none⟩) (np+1) capp)=w4 at *;clear hw4 n0 n1 n2 n3 n4 n5 n6 n7 n8 nf v0 v1 v2 hn3 hoa3 hb3 m0 m1 m2 m3 m4 m5 m6 m7 m8 mf hopA hpk hgr3 hnn hop3 hn2 hoa2 hop2 hoa hop hnd hk3;have hx4:=hx1.keep hb4 (by omega)
          have hsz4:=hb4.size
          by_cases hx0:x=0
          . subst hx0;have hR1:goL (P.drop 1) n.u [0] [n]=R:=by
              obtain ⟨hi,hse⟩:=List.getElem?_eq_some_iff.1 hssH.out;rw [<- hRH.out];cases P with
              | nil=>simp at hlt
              | cons p0 P0 =>
                have:p0=s':=by simpa using hse
                subst this;rw [elL,hm];rfl
            have hR1H:Hid (goL (P.drop 1) n.u [0] [n]=R):=hR1;have hPne:Hid (P≠[]):=by
              intro h;subst h;simp at hlt
            obtain ⟨rfl,rfl⟩:at1=[]/\ns1=[]:=by
              rcases hstH.out with ⟨-, h1,h2⟩ | ⟨h, -⟩
              . exact ⟨h1,h2⟩
              . omega
            clear hm hR1 hssH hstH helH;obtain ⟨⟨ns0,nb0,na0⟩,ne0,nst0,nat0,nps0⟩:=n;simp only [Nd.u] at t0 t1 t2 hgn hR1H;obtain ⟨n0,n1,n2,n3,n4,n5,n6,n7,n8,nf⟩:=x1X hn4
            go_upto_region 15 with fail
            have hn5:=nd_el hn4 ⟨ns0,nb0,na0⟩;have hoa5:=y4S (i:= 11) (j:= 12) (l:= 13) (y0:= .int .i64 ns0) (y1:= .int .i64 nb0) (y2:= .int .i64 na0) hoa4 (show w.heap.size+1+1<w.heap.size+3 by omega)
            have hop5:=y4S (i:= 11) (j:= 12) (l:= 13) (y0:= .int .i64 ns0) (y1:= .int .i64 nb0) (y2:= .int .i64 na0) hop4 (show w.heap.size+1+1<w.heap.size+3 by omega)
            have hb5:=x7F (i:= 11) (j:= 12) (l:= 13) (y0:= .int .i64 ns0) (y1:= .int .i64 nb0) (y2:= .int .i64 na0) hb4 (Nat.le_refl _);have hk5:=((hk4.set (p:=⟨w.heap.size+1+1, 11,none⟩) (fun h=>(hS2 _ h).n rfl) (.int .i64 ns0)).set (p:=⟨w.heap.size+1+1, 12,none⟩) (fun h=>(hS2 _ h).n rfl) (.int .i64 nb0)).set (p:=⟨w.heap.size+1+1, 13,none⟩) (fun h=>(hS2 _ h).n rfl) (.int .i64 na0);simp only at hn5 hoa5 hop5 hb5 hk5;generalize hw5:((w4.setCell ⟨w.heap.size+1+1, 11,none⟩ (.int .i64 ns0)).setCell ⟨w.heap.size+1+1, 12,none⟩ (.int .i64 nb0)).setCell ⟨w.heap.size+1+1, 13,none⟩ (.int .i64 na0)=w5 at *;clear hw5 n0 n1 n2 n3 n4 n5 n6 n7 n8 nf hn4 hoa4 hop4 hb4 hk4;have hsz5:=hb5.size;obtain ⟨n0,n1,n2,n3,n4,n5,n6,n7,n8,nf⟩:=x1X hn5;have hal5:∀ o,Below w5.heap.size w5 (w5.alloc o):=fun o=>(Below.refl _ w5).alloc (Nat.le_refl _) o;have hoaA:=fun o=>x4G hoa5 (hal5 o)
            go_wp2_with (at_builtin; refine y9W _ rfl _ _ 32 rfl (w.heap.size+3) 3 i1 (.int .i64 0) 1 8 Tryz.underlying32 hi1 hz1 hs1 hy1 rfl (by decide) _ _ _ rfl (hoaA _) ⟨w5.heap.size, 0,none⟩ 1 1 [.int .i64 0] rfl rfl (cell_one_new _ _ _) (fun x hx=>by simp at hx; subst hx; rfl) (by unfold maxLen; omega) (by omega) (by simp; omega) ?_; intro v' w6 hoa6 hgr6 hnn6; obtain ⟨ga,capa,rfl⟩:=z2R hoa6; have hga6:=v7W (fun b hb=>Nat.lt_of_lt_of_le (hS2 b hb).lt hk5.1) (fun b hb=>(hS2 b hb).a) hnn6; have hk6:=u6M hk5 (fun b hb=>Nat.lt_of_lt_of_le (hS2 b hb).lt hk5.1) hgr6 (fun b hb=>(hS2 b hb).a); have hn6:=z2W (hoaA _) (by omega) (hn5.alloc _) hgr6; have hop6:=y6G (by decide) (hoaA _) (x4G hop5 (hal5 _)) hgr6; have hb6:=y8P (hoaA _) (by omega) (hb5.alloc (by omega) _) (by simp; omega) hgr6; obtain ⟨q0,q1,q2,q3,q4,q5,q6,q7,q8,qf⟩:=x1X hn6)
            go_roundw
            case rel=>exact ⟨_,⟨ns0,nb0,na0⟩,_,_,_,_,_,_,[]++[0],[]++[⟨⟨ns0,nb0,na0⟩,ne0,nst0,nat0,nps0⟩],Bs1++[B],S2,rfl,by omega,by omega,nd_at hn6 _,x9F hoa6 (by omega),by omega,x9F hop6 (by omega),by omega,fun h=>absurd h hPne.out,(show Hid _ from .inr ⟨by omega,hgn,by have h1:=hR1H.out; simpa using h1⟩),u6F hmi hS2 hpt2 (hk6.set (p:=⟨w.heap.size+1+1, 15,none⟩) (fun h=>(hS2 _ h).n rfl) _) hga6 hgp3 rfl,x4K hb6 (Nat.le_refl _)⟩
            case measure=>simp [intOf]; omega
          . have hst2:=hstH.out.resolve_left (fun h=>hx0 h.1);obtain ⟨-, hgu,hgo⟩:=hst2;have hR2:R=if 524288<(x1Q e n.u).b then none else goL (P.drop (x.toNat+1)) (x1Q e n.u) (at1++[e.b+gapU e n.u]) (ns1++[n]):=by
              obtain ⟨hi,hse⟩:=List.getElem?_eq_some_iff.1 hssH.out;rw [<- hgo,List.drop_eq_getElem_cons hi,hse,goL,hm];rfl
            have hPne:Hid (P≠[]):=by
              intro h;have hl:P.length=0:=by rw [h]; rfl
              omega
            have hjj:=fun w=>join_un e n.u w hgu hgn;have hgp:=u6Y hgu hgn;have hjb:(x1Q e n.u).b=e.b+gapU e n.u+n.u.b:=rfl;have hjg:(x1Q e n.u).b <= 524288->x2B (x1Q e n.u):=x8Q hgu hgn;have hb1':=hgu.2.2.2;have hb2':=hgn.2.2.2;have hEn:(x1Q e n.u).b <= 524288\/E=none:=by
              rcases Int.lt_or_le 524288 (x1Q e n.u).b with h | h
              . rw [if_pos h] at hR2;exact .inr (by rw [<- hEH.out,mpS,hRH.out,hR2]; rfl)
              . exact .inl h
            generalize x1Q e n.u=J at *;generalize gapU e n.u=G at *;obtain ⟨js0,jb,ja0⟩:=J;simp only at hjb hR2 hjg hEn;have hRJ:Hid (R=if 524288<jb then none else goL (P.drop (x.toNat+1)) ⟨js0,jb,ja0⟩ (at1++[e.b+G]) (ns1++[n])):=hR2
            have hjgH:Hid (jb <= 524288->x2B ⟨js0,jb,ja0⟩):=hjg;have hEnH:Hid (jb <= 524288\/E=none):=hEn;have hjb2:0 <= jb/\jb <= 2000000:=by omega
            obtain ⟨es,eb,ea⟩:=e;obtain ⟨⟨ns0,nb0,na0⟩,ne0,nst0,nat0,nps0⟩:=n;simp only [Nd.u] at t0 t1 t2 hgn hjj hb1' hb2' hjb;clear hR2 hjg hEn hgo hssH hstH helH hm hjb;have hjj':∀ w,Calls Tryz.prog 101 #[.agg #[.int .i64 es, .int .i64 eb, .int .i64 ea], .agg #[.int .i64 ns0, .int .i64 nb0, .int .i64 na0]] w fun e w'=>e = .returned (.tuple #[.agg #[.int .i64 js0, .int .i64 jb, .int .i64 ja0], .int .i64 G])/\Below w.heap.size w w':=hjj;clear hjj;obtain ⟨n0,n1,n2,n3,n4,n5,n6,n7,n8,nf⟩:=x1X hn4;simp only at n3 n4 n5;have hlB:=World.block_lt_of_cell? _ _ t0;have hlN:=hn4.lt;simp only at hlB
            go_upto_region 16 with fail
            have hd4:Below w4.heap.size w4 w4.drew:=(Below.refl _ _).drew
            go_cut [7, 8] (fun v7 v8 wc=> ∃ B7,v7 = .pointer (some ⟨B7, 0,none⟩)/\v8 = .int .i64 G/\UBox wc B7 (.int .i64 js0) (.int .i64 jb) (.int .i64 ja0)/\w4.heap.size <= B7/\Below w4.heap.size w4 wc)
            case first =>
              go_region_with (first
                | (go_at_call 101; refine (hjj' w4.drew).mono ?_; rintro ee w5 ⟨rfl,hbb⟩; have hb5:Below w4.heap.size w4 w5:=hd4.trans hbb; have hs5:=hb5.size)
                | (go_at_call 101; refine (hjj' (w4.alloc _).drew).mono ?_; rintro ee w5 ⟨rfl,hbb⟩; have hb5:Below w4.heap.size w4 w5:=z8W (Below.refl _ w4) (Nat.le_refl _) hbb; have hs5:=hb5.size; have hgu5:UBox w5 w4.heap.size _ _ _:=UBox.topd hbb; obtain ⟨z0,z1,z2,z3,z4,z5,z6⟩:=id hgu5))
              all_goals
                go_wp2_with fail
                go_meet
                case rel =>
                  first
                    | exact ⟨_,rfl,rfl,UBox.here w5 _ _ _ 42,hs5,hb5.alloc hs5 _⟩
                    | exact ⟨_,rfl,rfl,hgu5.set3 _ _ _,Nat.le_refl _,x1V hb5 (Nat.le_refl _)⟩
            case rest =>
              obtain ⟨B7,rfl,rfl,hu7,hB7,hbc⟩:=hcut;have hk7:∀ g,av.ownBlock=some g->g<w4.heap.size:=fun g hg=>y3H hoa4 hg;have hnc:=hn4.below hbc;have hoac:=x4G hoa4 hbc;have hopc:=x4G hop4 hbc;have hkc:=hk4.trans (KeepS.below hbc (fun b hb=>Nat.lt_of_lt_of_le (hS2 b hb).lt hk4.1));have hb7:Below (w.heap.size+1+1) w1 wc:=hb4.trans (hbc.mono (by omega))
              have hszc:=hbc.size;clear n0 n1 n2 n3 n4 n5 n6 n7 n8 nf t0 t1 t2 hn4 hoa4 hop4 hd4 hjj';obtain ⟨n0,n1,n2,n3,n4,n5,n6,n7,n8,nf⟩:=x1X hnc;simp only at n3 n4 n5;have hN7:¬ w.heap.size+1+1=B7:=by omega
              have hal7:∀ o,Below wc.heap.size wc (wc.alloc o):=fun o=>(Below.refl _ wc).alloc (Nat.le_refl _) o;obtain ⟨aa,acap,rfl⟩:=y6H hoac;have hwrap:IntKind.i64.wrap (eb+G)=eb+G:=w64i (by omega)
              have hlNc:=hnc.lt
              go_upto_region 17 with fail
              go_cut [] (fun wd=> ∃ av',NB wd (w.heap.size+1+1) (ndC (.slice da D.length dcap) (.slice (some ⟨b,o,none⟩) P.length pcap) ⟨k,p,q,v,pic⟩ g ⟨0, 0, 0⟩ ⟨es,eb,ea⟩ (.slice (some ⟨w.heap.size+1, 0,none⟩) D.length D.length) av' (.slice (some ⟨gp, 0,none⟩) (np+1) capp)) 133/\wd.ownsRow (w.heap.size+3) 3 1 av' (na+1) (xa++[.int .i64 (eb+G)])/\wd.ownsRow (w.heap.size+3) 128 1 (.slice (some ⟨gp, 0,none⟩) (np+1) capp) (np+1) (xp++[.pointer (some ⟨B, 0,none⟩)])/\UBox wd B7 (.int .i64 js0) (.int .i64 jb) (.int .i64 ja0)/\Below (w.heap.size+1+1) w1 wd/\KeepS S2 w2 wd/\(∀ b,S2 b->av'.ownBlock≠some b))
              case first =>
                go_region_law (first | (refine y0R _ rfl (.tmp 102) (.tmp 110) 32 rfl (w.heap.size+3) 3 i1 (.int .i64 0) 1 8 Tryz.underlying32 hi1 hz1 hs1 hy1 rfl (by decide) (.slice aa na acap) na xa (by simp [Act.eval,Act.put]) (x4G hoac (hal7 _).drew) ⟨wc.heap.size, 0,none⟩ 1 1 [.int .i64 (eb+G)] (by simp [Act.eval,Act.put]) rfl (fun j u hu=>cell_one_new wc (.int .i64 (eb+G)) 3 j u hu) (fun x hx=>by simp at hx; subst hx; rfl) (by unfold maxLen; omega) (by omega) (by simp; omega) ?_; intro v' w6 hoa6 hgr6 hnn6; obtain ⟨ga,capa,rfl⟩:=z2R hoa6; have hga6:=app_ned (fun b hb=>Nat.lt_of_lt_of_le (hS2 b hb).lt hkc.1) (fun b hb=>(hS2 b hb).a) hnn6; have hk6:=v5K hkc (fun b hb=>Nat.lt_of_lt_of_le (hS2 b hb).lt hkc.1) hgr6 (fun b hb=>(hS2 b hb).a); have hn6:=z2W (x4G hoac (hal7 _).drew) (by omega) (hnc.below (hal7 _).drew) hgr6; have hop6:=y6G (by decide) (x4G hoac (hal7 _).drew) (x4G hopc (hal7 _).drew) hgr6; have hb6:=y8P (x4G hoac (hal7 _).drew) (by omega) (hb7.trans ((hal7 _).drew.mono (by omega))) (by simp; omega) hgr6; have hu6:=u8Q hk7 hB7 (hu7.below (hal7 _).drew) hgr6; obtain ⟨q0,q1,q2,q3,q4,q5,q6,q7,q8,qf⟩:=x1X hn6))
                all_goals
                  go_wp2_with fail
                  go_meet
                  case rel=>exact ⟨_,nd_at hn6 _,x9F hoa6 (by omega),x9F hop6 (by omega),hu6.other (by omega),x4K hb6 (Nat.le_refl _),hk6.set (p:=⟨w.heap.size+1+1, 15,none⟩) (fun h=>(hS2 _ h).n rfl) _,hga6⟩
              case rest =>
                obtain ⟨av',hnd,hoad,hopd,hud,hbd,hkd,hgad⟩:=hcut;clear n0 n1 n2 n3 n4 n5 n6 n7 n8 nf hnc hoac hopc hb7;obtain ⟨n0,n1,n2,n3,n4,n5,n6,n7,n8,nf⟩:=x1X hnd;obtain ⟨v0,v1,v2,v3,v4,v5,v6⟩:=id hud;simp only at n3 n4 n5;have hB20d:Below w.heap.size w wc:=hB1.trans (hbd.mono (by omega))
                have hne7:¬ B7=w.heap.size+1+1:=by omega
                by_cases hbig:524288<jb
                . obtain rfl:E=none:=hEnH.out.resolve_left (by omega)
                  clear hRJ hjgH hEnH hge hRH;go_wp2;go_ret;exact ⟨rfl,x7F hB20d (by omega)⟩
                . have hR3:=hRJ.out;rw [if_neg hbig] at hR3;have hR3H:Hid (R=goL (P.drop (x.toNat+1)) ⟨js0,jb,ja0⟩ (at1++[eb+G]) (ns1++[⟨⟨ns0,nb0,na0⟩,ne0,nst0,nat0,nps0⟩])):=hR3;clear hR3 hRJ hEnH hge hRH;go_wp2
                  go_roundw
                  case rel=>exact ⟨_,⟨js0,jb,ja0⟩,_,_,_,_,_,_,at1++[eb+G],ns1++[⟨⟨ns0,nb0,na0⟩,ne0,nst0,nat0,nps0⟩],Bs1++[B],S2,rfl,by omega,by omega,nd_el hnd ⟨js0,jb,ja0⟩,y4S hoad (by omega),by omega,y4S hopd (by omega),by omega,fun h=>absurd h hPne.out,(show Hid _ from .inr ⟨by omega,hjgH.out (by omega),by rw [show (x+1).toNat=x.toNat+1 by omega]; exact hR3H.out.symm⟩),u6F hmi hS2 hpt2 (((hkd.set (p:=⟨w.heap.size+1+1, 11,none⟩) (fun h=>(hS2 _ h).n rfl) _).set (p:=⟨w.heap.size+1+1, 12,none⟩) (fun h=>(hS2 _ h).n rfl) _).set (p:=⟨w.heap.size+1+1, 13,none⟩) (fun h=>(hS2 _ h).n rfl) _) hgad hgp3 (by omega),x7F hbd (Nat.le_refl _)⟩
                  case measure=>simp [intOf]; omega
      . have hxe:x=P.length:=by omega
        subst hxe;obtain rfl:R=some (e,at1,ns1):=by
          rcases hstH.out with ⟨h0,h1,h2⟩ | ⟨-, -, hgo⟩
          . have hPn:P=[]:=List.eq_nil_of_length_eq_zero (by omega)
            have h3:=hRH.out;rw [hPn,elL] at h3;rw [helH.out hPn,h1,h2];exact h3.symm
          . rw [show ((P.length:Int)).toNat=P.length by omega,List.drop_length,goL] at hgo
            exact hgo.symm
        have hgu:=hge e at1 ns1 rfl;have hkr:=KeepS.refl (fun b=>b<wr.heap.size/\b≠w.heap.size+1+1/\b≠w.heap.size+1) wr;have hmi2:=fun wf l u0 e0 hkp hnb hrw hl hBW=>mp_fin (l:=l) (wf:=wf) (u:=u0) (e:=e0) (t:=⟨k,p,q,v,pic⟩) (g:=g) (pa:=pa) (pcap:=pcap) hmi (by omega) hB.size hBW hD hoa hop (by omega) hkp hnb hrw hl
        obtain ⟨es,eb,ea⟩:=e;have ha1:=x3H hgu.1;have hb1:=hgu.2.2.2;simp only at ha1 hb1;have hup:=z5M (n:=eb) ha1.1;have hES:E=(Shp.stR D.reverse (str0 ⟨es,eb,ea⟩) eb []).map fun y=> .mk ⟨es,y.1,ea⟩ ⟨es,eb,ea⟩ y.2 at1 ns1:=by
          rw [<- hEH.out,mpS,hRH.out];rfl
        generalize hS:Shp.stR D.reverse (str0 ⟨es,eb,ea⟩) eb []=S at hES;have hSH:Hid (Shp.stR D.reverse (str0 ⟨es,eb,ea⟩) eb []=S):=hS;have hESH:Hid (E=S.map fun y=> .mk ⟨es,y.1,ea⟩ ⟨es,eb,ea⟩ y.2 at1 ns1):=hES;have hstr:wr.rowIs (w.heap.size+1) 3 D.length (stC D.length []):=hst1.of_block (hbr.block _ (by omega))
        have hns:=hn.lt;obtain ⟨aa,acap,rfl⟩:=y6H hoa;obtain ⟨pp,pcp,rfl⟩:=y6H hop;have hmi3:=hmi2;clear hS hES hEH hRH hge hstH helH hih hgd hp0 hpc hoa hop hnp hna hst1 hn1 hd0 hdc hmi hmi2 hi1 hz1 hs1 hy1 hi2 hz2 hs2 hy2;obtain ⟨m0,m1,m2,m3,m4,m5,m6,m7,m8,mf⟩:=x1X hn;obtain ⟨l0,c0,c1,c2,c3,c4,c5,c6,c7⟩:=id hxr;simp only at m3 m4 m5;have hbig0:¬ 524288<eb:=by omega
        go_upto_region 25 with fail
        have hn5:=nd_un hn ⟨es,eb,ea⟩;have hb5:=x7F (i:= 8) (j:= 9) (l:= 10) (y0:= .int .i64 es) (y1:= .int .i64 eb) (y2:= .int .i64 ea) hbr (Nat.le_refl _);have hk5:=((hkr.set (p:=⟨w.heap.size+1+1, 8,none⟩) (fun h=>h.2.1 rfl) (.int .i64 es)).set (p:=⟨w.heap.size+1+1, 9,none⟩) (fun h=>h.2.1 rfl) (.int .i64 eb)).set (p:=⟨w.heap.size+1+1, 10,none⟩) (fun h=>h.2.1 rfl) (.int .i64 ea);simp only at hn5 hb5 hk5;have hstr5:((((wr.setCell ⟨w.heap.size+1+1, 8,none⟩ (.int .i64 es)).setCell ⟨w.heap.size+1+1, 9,none⟩ (.int .i64 eb)).setCell ⟨w.heap.size+1+1, 10,none⟩ (.int .i64 ea))).rowIs (w.heap.size+1) 3 D.length (stC D.length []):=((hstr.setOther (by simp only; omega) _).setOther (by simp only; omega) _).setOther (by simp only; omega) _
        generalize hw5:((wr.setCell ⟨w.heap.size+1+1, 8,none⟩ (.int .i64 es)).setCell ⟨w.heap.size+1+1, 9,none⟩ (.int .i64 eb)).setCell ⟨w.heap.size+1+1, 10,none⟩ (.int .i64 ea)=w5 at *;clear hw5 m0 m1 m2 m3 m4 m5 m6 m7 m8 mf c0 c1 c2 c3 c4 c5 c6 c7 l0 hn hstr;obtain ⟨m0,m1,m2,m3,m4,m5,m6,m7,m8,mf⟩:=x1X hn5;simp only at m0 m1 m2 m3 m4 m5;have hx5:=hx1.keep hb5 (by omega)
        obtain ⟨l0,c0,c1,c2,c3,c4,c5,c6,c7⟩:=id hx5
        go_quiet (first | (go_at_call 93; exact Calls.quiet_of_same (up_any _ _ _ ha1 (by omega))))
        go_wp2;have hn6:NB (w5.drewN nq) (w.heap.size+1+1) _ 133:=hn5
        have hb6:=x9S hb5 nq;have hstr6:=u5L hstr5 nq;have hk6:KeepS (fun b=>b<wr.heap.size/\b≠w.heap.size+1+1/\b≠w.heap.size+1) wr (w5.drewN nq):=hk5;have hm1:1 <= max (upS eb ea) ea/\max (upS eb ea) ea <= 1048576:=by omega
        have hmx:Hid (max (upS eb ea) ea=str0 ⟨es,eb,ea⟩):=by show max (upS eb ea) ea=max ea (upS eb ea); omega
        have hb6':Below (w.heap.size+1) w1 (w5.drewN nq):=hb6.mono (by omega)
        have hsz6:(w5.drewN nq).heap.size=w5.heap.size:=rfl;have hsz5:=hb5.size;generalize hw6:w5.drewN nq=w6 at *;clear hw6 hn5 hb5 hstr5 hx5 hb6 hk5 hkr;have hwrH:∃ T:Nat->Prop,T=(fun b=>b<wr.heap.size/\b≠w.heap.size+1+1/\b≠w.heap.size+1):=⟨_,rfl⟩;obtain ⟨T,hT⟩:=hwrH;have hTn:¬ T (w.heap.size+1+1):=by rw [hT]; exact fun h=>h.2.1 rfl
        have hTs:¬ T (w.heap.size+1):=by rw [hT]; exact fun h=>h.2.2 rfl
        rw [<- hT] at hk6;have hTH:Hid (T=(fun b=>b<wr.heap.size/\b≠w.heap.size+1+1/\b≠w.heap.size+1)):=hT;clear hT;clear m0 m1 m2 m3 m4 m5 m6 m7 m8 mf c0 c1 c2 c3 c4 c5 c6 c7 l0
        go_loopw [9, 10] (fun v9 v10 wr2=> ∃ (nx all x:Int) (l:List Int),v9 = .int .i64 nx/\v10 = .int .i64 x/\-1 <= x/\x<D.length/\1 <= nx/\nx <= 1048576/\0 <= all/\all <= 524288/\Shp.stR (D.take (x+1).toNat).reverse nx all l=S/\l.length=D.length-(x+1).toNat/\wr2.rowIs (w.heap.size+1) 3 D.length (stC (x+1).toNat l)/\NB wr2 (w.heap.size+1+1) (ndC (.slice da D.length dcap) (.slice pa P.length pcap) ⟨k,p,q,v,pic⟩ g ⟨es,all,ea⟩ ⟨es,eb,ea⟩ (.slice (some ⟨w.heap.size+1, 0,none⟩) D.length D.length) (.slice aa na acap) (.slice pp np pcp)) 133/\KeepS T wr wr2/\Below (w.heap.size+1) w1 wr2) (fun _ v10 _=>(intOf v10+1).toNat)
        case atStart =>
          refine ⟨_,eb,_,[],rfl,rfl,by omega,by omega,hm1.1,hm1.2,by omega,by omega, ?_,by simp, ?_,hn6,hk6,hb6'⟩
          . rw [show ((D.length:Int)-1+1).toNat=D.length by omega,List.take_length,hmx.out]
            exact hSH.out
          . rw [show ((D.length:Int)-1+1).toNat=D.length by omega]
            exact hstr6
        case round =>
          obtain ⟨nx,all,x,l,rfl,rfl,x0',x1',n0,n1,a0,a1,hst,hll,hrw,hnr,hkr,hBr⟩:=hrel;have hxr2:=hx1.keep hBr (by omega)
          obtain ⟨l0,c0,c1,c2,c3,c4,c5,c6,c7⟩:=id hxr2;obtain ⟨m0,m1,m2,m3,m4,m5,m6,m7,m8,mf⟩:=x1X hnr;simp only at m0 m1 m2 m3 m4 m5;have hBw2:Below w.heap.size w wr:=hB1.trans (hBr.mono (by omega))
          have hstH2:Hid (Shp.stR (D.take (x+1).toNat).reverse nx all l=S):=hst;clear hst
          by_cases hneg:x<0
          . have:x=-1:=by omega
            subst this;have hR2:S=some (all,l):=by rw [<- hstH2.out]; rfl
            subst hR2;have hEe:=hESH.out;simp only [Option.map_some] at hEe;clear hstH2 hSH hESH hmx;subst hEe;go_wp2;go_ret;exact ⟨⟨_,rfl,by omega,m0,m1,m2,hmi3 _ _ _ _ (by rw [<- hTH.out]; exact hkr) hnr (by simpa using hrw) (by simpa using hll) (hB.trans (hBw2.mono hB.size))⟩,hBw2⟩
          . obtain ⟨b,o,cap,d,hv,hbk,hdi,e0,e1⟩:=z8J (i:=x.toNat) (hB.trans (hBw2.mono hB.size)) hD (by omega)
            obtain ⟨lo,hi⟩:=d;cases hv;have hdl:=x5R hd _ (List.mem_of_getElem? hdi);simp only at hdl e0 e1;have hst2:=hstH2.out;rw [show (x+1).toNat=x.toNat+1 by omega,u4Z hdi,Shp.stR] at hst2
            simp only at hst2;obtain ⟨n,hn⟩:∃ n,hi-lo+1=n:=⟨_,rfl⟩;have hn1':hi-lo=n-1:=by omega
            rw [hn1',show n-1+1=n by omega] at hst2
            have hm:=z9X (n:=n-1) (by omega) (by omega) n0 n1
            have hcell:=hrw.cell (i:=x.toNat) (by omega)
            have hfz:=hrw.frozen x.toNat;generalize hpr:(n-1)*nx=pr at *;have hnx:=z2D (n:=n) (by omega) n0 n1
            rw [hpr] at hnx;have hnxH:Hid (pr <= 524288->1 <= nx*n/\nx*n <= 1048576):=hnx;have hst2H:Hid ((if 524288<all+pr then none else Shp.stR (D.take x.toNat).reverse (nx*n) (all+pr) (nx::l))=S):=hst2
            have hne1:¬ w.heap.size+1=w.heap.size:=by omega
            have hdbl:b<w.heap.size:=Nat.lt_of_lt_of_le hbk hB.size;have hnb1:¬ b=w.heap.size+1:=by omega
            clear hst2 hstH2 hdi hSH hn1' hnx hmx;go_wp2
            go_quiet (fail)
            have hrw2:=u5L (hrw.set x.toNat (.int .i64 nx)) nq;have hnr2:NB ((wr.setCell ⟨w.heap.size+1,x.toNat,none⟩ (.int .i64 nx)).drewN nq) (w.heap.size+1+1) _ 133:=hnr.other (a:=⟨w.heap.size+1,x.toNat,none⟩) (by simp only; omega) (.int .i64 nx)
            have hkr2:KeepS T _ ((wr.setCell ⟨w.heap.size+1,x.toNat,none⟩ (.int .i64 nx)).drewN nq):=hkr.set (p:=⟨w.heap.size+1,x.toNat,none⟩) hTs (.int .i64 nx);have hBr2:Below (w.heap.size+1) w1 ((wr.setCell ⟨w.heap.size+1,x.toNat,none⟩ (.int .i64 nx)).drewN nq):=x9S (x4K hBr (Nat.le_refl _)) nq;generalize hw7:(wr.setCell ⟨w.heap.size+1,x.toNat,none⟩ (.int .i64 nx)).drewN nq=w7 at *;clear hw7 m0 m1 m2 m3 m4 m5 m6 m7 m8 mf c0 c1 c2 c3 c4 c5 c6 c7 l0 hnr hrw;obtain ⟨m0,m1,m2,m3,m4,m5,m6,m7,m8,mf⟩:=x1X hnr2;simp only at m0 m1 m2 m3 m4 m5;have hBw7:Below w.heap.size w w7:=hB1.trans (hBr2.mono (by omega))
            by_cases hbig:524288<all+pr
            . have hSn:S=none := by
                have:=hst2H.out
                rw [if_pos hbig] at this;exact this.symm
              subst hSn;have hEe:=hESH.out;simp only [Option.map_none] at hEe;clear hst2H hnxH hESH;subst hEe;go_wp2;go_ret;exact ⟨rfl,x4K hBw7 (by omega)⟩
            . have hst3:=hst2H.out;rw [if_neg hbig] at hst3;have hn9:=hnxH.out (by omega)
              have hst3H:Hid (Shp.stR (D.take x.toNat).reverse (nx*n) (all+pr) (nx::l)=S):=hst3;clear hst2H hst3 hnxH;go_wp2
              go_roundw
              case rel =>
                refine ⟨_,all+pr,_,nx::l,rfl,rfl,by omega,by omega,hn9.1,hn9.2,by omega,by omega, ?_, ?_, ?_,nd_ub hnr2 (all+pr),hkr2.set (p:=⟨w.heap.size+1+1, 9,none⟩) hTn _,x4K hBr2 (by omega)⟩
                . rw [show x-1+1=x by omega]
                  exact hst3H.out
                . rw [show x-1+1=x by omega,List.length_cons,hll]
                  omega
                . rw [show x-1+1=x by omega]
                  exact (hrw2.setOther (by simp only; omega) _).congr fun i hi=>by
                    rw [show (x+1).toNat=x.toNat+1 by omega]
                    exact u5A i
              case measure=>simp [intOf]; omega
end Go.Proofs
