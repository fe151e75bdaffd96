/-
  LayoutAligned, walked.
-/
import Derived.Test.YtadehgdfijjikaaGreatDoorS11
import Derived.Test.YtadehgdfijjikaaGreatDoorS12
import Derived.Test.YtadehgdfijjikaaGreatDoorZ9
import Derived.Test.YtadehgdfijjikaaGreatDoorY12
import Derived.Test.YtadehgdfijjikaaGreatDoorT2
set_option linter.all false
namespace Go.Proofs
open Go.RowKit Go.Yec Go.Shp Go.Deep
open Go.Xec (Glob)
def alnQ (s:Sh) (us ua:Int) (x:Pl):Prop:= ∃ (l:Sh) (A:Int),prtS s x.path=some l/\okS l/\x.t=l.t/\A=cond (decide (l.t.k=4)&&!l.g) 8 (alS l.t.k l.t.p l.t.q l.t.v l.t.pic.data.toList)/\1 <= A/\A <= 64/\A∣ua/\A∣x.off/\(∀ z∈x.st,A∣z.2.2/\y4C z)/\x.path.length <= 99/\x.st.length <= 700/\us <= x.off/\x.off <= 200000000
theorem u4A {s:Sh} (hc:chk s=0) (hok:okS s) (hct:scnt s <= 60):∃ us ub ua X,mapR s=(⟨us,ub,ua⟩, 0)/\plsR s=(X, 0)/\1 <= ua/\ua <= 64/\0 <= us/\us <= 64/\X.length <= 60/\X.Pairwise (fun x y=>x.off <= y.off)/\∀ x∈X,alnQ s us ua x:=by
  obtain ⟨hv,n,hm,hmr⟩:=chk_some hc;have hg:=x6P s 0 1 hv n hm;have ha:=x3H hg.1;obtain ⟨o1,o2⟩:=lvS_off s n 0 1 [] n.u.s [] hv hm;refine ⟨n.u.s,n.u.b,n.u.a,lvS s n [] n.u.s [],hmr, ?_,by omega,by omega,hg.2.1,by have:=hg.2.2.1; omega, ?_,o2,fun x hx=> ?_⟩
  . unfold plsR;rw [hv,hm];rfl
  . have:=v5B s n [] n.u.s []
    omega
  . obtain ⟨l,h1,h2,h3,h4,h5,h6,h7,h8⟩:=lvS_aln hv hm x hx;obtain ⟨h9,s',n', -, hf,hxp⟩:=lvS_fnd hv hm x hx;have e2:=fndR_at hv hm hf;obtain ⟨-, -, -, -, -, -, -, -, -, f1,f2⟩:=fndR_ok (s:=s) (path:=x.path) (by rw [e2]) (by omega)
    rw [e2] at f1 f2;have hal:=x3H h5;exact ⟨l,(x8E l.t l.g).a,h1,(prt_ok _ _ hok h1).1,h4,rfl,by omega,by omega,h6,h7,h8,h9,f2,(o1 x hx).1,f1⟩
theorem PlsS.at {w:World} {v:Value} {L:List Pl} (h:v7Z w v L) {i:Nat} (hi:i<L.length):∃ b o cap p pa pc sa sc,v = .slice (some ⟨b,o,none⟩) L.length cap/\b<w.heap.size/\L[i]? = some p/\w.cell? ⟨b,o+i*9,none⟩=some (.slice pa p.path.length pc)/\w.cell? ⟨b,o+i*9+1,none⟩=some (.int .i64 p.off)/\w.cell? ⟨b,o+i*9+2,none⟩=some (.slice sa p.st.length sc)/\w.cell? ⟨b,o+i*9+3,none⟩=some (.int .i64 p.b) /\
    w.cell? ⟨b,o+i*9+4,none⟩=some (.int .i64 p.t.k)/\w.cell? ⟨b,o+i*9+5,none⟩=some (.int .i64 p.t.p)/\w.cell? ⟨b,o+i*9+6,none⟩=some (.int .i64 p.t.q)/\w.cell? ⟨b,o+i*9+7,none⟩=some (.bool p.t.v)/\w.cell? ⟨b,o+i*9+8,none⟩=some (.string p.t.pic)/\IntsAt w (.slice pa p.path.length pc) p.path/\x8Y w (.slice sa p.st.length sc) p.st:=by
  obtain ⟨a,cap,rfl,hle,h0,hx⟩:=h;obtain ⟨b,o,rfl,hb⟩:=h0 (by rintro rfl; simp at hi)
  obtain ⟨pv,sv,h1,h2,h3⟩:=hx b o rfl i L[i] (List.getElem?_eq_getElem hi);obtain ⟨pa,pc,rfl⟩:∃ a c,pv = .slice a L[i].path.length c:=by obtain ⟨a,c,h, -⟩:=h2; exact ⟨a,c,h⟩
  obtain ⟨sa,sc,rfl⟩:=h3.form;exact ⟨b,o,cap,L[i],pa,pc,sa,sc,rfl,hb,List.getElem?_eq_getElem hi,h1 0 (by omega),h1 1 (by omega),h1 2 (by omega),h1 3 (by omega),h1 4 (by omega),h1 5 (by omega),h1 6 (by omega),h1 7 (by omega),h1 8 (by omega),z7A h2,h3⟩
theorem PlsS.form {S:Nat->Prop} {w:World} {v:Value} {L:List Pl} (h:PlsS S w v L):∃ a cap,v = .slice a L.length cap:=by
  obtain ⟨a,cap,rfl, -⟩:=h;exact ⟨a,cap,rfl⟩
set_option maxRecDepth 100000 in
set_option maxHeartbeats 8000000 in
theorem u3Z (s:Sh) (dv pv:Value) (w:World) (hg:Glob w) (hs:ShAt w dv pv s) :
    Calls Tryz.prog 4 #[shV dv pv s.t s.g] w fun e w'=>e = .returned (.bool true)/\Below w.heap.size w w':=by
  have hs0:=hs;obtain ⟨a1,c1,a2,c2,rfl,rfl⟩:=hs.slices;go_enter Tryz.func4,Tryz.ntmps4
  go_wp2_with (go_at_call 14; fail)
  have hx1:=ShBox.here w (.slice a1 s.D.length c1) (.slice a2 s.P.length c2) s.t s.g;generalize hw1:w.alloc (.cells #[.slice a1 s.D.length c1, .slice a2 s.P.length c2, .int .i64 s.t.k, .int .i64 s.t.p, .int .i64 s.t.q, .bool s.t.v, .string s.t.pic, .bool s.g] 27)=w1 at hx1 |-
  have hB1:Below w.heap.size w w1:=by
    rw [<- hw1];exact (Below.refl _ w).alloc (Nat.le_refl _) _
  clear hw1;refine (u5H _ (x0Y hB1 hg)).mono ?_;rintro e w2 ⟨rfl,hb⟩;have hx2:=hx1.below hb;have hB2:=hB1.trans (hb.mono hB1.size);have hsz2:=hB2.size;clear hb hx1 hB1;obtain ⟨x0,k0,k1,k2,k3,k4,k5,k6,k7⟩:=id hx2;have hf:=fun w1 (hB:Below w.heap.size w w1)=>few_any s w1 _ _ 60 (u8T hB hs) (by omega) (by omega)
  go_wp2_with (go_at_call 15; fail)
  refine (hf _ hB2).mono ?_;rintro e w3 ⟨⟨fw,rfl,hfw⟩,hb⟩;have hx3:=hx2.below hb;have hB3:=hB2.trans (hb.mono hB2.size);have hsz3:=hB3.size;clear hb hx2 hB2 hf k0 k1 k2 k3 k4 k5 k6 k7 x0;obtain ⟨x0,k0,k1,k2,k3,k4,k5,k6,k7⟩:=id hx3;cases fw
  . clear hfw;go_wp2;go_ret;exact ⟨rfl,hB3⟩
  obtain ⟨hok,hct⟩:=hfw rfl;clear hfw;have hrc:=fun w1 hB=>z5Y s w w1 _ _ hg hs hB hok (by omega)
  have hmp:=fun w1 hB=>u8Z s w w1 _ _ hg hs hB hok (by omega)
  have hpl:=fun w1 hB=>z2S s w w1 _ _ hg hs hB hok (by omega)
  obtain ⟨C,hC⟩:∃ C,chk s=C:=⟨_,rfl⟩;rw [hC] at hrc
  go_wp2_with (go_at_call 23; fail)
  refine (hrc _ hB3).mono ?_;rintro e w4 ⟨rfl,hb⟩;have hx4:=hx3.below hb;have hB4:=hB3.trans (hb.mono hB3.size);have hsz4:=hB4.size;clear hb hx3 hB3 hrc k0 k1 k2 k3 k4 k5 k6 k7 x0;obtain ⟨x0,k0,k1,k2,k3,k4,k5,k6,k7⟩:=id hx4
  by_cases hC0:C=0
  case neg =>
    clear hmp hpl;go_wp2;go_ret;exact ⟨rfl,hB4⟩
  subst hC0;obtain ⟨us,ub,ua,X,e1,e2,g1,g2,g3,g4,hXl,hXp,hXa⟩:=u4A hC hok hct;rw [e1] at hmp;rw [e2] at hpl;have hXpH:Hid (X.Pairwise (fun x y=>x.off <= y.off)):=hXp;have hXaH:Hid (∀ x∈X,alnQ s us ua x):=hXa;clear hXp hXa e1 e2 hC;simp only at hmp hpl
  go_wp2_with (go_at_call 24; fail)
  refine (hmp _ hB4).mono ?_;rintro e w5 ⟨rfl,hb⟩;have hx5:=hx4.below hb;have hB5:=hB4.trans (hb.mono hB4.size);have hsz5:=hB5.size;clear hb hx4 hB4 hmp k0 k1 k2 k3 k4 k5 k6 k7 x0;have hu6:=UBox.here w5 (.int .i64 us) (.int .i64 ub) (.int .i64 ua) 42;have hal6:Below w5.heap.size w5 (w5.alloc (.cells #[.int .i64 us, .int .i64 ub, .int .i64 ua] 42)):=(Below.refl _ w5).alloc (Nat.le_refl _) _;have hx6:=hx5.below hal6;have hB6:=hB5.trans (hal6.mono hsz5);obtain ⟨x0,k0,k1,k2,k3,k4,k5,k6,k7⟩:=id hx6
  go_wp2_with (go_at_call 25; fail)
  refine (hpl _ hB6).mono ?_;rintro e w7 ⟨⟨v,rfl,hpv⟩,hb⟩;have hx7:=hx6.below hb;have hu7:=hu6.below hb;have hB7:=hB6.trans (hb.mono hB6.size);have hsz7:=hB7.size;clear hb hx6 hu6 hB6 hpl k0 k1 k2 k3 k4 k5 k6 k7 x0 hal6 hx5 hB5;obtain ⟨la,lcap,rfl⟩:=hpv.form;obtain ⟨l1,m0,m1,m2,m3,m4,m5⟩:=id hu7;obtain ⟨x0,k0,k1,k2,k3,k4,k5,k6,k7⟩:=id hx7;go_wp2
  go_loopw [7, 49] (fun v7 v49 wr=> ∃ x lo:Int,v7 = .int .i64 lo/\v49 = .int .i64 x/\0 <= x/\x <= X.length/\Hid (∀ j p,x.toNat <= j->X[j]? = some p->lo <= p.off)/\0 <= lo/\lo <= 200000000/\Below w7.heap.size w7 wr) (fun _ v49 _=>(X.length-intOf v49).toNat)
  case atStart=>exact ⟨0,us,rfl,rfl,by omega,by omega,(show Hid _ from fun j p _ hp=>by
    obtain ⟨l,A, -, -, -, -, -, -, -, -, -, -, -, h, -⟩:=hXaH.out p (List.mem_of_getElem? hp);exact h),by omega,by omega,Below.refl _ _⟩
  case round =>
    clear k0 k1 k2 k3 k4 k5 k6 k7 x0;obtain ⟨x,lo,rfl,rfl,y0,y1,hlo,lo0,lo1,hbr⟩:=hrel;have hszr:=hbr.size
    by_cases hlt:x<(X.length:Int)
    . obtain ⟨b,o,cap,p,pa,pc,sa,sc,hv,hbl,hp,d0,d1,d2,d3,d4,d5,d6,d7,d8,hpi,hst⟩:=(hpv.below hbr).at (i:=x.toNat) (by omega)
      cases hv;obtain ⟨l,A,q1,q2,q3,q4,q5,q6,q7,q8,q9,q10,q11,q12,q13⟩:=hXaH.out p (List.mem_of_getElem? hp);have hlp:lo <= p.off:=hlo.out x.toNat p (Nat.le_refl _) hp;have hnx:Hid (∀ j p',(x+1).toNat <= j->X[j]? = some p'->p.off <= p'.off):=fun j p' hj hp'=>by
        obtain ⟨i1,rfl⟩:=List.getElem?_eq_some_iff.1 hp;obtain ⟨i2,rfl⟩:=List.getElem?_eq_some_iff.1 hp';exact List.pairwise_iff_getElem.1 hXpH.out _ _ i1 i2 (by omega)
      have hxr:=hx7.below hbr;obtain ⟨x0,k0,k1,k2,k3,k4,k5,k6,k7⟩:=id hxr;obtain ⟨pp,po,ps,pb,pt⟩:=p;simp only at d0 d1 d2 d3 d4 d5 d6 d7 d8 hpi hst q1 q3 q8 q9 q10 q11 q12 q13 hlp hnx;have q1H:Hid (prtS s pp=some l):=q1;have q4H:Hid (A=cond (decide (l.t.k=4)&&!l.g) 8 (alS l.t.k l.t.p l.t.q l.t.v l.t.pic.data.toList)):=q4;have q9H:Hid (∀ z∈ps,A∣z.2.2/\y4C z):=q9;have q7H:Hid (A∣ua/\A∣po):=⟨q7,q8⟩;have q3H:Hid (pt=l.t):=q3;clear q1 q4 q9 hp hlo q7 q8 q3;go_wp2;obtain ⟨V1,hV1⟩:∃ V1,V1=wr:=⟨_,rfl⟩;subst hV1;have hb9:=(NB.here V1 (plC (.slice pa pp.length pc) (.slice sa ps.length sc) po pb pt) 50).alloc (.cells (shA (.slice a1 s.D.length c1) (.slice a2 s.P.length c2) s.t s.g) 27);have hbx:=NB.here (V1.alloc (.cells (plC (.slice pa pp.length pc) (.slice sa ps.length sc) po pb pt) 50)) (shA (.slice a1 s.D.length c1) (.slice a2 s.P.length c2) s.t s.g) 27
      rw [World.size_alloc] at hbx;have hBA:Below V1.heap.size V1 ((V1.alloc (.cells (plC (.slice pa pp.length pc) (.slice sa ps.length sc) po pb pt) 50)).alloc (.cells (shA (.slice a1 s.D.length c1) (.slice a2 s.P.length c2) s.t s.g) 27)):=((Below.refl _ V1).alloc (Nat.le_refl _) _).alloc (by simp) _
      clear d0 d1 d2 d3 d4 d5 d6 d7 d8 x0 k0 k1 k2 k3 k4 k5 k6 k7
      go_loopw [57] (fun v57 wi=> ∃ (y:Int) (r:Sh) (dr pr:Value),v57 = .int .i64 y/\0 <= y/\y <= pp.length/\Hid (prtS r (pp.drop y.toNat)=some l)/\okS r/\ShAt w dr pr r/\NB wi V1.heap.size (plC (.slice pa pp.length pc) (.slice sa ps.length sc) po pb pt) 50/\NB wi (V1.heap.size+1) (shA dr pr r.t r.g) 27/\Below V1.heap.size V1 wi) (fun vx _=>(pp.length-intOf vx).toNat)
      case atStart=>exact ⟨0,s,_,_,rfl,by omega,by omega,(show Hid (prtS s (pp.drop (0:Int).toNat)=some l) from q1H),hok,hs0,hb9,hbx,hBA⟩
      case round =>
        clear hb9 hbx hBA q1H;obtain ⟨y,r,dr,pr,rfl,z0,z1,hqy,hokr,hsr,hn9,hn,hbi⟩:=hrel;have hszi:=hbi.size;have hBi:Below w.heap.size w wr:=hB7.trans ((hbr.trans (hbi.mono hszr)).mono hsz7)
        by_cases hly:y<(pp.length:Int)
        . obtain ⟨i,p,hi0,hig,hi1,hi2,hp,hqp⟩:=prt_step hqy.out (by omega)
          obtain ⟨da,dc,da',dc',rfl, -⟩:=hsr.slices;obtain ⟨b1,o1,cap1,a,c,a',c',hpe,hbl1,hsp,d0,d1,d2,d3,d4,d5,d6,d7⟩:=v3H hsr hBi hp;cases hpe;have hokp:=ok_prt hokr hp;obtain ⟨b2,o2,cap2,hv2,hbl2,e0⟩:=(hpi.below hbi).at (i:=y.toNat) (by omega)
          cases hv2;rw [hig] at e0;obtain ⟨k0,k1,k2,k3,k4,k5,k6,k7,kf⟩:=z4B hn;have hqn:Hid (prtS p (pp.drop (y+1).toNat)=some l):=by
            show _=_;rw [show (y+1).toNat=y.toNat+1 by omega]
            exact hqp
          clear hqp hqy hig hi0 hp;go_wp2
          go_roundw
          case rel=>exact ⟨_,p,_,_,rfl,by omega,by omega,hqn,hokp,hsp,bx_other hn9 (by omega),bx_set hn,bx_below hbi (by omega)⟩
          case measure=>simp [intOf]; omega
        . have hye:y=pp.length:=by omega
          subst hye;have hrq:=hqy.out;rw [Int.toNat_natCast] at hrq;obtain rfl:=prt_end hrq;clear hrq hqy;obtain rfl:=q3H.out;have hpic:r.t.pic.data.toList.length <= 200:=by
            obtain ⟨D,P,t,g⟩:=r;exact hokr.2.2.1
          have h26:=fun w' hB'=>c21 (k:=r.t.k) (p:=r.t.p) (q:=r.t.q) (v:=r.t.v) (s:=r.t.pic) hpic w' (x0Y hB' hg);have q4:=q4H.out;generalize alS r.t.k r.t.p r.t.q r.t.v r.t.pic.data.toList=N at h26 q4;obtain ⟨z0',z1',z2',z3',z4',z5',z6',z7',z8',zf'⟩:=x3T hn9;obtain ⟨k0,k1,k2,k3,k4,k5,k6,k7,kf⟩:=z4B hn;have q4h:Hid (A=cond (decide (r.t.k=4)&&!r.g) 8 N):=q4;clear q4 q4H hpic q3H
          go_wp2_with (go_at_call 26; fail)
          refine (h26 _ hBi).mono ?_;rintro e w8 ⟨rfl,hb⟩;have hbi8:=hbi.trans (hb.mono hszi);have hsz8:=hb.size;have hn98:=hn9.below hb;have hn8:=hn.below hb;clear hb h26 z0' z1' z2' z3' z4' z5' z6' z7' z8' zf' k0 k1 k2 k3 k4 k5 k6 k7 kf hn9 hn;have hn13:=NB.here w8 #[.int .i64 N] 3;have hn9':=hn98.alloc (.cells #[.int .i64 N] 3);have hn10':=hn8.alloc (.cells #[.int .i64 N] 3);obtain ⟨z0',z1',z2',z3',z4',z5',z6',z7',z8',zf'⟩:=x3T hn98;obtain ⟨k0,k1,k2,k3,k4,k5,k6,k7,kf⟩:=z4B hn8;have hu8:=(hu7.below hbr).below hbi8;obtain ⟨hltu,y0',y1',y2',y3',y4',y5'⟩:=id hu8;have hlt9:=hn98.lt;have hsz8':V1.heap.size <= w8.heap.size:=hbi8.size;have hlt10:=hn8.lt
          by_cases hk4:r.t.k=4
          . cases hg0:r.g
            . have hA8:A=8:=by rw [q4h.out,hk4,hg0]; rfl
              subst hA8;rw [hg0] at k7;rw [hk4] at z4';have hr1:ua.tmod 8=0:=Int.tmod_eq_zero_of_dvd q7H.out.1;have hr2:po.tmod 8=0:=Int.tmod_eq_zero_of_dvd q7H.out.2;have hal8:Below w8.heap.size w8 (w8.alloc (.cells #[.int .i64 8] 3)):=(Below.refl _ w8).alloc (Nat.le_refl _) _;have hbi9:=hbi8.trans (hal8.mono hsz8')
              go_wp2_with (go_at_call 27; fail)
              refine (z3W ps 8 w8.heap.size _ _ (hst.below hbi9) (by omega) ((NB.here w8 #[.int .i64 8] 3).cell 0) (by omega) q9H.out).mono ?_
              rintro e wE ⟨rfl,hbE⟩;have hbE9:=hbr.trans ((hbi9.trans (hbE.mono hbi9.size)).mono hszr);have hn9E:=(hn98.below hal8).below hbE;obtain ⟨v0',v1',v2',v3',v4',v5',v6',v7',v8',vf'⟩:=x3T hn9E;clear hbE;go_wp2
              go_roundw
              case rel=>exact ⟨_,po,rfl,rfl,by omega,by omega,hnx,by omega,by omega,hbE9⟩
              case measure=>simp [intOf]; omega
            . have hA8:A=N:=by rw [q4h.out,hk4,hg0]; rfl
              subst hA8;rw [hg0] at k7;rw [hk4] at z4';have hr1:ua.tmod A=0:=Int.tmod_eq_zero_of_dvd q7H.out.1;have hr2:po.tmod A=0:=Int.tmod_eq_zero_of_dvd q7H.out.2;clear q4h;have hal8:Below w8.heap.size w8 (w8.alloc (.cells #[.int .i64 A] 3)):=(Below.refl _ w8).alloc (Nat.le_refl _) _;have hbi9:=hbi8.trans (hal8.mono hsz8')
              go_wp2_with (go_at_call 27; fail)
              refine (z3W ps A w8.heap.size _ _ (hst.below hbi9) (by omega) ((NB.here w8 #[.int .i64 A] 3).cell 0) (by omega) q9H.out).mono ?_
              rintro e wE ⟨rfl,hbE⟩;have hbE9:=hbr.trans ((hbi9.trans (hbE.mono hbi9.size)).mono hszr);have hn9E:=(hn98.below hal8).below hbE;obtain ⟨v0',v1',v2',v3',v4',v5',v6',v7',v8',vf'⟩:=x3T hn9E;clear hbE;go_wp2
              go_roundw
              case rel=>exact ⟨_,po,rfl,rfl,by omega,by omega,hnx,by omega,by omega,hbE9⟩
              case measure=>simp [intOf]; omega
          . have hA8:A=N:=by rw [q4h.out,decide_eq_false hk4]; rfl
            subst hA8;have hr1:ua.tmod A=0:=Int.tmod_eq_zero_of_dvd q7H.out.1;have hr2:po.tmod A=0:=Int.tmod_eq_zero_of_dvd q7H.out.2;clear q4h;have hal8:Below w8.heap.size w8 (w8.alloc (.cells #[.int .i64 A] 3)):=(Below.refl _ w8).alloc (Nat.le_refl _) _;have hbi9:=hbi8.trans (hal8.mono hsz8')
            go_wp2_with (go_at_call 27; fail)
            refine (z3W ps A w8.heap.size _ _ (hst.below hbi9) (by omega) ((NB.here w8 #[.int .i64 A] 3).cell 0) (by omega) q9H.out).mono ?_
            rintro e wE ⟨rfl,hbE⟩;have hbE9:=hbr.trans ((hbi9.trans (hbE.mono hbi9.size)).mono hszr);have hn9E:=(hn98.below hal8).below hbE;obtain ⟨v0',v1',v2',v3',v4',v5',v6',v7',v8',vf'⟩:=x3T hn9E;clear hbE;go_wp2
            go_roundw
            case rel=>exact ⟨_,po,rfl,rfl,by omega,by omega,hnx,by omega,by omega,hbE9⟩
            case measure=>simp [intOf]; omega
    . have hxe:x=X.length:=by omega
      subst hxe;go_wp2;go_ret;exact ⟨rfl,hB7.trans (hbr.mono hB7.size)⟩
end Go.Proofs
