/-
  LayoutMoved, walked.
-/
import Derived.Test.YtadehgdfijjikaaGreatDoorS13
import Derived.Test.YtadehgdfijjikaaGreatDoorS14
set_option linter.all false
namespace Go.Proofs
open Go.RowKit Go.Yec Go.Shp Go.Deep
open Go.Xec (Glob)
theorem lvS_pos:∀ (s:Sh) (n:Nd) (path:List Int) (off:Int) (st:List Stp),mpS s=some n->1 <= (lvS s n path off st).length:=by
  intro s
  induction s using Sh.ind with
  | h D P t g ih =>
    intro n path off st hm;cases P with
    | nil=>rw [y4U];exact Nat.le_refl 1
    | cons q Q =>
      have am:=y6T hm;obtain ⟨m,h1,h2⟩:=am.2.2.2 0 q rfl;rw [y4T];obtain ⟨u,e,st0,az,ms⟩:=n;simp only [Nd.ps,Nd.at'] at h1 am |-
      cases ms with
      | nil=>simp at h1
      | cons m0 ms =>
        simp only [List.getElem?_cons_zero,Option.some.injEq] at h1;subst h1;cases az with
        | nil=>have:=am.2.1;simp [Sh.P] at this
        | cons a az =>
          rw [u5K,List.length_append]
          have:=ih q (by simp) m0 (path++[((0:Nat):Int)]) (off+a) (st++stpN (.node D (q::Q) t g) (.mk u e st0 (a::az) (m0::ms))) h2
          omega
def movQ (s:Sh)(x:Pl)(k:Nat):Prop:= ∃ own,prtS s (x.path.take k)=some own/\okS own/\scnt own <= 100/\(mapR own).2=0/\(fndR s (x.path.take k)).2=0/\(fndR s x.path).2=0/\(fndR own (x.path.drop k)).2=0 /\
  (fndR s x.path).1.off-(fndR s (x.path.take k)).1.off=(fndR own (x.path.drop k)).1.off-(mapR own).1.s/\(fndR s x.path).1.b=(fndR own (x.path.drop k)).1.b/\(fndR s x.path).1.t=(fndR own (x.path.drop k)).1.t /\
  own.D.length <= (fndR s (x.path.take k)).1.st.length/\(fndR s x.path).1.st=(fndR s (x.path.take k)).1.st.take ((fndR s (x.path.take k)).1.st.length-own.D.length)++(fndR own (x.path.drop k)).1.st /\
  0 <= (mapR own).1.s/\(mapR own).1.s <= 64/\0 <= (fndR s x.path).1.off/\(fndR s x.path).1.off <= 200000000/\0 <= (fndR s (x.path.take k)).1.off/\(fndR s (x.path.take k)).1.off <= 200000000/\0 <= (fndR own (x.path.drop k)).1.off/\(fndR own (x.path.drop k)).1.off <= 200000000/\(fndR s x.path).1.st.length <= 700/\(fndR s (x.path.take k)).1.st.length <= 700/\(fndR own (x.path.drop k)).1.st.length <= 700
theorem v3T {s:Sh}(hc:chk s=0)(aC:okS s)(dW:scnt s <= 60):∃ X,plsR s=(X, 0)/\1 <= X.length/\X.length <= 60/\∀ x∈X,x.path.length <= 99/\∀ k,k <= x.path.length->movQ s x k:=by
  obtain ⟨hv,n,hm,yG⟩:=y5E hc;refine ⟨lvS s n [] n.u.s [], ?_,lvS_pos s n [] n.u.s [] hm, ?_,fun x hx=>?_⟩
  . unfold plsR;rw [hv,hm];rfl
  . have:=v4U s n [] n.u.s []
    omega
  . have hp:=(v4V hv hm x hx).1;refine ⟨hp,fun k hk=>?_⟩;obtain ⟨own,h1,h2,h3,h4,h5,h6,h7,h8,h9,aH,bK⟩:=v4Q hc hm hx hk;obtain ⟨gu,yE⟩:=prt_ok _ _ aC h1;obtain ⟨-, no,dC,nS⟩:=y5E h2;have dh:=x5S own 0 1 (y5E h2).1 no dC;have eR:=x3L dh.1;obtain ⟨-, -, -, -, -, -, -, -, a1,a2,a3⟩:=u1J (s:=s) (path:=x.path) h5 (by omega)
    obtain ⟨-, -, -, -, -, -, -, -, b1,b2,b3⟩:=u1J (s:=s) (path:=x.path.take k) h4 (by rw [List.length_take];omega)
    obtain ⟨-, -, -, -, -, -, -, -, c1,c2,c3⟩:=u1J (s:=own) (path:=x.path.drop k) h6 (by rw [List.length_drop];omega)
    exact ⟨own,h1,gu,by omega,h3,h4,h5,h6,h7,h8,h9,aH,bK,by rw [nS];exact dh.2.1,by rw [nS];have:=dh.2.2.1;show no.u.s <= 64;omega,a1,a2,b1,b2,c1,c2,a3,b3,c3⟩
theorem z7B {w:World}{pa:Option Addr}{pc:Nat}{L:List Int}(h:IntsAt w (.slice pa L.length pc) L){k:Nat}(hk:k <= L.length):IntsAt w (.slice pa k pc) (L.take k):=by
  obtain ⟨a,c,hv,⟨hn,aV⟩,h0,hx⟩:=h;cases hv;refine ⟨pa,pc,by rw [List.length_take,Nat.min_eq_left hk],⟨hn,by rw [List.length_take];omega⟩,fun ac=>h0 (by rintro rfl;simp at ac),fun b o ha i hi=>?_⟩
  rw [List.length_take] at hi;rw [hx b o ha i (by omega),List.getD_eq_getElem?_getD,List.getD_eq_getElem?_getD,List.getElem?_take,if_pos (by omega)]
theorem ints_drop {w:World}{pa:Option Addr}{pc:Nat}{L:List Int}(h:IntsAt w (.slice pa L.length pc) L){k:Nat}(hk:k <= L.length):IntsAt w (.slice (if pc=k then pa else Option.map (fun x=>x.add (k*1)) pa) (L.length-k) (pc-k)) (L.drop k):=by
  obtain ⟨a,c,hv,⟨hn,aV⟩,h0,hx⟩:=h;cases hv;have kT:pa=none->pc=0:=hn;refine ⟨_,pc-k,by rw [List.length_drop],⟨fun gx=>?_,by rw [List.length_drop];omega⟩,fun ac=>?_,fun b o ha i hi=>?_⟩
  . cases pa with
    | none=>have:=kT rfl;omega
    | some ad =>
      split at gx
      . cases gx
      . cases gx
  . have ai:k<L.length := by
      rcases Nat.lt_or_ge k L.length with h | h
      . exact h
      . exact absurd (List.drop_eq_nil_of_le h) ac
    obtain ⟨b,o,rfl,hb⟩:=h0 (by rintro rfl;simp at ai)
    exact ⟨b,o+k,by rw [if_neg (by omega)];simp [z1V],hb⟩
  . rw [List.length_drop] at hi;obtain ⟨b1,o1,rfl,hb⟩:=h0 (by rintro rfl;simp at hi)
    rw [if_neg (by omega),Option.map_some,z1V,Nat.mul_one] at ha
    cases ha;rw [show o1+k+i=o1+(k+i) by omega,hx b o1 rfl (k+i) (by omega),List.getD_eq_getElem?_getD,List.getD_eq_getElem?_getD,List.getElem?_drop]
theorem steps_src {w:World}{a:Option Addr}{c:Nat}{L:List Stp}(h:x9C w (.slice a L.length c) L){k:Nat}(hk:k <= L.length):SrcS w a k c 3 ((L.take k).flatMap stC3):=by
  obtain ⟨a',c',hv,⟨hn,aV⟩,h0,hx⟩:=h;cases hv;refine ⟨fun ha=>⟨?_,hn ha⟩,by rw [u4C,List.length_take];congr 1;omega,fun ad ha j u hj=>?_,stC3_one _⟩
  . have:=hn ha
    omega
  . have fW:=(List.getElem?_eq_some_iff.1 hj).1;rw [u4C,List.length_take] at fW;obtain ⟨b,o,rfl,hb⟩:=h0 (by rintro rfl;simp at fW)
    cases ha;rw [z1V];refine hx b o rfl j u ?_;have cx:L.flatMap stC3=(L.take k).flatMap stC3++(L.drop k).flatMap stC3:=by rw [<- List.flatMap_append,List.take_append_drop]
    rw [cx,List.getElem?_append_left (by rw [u4C,List.length_take];exact fW)]
    exact hj
set_option maxRecDepth 100000 in
set_option maxHeartbeats 8000000 in
theorem v4P (s:Sh)(dv pv:Value)(x:Int)(w:World)(hg:Glob w)(hs:ShAt w dv pv s) :
    Calls Tryz.prog 7 #[shV dv pv s.t s.g, .int .i64 x] w fun e w'=>e = .returned (.bool true)/\Below w.heap.size w w':=by
  have kP:=hs;obtain ⟨a1,c1,a2,c2,rfl,rfl⟩:=hs.slices;go_enter Tryz.func7,Tryz.ntmps7
  go_wp2_with (go_at_call 14;fail)
  have bX:=ShBox.here w (.slice a1 s.D.length c1) (.slice a2 s.P.length c2) s.t s.g;generalize bx:w.alloc (.cells #[.slice a1 s.D.length c1, .slice a2 s.P.length c2, .int .i64 s.t.k, .int .i64 s.t.p, .int .i64 s.t.q, .bool s.t.v, .string s.t.pic, .bool s.g] 27)=w1 at bX |-
  have au:Below w.heap.size w w1:=by
    rw [<- bx];exact (Below.refl _ w).alloc (Nat.le_refl _) _
  clear bx;refine (u4J _ (x1C au hg)).mono ?_;rintro e w2 ⟨rfl,hb⟩;have bv:=bX.below hb;have aB:=au.trans (hb.mono au.size);have dY:=aB.size;clear hb bX au;obtain ⟨x0,k0,k1,k2,k3,k4,k5,k6,k7⟩:=id bv;have hf:=fun w1 (hB:Below w.heap.size w w1)=>few_any s w1 _ _ 60 (u7S hB hs) (by omega) (by omega)
  go_wp2_with (go_at_call 15;fail)
  refine (hf _ aB).mono ?_;rintro e w3 ⟨⟨fw,rfl,rN⟩,hb⟩;have cD:=bv.below hb;have b9:=aB.trans (hb.mono aB.size);have kJ:=b9.size;clear hb bv aB hf k0 k1 k2 k3 k4 k5 k6 k7 x0;obtain ⟨x0,k0,k1,k2,k3,k4,k5,k6,k7⟩:=id cD;cases fw
  . clear rN;go_wp2;go_ret;exact ⟨rfl,b9⟩
  obtain ⟨aC,dW⟩:=rN rfl;clear rN;have eL:=fun w1 hB=>z5V s w w1 _ _ hg hs hB aC (by omega)
  have bL:=fun w1 hB=>z2T s w w1 _ _ hg hs hB aC (by omega)
  obtain ⟨C,hC⟩:∃ C,chk s=C:=⟨_,rfl⟩;rw [hC] at eL
  go_wp2_with (go_at_call 23;fail)
  refine (eL _ b9).mono ?_;rintro e w4 ⟨rfl,hb⟩;have gl:=cD.below hb;have gG:=b9.trans (hb.mono b9.size);have gJ:=gG.size;clear hb cD b9 eL k0 k1 k2 k3 k4 k5 k6 k7 x0;obtain ⟨x0,k0,k1,k2,k3,k4,k5,k6,k7⟩:=id gl
  by_cases xZ:C=0
  case neg =>
    clear bL;go_wp2;go_ret;exact ⟨rfl,gG⟩
  subst xZ;obtain ⟨X,e2,g1,uC,uD⟩:=v3T hC aC dW;rw [e2] at bL;have oX:Hid (∀ x∈X,x.path.length <= 99/\∀ k,k <= x.path.length->movQ s x k):=uD;clear uD e2 hC;simp only at bL
  go_wp2_with (go_at_call 25;fail)
  refine (bL _ gG).mono ?_;rintro e w7 ⟨⟨v,rfl,fL⟩,hb⟩;have tx:=gl.below hb;have mL:=gG.trans (hb.mono gG.size);have qB:=mL.size;clear hb gl gG bL k0 k1 k2 k3 k4 k5 k6 k7 x0;obtain ⟨la,lcap,rfl⟩:=fL.form;obtain ⟨x0,k0,k1,k2,k3,k4,k5,k6,k7⟩:=id tx;have xy:1 <= (X.length:Int):=by omega
  have xu:(X.length:Int) <= 1000000:=by omega
  go_wp2_with (go_at_call 30;fail)
  refine (v5S x X.length _ xy xu).mono ?_;rintro e w8 ⟨⟨r,rfl,r0,r1⟩,rfl⟩;obtain ⟨b,o,cap,p,pa,pc,sa,sc,hv,aM,hp,d0,d1,d2,d3,d4,d5,d6,d7,d8,i9,aN⟩:=fL.at (i:=r.toNat) (by omega)
  cases hv;obtain ⟨qT,tT⟩:=oX.out p (List.mem_of_getElem? hp);have nT:Hid (∀ k,k <= p.path.length->movQ s p k):=tT;obtain ⟨pp,po,ps,pb,pt⟩:=p;simp only at d0 d1 d2 d3 d4 d5 d6 d7 d8 i9 aN qT;clear tT hp;go_wp2
  go_loopw [53] (fun v53 wr=> ∃ k:Nat,v53 = .int .i64 k/\k <= pp.length+1/\Below w8.heap.size w8 wr) (fun v53 _=>(pp.length+1-intOf v53).toNat)
  case atStart=>exact ⟨0,rfl,by omega,Below.refl _ _⟩
  case round =>
    clear k0 k1 k2 k3 k4 k5 k6 k7 x0 d0 d1 d2 d3 d4 d5 d6 d7 d8;obtain ⟨k,rfl,hk,aD⟩:=hrel;obtain ⟨V1,xE⟩:∃ V1,V1=wr:=⟨_,rfl⟩;subst xE;have bD:=aD.size
    by_cases ai:k<pp.length+1
    . obtain ⟨own,q1,q2,q3,q4,q5,q6,q7,q8,q9,q10,q11,q12,q13,q14,q15,q16,q17,q18,q19,q20,q21,q22,q23⟩:=nT.out k (by show k <= pp.length;omega)
      simp only at q1 q5 q6 q7 q8 q9 q10 q11 q12 q15 q16 q17 q18 q19 q20 q21 q22 q23;have aL:Below w.heap.size w V1:=mL.trans (aD.mono qB);have fM:=i9.below aD;have cA:=tx.below aD;obtain ⟨x0,k0,k1,k2,k3,k4,k5,k6,k7⟩:=id cA;have iO:Below V1.heap.size V1 V1.drew:=(Below.refl _ _).drew;have dI:∀ w' v,Below V1.heap.size V1 w'->IntsAt w' v (pp.take k)->Calls Tryz.prog 35 #[shV (.slice a1 s.D.length c1) (.slice a2 s.P.length c2) s.t s.g,v] w' fun e w''=>(∃ dq pq,e = .returned (.tuple #[shV dq pq own.t own.g, .bool true])/\ShAt w dq pq own)/\Below w'.heap.size w' w'':=fun w' v hB hP =>
        part_any s own (pp.take k) w w' _ _ v kP (aL.trans (hB.mono (by have:=aL.size;omega))) hP q1 (by rw [List.length_take];omega) aC
      have cT:(0:Int) <= k:=by omega
      have lz:(k:Int) <= pp.length:=by omega
      have vQ:(pp.length:Int) <= pc:=by
        obtain ⟨a',c',kH,⟨-, aV⟩, -⟩:=fM;cases kH;omega
      have iL:(k:Int) <= pc:=by omega
      have vR:(if pc=0 then pa else Option.map (fun x=>x.add 0) pa)=pa:=by
        cases pa <;> simp [Addr.add]
      go_upto_region 12 with fail
      go_cut [9, 10] (fun v9 v10 wc=> ∃ B9 dq pq,v9 = .pointer (some ⟨B9, 0,none⟩)/\v10 = .bool true/\V1.heap.size <= B9/\NB wc B9 (shA dq pq own.t own.g) 27/\ShAt w dq pq own/\Below V1.heap.size V1 wc)
      case first =>
        go_region_with (first
          | (go_at_call 35;refine (dI V1.drew _ iO (z7B (fM.below iO) (by omega))).mono ?_;rintro e w2' ⟨⟨dq,pq,rfl,iW⟩,bq⟩;have aO:Below V1.heap.size V1 w2':=iO.trans bq;obtain ⟨qa,qc,qa',qc',rfl,rfl⟩:=iW.slices)
          | (go_at_call 35;refine (dI (V1.alloc _).drew _ ((Below.refl _ V1).alloc (Nat.le_refl _) _).drew (z7B (fM.below ((Below.refl _ V1).alloc (Nat.le_refl _) _).drew) (by omega))).mono ?_;rintro e w2' ⟨⟨dq,pq,rfl,iW⟩,bq⟩;have aO:Below V1.heap.size V1 w2':=y8U (Below.refl _ V1) (Nat.le_refl _) bq;have bZ:=(NB.here V1 (shA (.slice none 0 0) (.slice none 0 0) ty00 false) 27).drew.below bq;obtain ⟨g0,g1,g2,g3,g4,g5,g6,g7,gf⟩:=y5F bZ;obtain ⟨qa,qc,qa',qc',rfl,rfl⟩:=iW.slices))
        all_goals
          go_wp2_with fail
          go_meet
          case rel =>
            first
              | exact ⟨_,_,_,rfl,rfl,aO.size,NB.here w2' (shA _ _ own.t own.g) 27,iW,aO.alloc aO.size _⟩
              | exact ⟨_,_,_,rfl,rfl,Nat.le_refl _,bx_set bZ,iW,z4C aO (Nat.le_refl _)⟩
      case rest =>
        obtain ⟨B9,dq,pq,rfl,rfl,yd,fQ,iW,cV⟩:=hcut;obtain ⟨qa,qc,qa',qc',rfl,rfl⟩:=iW.slices;obtain ⟨V2,xD⟩:∃ V2,V2=wc:=⟨_,rfl⟩;subst xD;have iU:=cV.size;have bV:=aL.trans (cV.mono aL.size);have fN:=fM.below cV;have bv:=cA.below cV;have mF:Below V2.heap.size V2 V2.drew:=(Below.refl _ _).drew;obtain ⟨F1,s8⟩:∃ F1,fndR s (pp.take k)=F1:=⟨_,rfl⟩;obtain ⟨F2,s6⟩:∃ F2,fndR s pp=F2:=⟨_,rfl⟩;obtain ⟨F3,s5⟩:∃ F3,fndR own (pp.drop k)=F3:=⟨_,rfl⟩;obtain ⟨M4,sU⟩:∃ M4,mapR own=M4:=⟨_,rfl⟩;rw [s8] at q5 q8 q11 q12 q17 q18 q22;rw [s6] at q6 q8 q9 q10 q12 q15 q16 q21;rw [s5] at q7 q8 q9 q10 q12 q19 q20 q23;rw [sU] at q4 q8 q13 q14;obtain ⟨⟨f1p,f1o,f1s,f1b,f1t⟩,f1e⟩:=F1;obtain ⟨⟨f2p,f2o,f2s,f2b,f2t⟩,f2e⟩:=F2;obtain ⟨⟨f3p,f3o,f3s,f3b,f3t⟩,f3e⟩:=F3;obtain ⟨⟨ms,mb,ma⟩,me⟩:=M4
        simp only at q4 q5 q6 q7 q8 q9 q10 q11 q12 q13 q14 q15 q16 q17 q18 q19 q20 q21 q22 q23;subst q4 q5 q6 q7 q9 q10;have h1:∀ w' v,Below V2.heap.size V2 w'->IntsAt w' v (pp.take k)->Calls Tryz.prog 36 #[shV (.slice a1 s.D.length c1) (.slice a2 s.P.length c2) s.t s.g,v] w' fun e w''=>(∃ x,e = .returned (.tuple #[x, .int .i64 0])/\PlS (fun b=>w'.heap.size <= b/\b<w''.heap.size) w'' x ⟨f1p,f1o,f1s,f1b,f1t⟩)/\Below w'.heap.size w' w'':=fun w' v hB hP=>by
          have:=ownFind_any s w w' _ _ v (pp.take k) hg kP (bV.trans (hB.mono bV.size)) aC (by omega) hP (by rw [List.length_take];omega)
          rw [s8] at this;exact this
        have h2:∀ w' v,Below V2.heap.size V2 w'->IntsAt w' v pp->Calls Tryz.prog 36 #[shV (.slice a1 s.D.length c1) (.slice a2 s.P.length c2) s.t s.g,v] w' fun e w''=>(∃ x,e = .returned (.tuple #[x, .int .i64 0])/\PlS (fun b=>w'.heap.size <= b/\b<w''.heap.size) w'' x ⟨f2p,f2o,f2s,f2b,f2t⟩)/\Below w'.heap.size w' w'':=fun w' v hB hP=>by
          have:=ownFind_any s w w' _ _ v pp hg kP (bV.trans (hB.mono bV.size)) aC (by omega) hP (by omega)
          rw [s6] at this;exact this
        have h3:∀ w' v,Below V2.heap.size V2 w'->IntsAt w' v (pp.drop k)->Calls Tryz.prog 36 #[shV (.slice qa own.D.length qc) (.slice qa' own.P.length qc') own.t own.g,v] w' fun e w''=>(∃ x,e = .returned (.tuple #[x, .int .i64 0])/\PlS (fun b=>w'.heap.size <= b/\b<w''.heap.size) w'' x ⟨f3p,f3o,f3s,f2b,f2t⟩)/\Below w'.heap.size w' w'':=fun w' v hB hP=>by
          have:=ownFind_any own w w' _ _ v (pp.drop k) hg iW (bV.trans (hB.mono bV.size)) q2 q3 hP (by rw [List.length_drop];omega)
          rw [s5] at this;exact this
        have h4:∀ w',Below V2.heap.size V2 w'->Calls Tryz.prog 24 #[shV (.slice qa own.D.length qc) (.slice qa' own.P.length qc') own.t own.g] w' fun e w''=>e = .returned (.tuple #[unV ⟨ms,mb,ma⟩, .int .i64 0])/\Below w'.heap.size w' w'':=fun w' hB=>by
          have:=ownMap_any own w w' _ _ hg iW (bV.trans (hB.mono bV.size)) q2 q3
          rw [sU] at this;exact this
        have qN:Hid (f2s=f1s.take (f1s.length-own.D.length)++f3s):=q12;have uu:Below w8.heap.size w8 V2:=aD.trans (cV.mono bD);clear s8 s6 s5 sU q12 dI fM cA aD nT q1 k0 k1 k2 k3 k4 k5 k6 k7 x0 oX iO;obtain ⟨x0,k0,k1,k2,k3,k4,k5,k6,k7⟩:=id bv
        go_upto_region 15 with fail
        go_cut [11, 12] (fun v11 v12 wc=> ∃ B11 pv sv,v11 = .pointer (some ⟨B11, 0,none⟩)/\v12 = .int .i64 0/\V2.heap.size <= B11/\NB wc B11 (plC pv sv f1o f1b f1t) 50/\x9C wc sv f1s/\Below V2.heap.size V2 wc)
        case first =>
          go_region_with (first
            | (go_at_call 36;refine (h1 V2.drew _ mF (z7B (fN.below mF) (by omega))).mono ?_;rintro e w2' ⟨⟨xx,rfl,iH⟩,bq⟩;have aO:Below V2.heap.size V2 w2':=mF.trans bq;obtain ⟨ya,yc,ya',yc',rfl, -, dS⟩:=iH.parts)
            | (go_at_call 36;refine (h1 (V2.alloc _).drew _ ((Below.refl _ V2).alloc (Nat.le_refl _) _).drew (z7B (fN.below ((Below.refl _ V2).alloc (Nat.le_refl _) _).drew) (by omega))).mono ?_;rintro e w2' ⟨⟨xx,rfl,iH⟩,bq⟩;have aO:Below V2.heap.size V2 w2':=y8U (Below.refl _ V2) (Nat.le_refl _) bq;have bZ:=(NB.here V2 (plC (.slice none 0 0) (.slice none 0 0) 0 0 ty00) 50).drew.below bq;obtain ⟨g0,g1,g2,g3,g4,g5,g6,g7,g8,gf⟩:=x3V bZ;obtain ⟨ya,yc,ya',yc',rfl, -, dS⟩:=iH.parts))
          all_goals
            have qp:x9C w2' _ f1s:=x0R (S':=fun b=>b<w2'.heap.size) (fun b h=>h.2) (KeepS.refl _ _) dS
            go_wp2_with fail
            go_meet
            case rel =>
              first
                | exact ⟨_,_,_,rfl,rfl,aO.size,NB.here w2' (plC _ _ f1o f1b f1t) 50,qp.below ((Below.refl _ w2').alloc (Nat.le_refl _) _),aO.alloc aO.size _⟩
                | exact ⟨_,_,_,rfl,rfl,Nat.le_refl _,pl_all bZ,x0R (fun b h=>by have:=h.2;simpa using this) (x8U (KeepS.refl _ w2') (fun h=>by have:=h.1;simp at this;omega)) dS,x2J aO (Nat.le_refl _)⟩
        case rest =>
          obtain ⟨B11,pv11,sv11,rfl,rfl,yg,nR,gU,fj⟩:=hcut;obtain ⟨s11,c11,rfl⟩:=gU.form;obtain ⟨V3,xC⟩:∃ V3,V3=wc:=⟨_,rfl⟩;subst xC;have fr:=fj.size;have cD:=bv.below fj;have qV:=fN.below fj;have nO:=fQ.below fj;clear x0 k0 k1 k2 k3 k4 k5 k6 k7 h1 bv;obtain ⟨x0,k0,k1,k2,k3,k4,k5,k6,k7⟩:=id cD
          go_wp2_with (go_at_call 36;fail)
          refine (h2 V3 _ fj qV).mono ?_;rintro e w4' ⟨⟨xx,rfl,iH⟩,fk⟩;obtain ⟨ya,yc,ya',yc',rfl, -, dS⟩:=iH.parts;have jy:Below w4'.heap.size w4' (w4'.alloc (.cells (plC (.slice ya f2p.length yc) (.slice ya' f2s.length yc') f2o f2b f2t) 50)):=(Below.refl _ _).alloc (Nat.le_refl _) _;have jl:=NB.here w4' (plC (.slice ya f2p.length yc) (.slice ya' f2s.length yc') f2o f2b f2t) 50;have gR:x9C (w4'.alloc (.cells (plC (.slice ya f2p.length yc) (.slice ya' f2s.length yc') f2o f2b f2t) 50)) (.slice ya' f2s.length yc') f2s:=StepsS.below (x0R (S':=fun b=>b<w4'.heap.size) (fun b h=>h.2) (KeepS.refl _ _) dS) jy;have kr:Below V3.heap.size V3 (w4'.alloc (.cells (plC (.slice ya f2p.length yc) (.slice ya' f2s.length yc') f2o f2b f2t) 50)):=fk.trans (jy.mono fk.size);have tk:V3.heap.size <= w4'.heap.size:=fk.size;clear iH dS x0 k0 k1 k2 k3 k4 k5 k6 k7 h2 fk cD
          go_upto_region 17 with fail
          generalize xB:w4'.alloc (.cells (plC (.slice ya f2p.length yc) (.slice ya' f2s.length yc') f2o f2b f2t) 50)=V4 at jl gR kr jy |-
          obtain ⟨B13,pw⟩:∃ B13,w4'.heap.size=B13:=⟨_,rfl⟩;rw [pw] at jl tk |-;clear xB jy;have gJ:=kr.size;have tO:=qV.below kr;have jj:=nO.below kr;have jY:=nR.below kr;have gT:=gU.below kr;have lT:Below V2.heap.size V2 V4:=fj.trans (kr.mono fr);have mE:Below V4.heap.size V4 V4.drew:=(Below.refl _ _).drew;obtain ⟨l0,l1,l2,l3,l4,l5,l6,l7,lf⟩:=y5F jj;clear gU nR nO fQ qV fN
          go_cut [15, 16] (fun v15 v16 wc=> ∃ B15 pv sv,v15 = .pointer (some ⟨B15, 0,none⟩)/\v16 = .int .i64 0/\V4.heap.size <= B15/\NB wc B15 (plC pv sv f3o f2b f2t) 50/\x9C wc sv f3s/\Below V4.heap.size V4 wc)
          case first =>
            have rC:=jj.lt;obtain ⟨A,hA⟩:∃ A,(if pc=k then pa else Option.map (fun x=>x.add k) pa)=A:=⟨_,rfl⟩
            have kn:∀ w',Below V4.heap.size V4 w'->IntsAt w' (.slice A (pp.length-k) (pc-k)) (pp.drop k):=fun w' h=>by
              have:=ints_drop (tO.below h) (k:=k) (by omega)
              rw [Nat.mul_one,hA] at this;exact this
            go_region_with (first
              | (go_at_call 36;refine (h3 V4.drew _ (lT.trans (mE.mono (Nat.le_trans fr gJ))) (kn _ mE)).mono ?_;rintro e w2' ⟨⟨xx,rfl,iH⟩,bq⟩;have aO:Below V4.heap.size V4 w2':=mE.trans bq;obtain ⟨ya,yc,ya',yc',rfl, -, dS⟩:=iH.parts)
              | (go_at_call 36;refine (h3 (V4.alloc _).drew _ (lT.trans (((Below.refl _ V4).alloc (Nat.le_refl _) _).drew.mono (Nat.le_trans fr gJ))) (kn _ ((Below.refl _ V4).alloc (Nat.le_refl _) _).drew)).mono ?_;rintro e w2' ⟨⟨xx,rfl,iH⟩,bq⟩;have aO:Below V4.heap.size V4 w2':=y8U (Below.refl _ V4) (Nat.le_refl _) bq;have bZ:=(NB.here V4 (plC (.slice none 0 0) (.slice none 0 0) 0 0 ty00) 50).drew.below bq;obtain ⟨g0,g1,g2,g3,g4,g5,g6,g7,g8,gf⟩:=x3V bZ;obtain ⟨ya,yc,ya',yc',rfl, -, dS⟩:=iH.parts))
            all_goals
              have qp:x9C w2' _ f3s:=x0R (S':=fun b=>b<w2'.heap.size) (fun b h=>h.2) (KeepS.refl _ _) dS
              go_wp2_with fail
              go_meet
              case rel =>
                first
                  | exact ⟨_,_,_,rfl,rfl,aO.size,NB.here w2' (plC _ _ f3o f2b f2t) 50,qp.below ((Below.refl _ w2').alloc (Nat.le_refl _) _),aO.alloc aO.size _⟩
                  | exact ⟨_,_,_,rfl,rfl,Nat.le_refl _,pl_all bZ,x0R (fun b h=>by have:=h.2;simpa using this) (x8U (KeepS.refl _ w2') (fun h=>by have:=h.1;simp at this;omega)) dS,x2J aO (Nat.le_refl _)⟩
          case rest =>
            obtain ⟨B15,pv15,sv15,rfl,rfl,yf,nQ,gO,fi⟩:=hcut;obtain ⟨s15,c15,rfl⟩:=gO.form;obtain ⟨V5,xz⟩:∃ V5,V5=wc:=⟨_,rfl⟩;subst xz;have lS:Below V2.heap.size V2 V5:=lT.trans (fi.mono (Nat.le_trans fr gJ));have iV:=lS.size;have k9:=jj.below fi;have jX:=jY.below fi;have jV:=jl.below fi;have gS:=gT.below fi;have gQ:=gR.below fi;clear jj jY jl gT gR tO h3 kr fi l0 l1 l2 l3 l4 l5 l6 l7 lf fj;obtain ⟨l0,l1,l2,l3,l4,l5,l6,l7,lf⟩:=y5F k9
            go_wp2_with (go_at_call 24;fail)
            refine (h4 V5 lS).mono ?_;rintro e w6 ⟨rfl,aT⟩;have oT:Below V2.heap.size V2 w6:=lS.trans (aT.mono iV);have kZ:=k9.below aT;have fA:=jX.below aT;have fy:=jV.below aT;have fx:=nQ.below aT;have eW:=gS.below aT;have gP:=gQ.below aT;have gN:=gO.below aT;clear l0 l1 l2 l3 l4 l5 l6 l7 lf k9 jX jV nQ gS gQ gO aT h4;have dO:Below w6.heap.size w6 (w6.alloc (.cells #[.int .i64 ms, .int .i64 mb, .int .i64 ma] 42)):=(Below.refl _ _).alloc (Nat.le_refl _) _;have rC:=kZ.lt;have tW:=fA.lt;have tV:=fy.lt;have tU:=fx.lt;obtain ⟨l0,l1,l2,l3,l4,l5,l6,l7,lf⟩:=y5F kZ;obtain ⟨a0,a1',a2',a3,a4,a5,a6,a7,a8,af⟩:=x3V fA;obtain ⟨b0,b1',b2',b3,b4,b5,b6,b7,b8,bf⟩:=x3V fy;obtain ⟨e0,e1',e2',e3,e4,e5,e6,e7,e8,ef⟩:=x3V fx;have bx:wrap64 (f2o-f1o)=f2o-f1o:=wrap_id (by omega)
            have fp:wrap64 (f3o-ms)=f3o-ms:=wrap_id (by omega)
            have yz:((f2o-f1o) != (f3o-ms))=false:=by rw [q8];simp
            obtain ⟨kh,wu⟩:∃ kh,f1s.length-own.D.length=kh:=⟨_,rfl⟩;have gn:wrap64 ((f1s.length:Int)-(own.D.length:Int))=(kh:Int):=by rw [wrap_id (by omega)];omega
            have wm:kh <= f1s.length:=by omega
            have tY:f1s.length <= c11:=by
              obtain ⟨a',c',kH,⟨-, aV⟩, -⟩:=eW;cases kH;exact aV
            have pT:(kh:Int) <= c11:=by omega
            have iM:(0:Int) <= kh:=by omega
            have ae:decide ((kh:Int)<0)=false:=decide_eq_false (by omega)
            have dU:(f1s.length:Int)-(own.D.length:Int)=(kh:Int):=by omega
            have wl:decide ((f1s.length:Int)-(own.D.length:Int)<0)=false:=decide_eq_false (by omega)
            have kP:(if c11=0 then s11 else Option.map (fun x=>x.add 0) s11)=s11:=by
              cases s11 <;> simp [Addr.add]
            have od:kh+f3s.length <= 1000000:=by omega
            have oe:f2s.length <= 1000000:=by omega
            have nj:Hid ((f1s.take kh).flatMap stC3++f3s.flatMap stC3=f2s.flatMap stC3/\f2s.length=kh+f3s.length):=by
              have:=qN.out
              rw [wu] at this;refine ⟨by rw [this,List.flatMap_append],by rw [this,List.length_append,List.length_take];omega⟩
            go_upto_region 22 with fail
            obtain ⟨w7,kE⟩:∃ w7,w6.alloc (.cells #[.int .i64 ms, .int .i64 mb, .int .i64 ma] 42)=w7:=⟨_,rfl⟩;rw [kE];rw [kE] at dO;have jW:=fA.below dO;have jU:=fy.below dO;have jT:=fx.below dO;have kN:=eW.below dO;have kL:=gP.below dO;have kK:=gN.below dO;have oS:Below V2.heap.size V2 w7:=oT.trans (dO.mono oT.size);clear kE l0 l1 l2 l3 l4 l5 l6 l7 lf a0 a1' a2' a3 a4 a5 a6 a7 a8 af b0 b1' b2' b3 b4 b5 b6 b7 b8 bf e0 e1' e2' e3 e4 e5 e6 e7 e8 ef fA fy fx eW gP gN dO kZ q8
            go_cut [156] (fun v156 wx=>v156 = .bool false/\Below V2.heap.size V2 wx)
            case first =>
              have ln:=jW.lt;have lk:=jU.lt;have lj:=jT.lt;obtain ⟨a0,a1',a2',a3,a4,a5,a6,a7,a8,af⟩:=x3V jW;obtain ⟨b0,b1',b2',b3,b4,b5,b6,b7,b8,bf⟩:=x3V jU;obtain ⟨e0,e1',e2',e3,e4,e5,e6,e7,e8,ef⟩:=x3V jT;have um:Below w7.heap.size w7 w7.drew:=(Below.refl _ _).drew;have dN:Below w7.heap.size w7 (w7.drew.alloc (.cells #[.slice s11 kh c11, .slice s15 f3s.length c15] 48)):=um.alloc (Nat.le_refl _) _;have rY:Calls Tryz.prog 38 #[.slice (some ⟨w7.heap.size, 0,none⟩) 2 2] (w7.drew.alloc (.cells #[.slice s11 kh c11, .slice s15 f3s.length c15] 48)) fun e w'=>(∃ v,e = .returned v/\x9C w' v f2s)/\Below w7.heap.size w7 w':=by
                have df:=NB.here w7.drew #[.slice s11 kh c11, .slice s15 f3s.length c15] 48;refine (concat_38 _ w7.heap.size 0 2 s11 s15 kh f3s.length c11 c15 _ _ (df.cell 0) (df.cell 1) ((steps_src kN wm).below dN) (by have:=(steps_src kK (Nat.le_refl _)).below dN;rw [List.take_length] at this;exact this) od).mono ?_
                rintro e w' ⟨⟨v,rfl,hv⟩,hb⟩;rw [nj.out.1] at hv;exact ⟨⟨v,rfl,v1U (S:=fun b=>b<w'.heap.size) hv nj.out.2.symm (fun b _ h=>h)⟩,dN.trans (hb.mono dN.size)⟩
              have hS:∀ w',Below w7.heap.size w7 w'->w'.cell? ⟨B13, 2,none⟩=some (.slice ya' f2s.length yc')/\w'.cell? ⟨B11, 2,none⟩=some (.slice s11 f1s.length c11)/\w'.cell? ⟨B15, 2,none⟩=some (.slice s15 f3s.length c15)/\Below w7.heap.size w7 w':=fun w' hb=>⟨(hb.cell (p:=⟨B13, 2,none⟩) lk).trans b2',(hb.cell (p:=⟨B11, 2,none⟩) ln).trans a2',(hb.cell (p:=⟨B15, 2,none⟩) lj).trans e2',hb⟩
              go_region_held3 (fun w'=>w'.cell? ⟨B13, 2,none⟩=some (.slice ya' f2s.length yc')/\w'.cell? ⟨B11, 2,none⟩=some (.slice s11 f1s.length c11)/\w'.cell? ⟨B15, 2,none⟩=some (.slice s15 f3s.length c15)/\Below w7.heap.size w7 w')
                (first
                  | (with_reducible assumption)
                  | (with_reducible exact hS _ oU)
                  | (with_reducible exact hS _ cu)
                  | exact hS _ um
                  | exact hS _ dN)
                (first
                  | (go_at_call 38;refine rY.mono ?_;rintro e w8 ⟨⟨v38,rfl,mR⟩,cu⟩;obtain ⟨g38,m38,rfl⟩:=mR.form;have kM:=kL.below cu)
                  | (go_at_call 37;refine (eqSteps_any f2s _ _ _ kM mR oe).mono ?_;rintro e w9 ⟨rfl,lV⟩;have oU:Below w7.heap.size w7 w9:=cu.trans (lV.mono cu.size)))
              all_goals
                dsimp only [Exit.then]
                refine (‹∀ (a':Act) (w':World),Met _ a' w'->_›) _ _ ?_
                go_meet
                case rel=>exact ⟨rfl,oS.trans (oU.mono oS.size)⟩
            case rest =>
              obtain ⟨rfl,xf⟩:=hcut;have xg:Below w8.heap.size w8 wc:=uu.trans (xf.mono uu.size);go_wp2;exact ⟨⟨k+1,rfl,by omega,xg⟩,by simp [intOf];omega⟩
    . go_wp2;go_ret
      exact ⟨rfl,mL.trans (aD.mono mL.size)⟩
end Go.Proofs
