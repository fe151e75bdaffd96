/- LayoutMemory -/
import Derived.Test.YtadehgdfijjikaaGreatDoorM9
import Derived.Test.YtadehgdfijjikaaGreatDoorS13
set_option linter.all false
namespace Go.Proofs.YtadehgdfijjikaaGreatDoor
open Go.RowKit Go.Proofs Go.Yec
open Go.Xec (QF)
theorem rp_clone {o:Option (Nat×Nat)}{f:Nat->Int}{w w2 w3:World}{base n:Nat}{v:Value}{xs:List Value}{X:Array Value}(h:RP o f w)(hb:Below w.heap.size w w2)(ho:w.ownsRow base 92 1 v n xs)(hg:(w2.alloc (.cells X 92)).grownBy w3 v.ownBlock):RP o f w3:=by have hk:=(Qf.below hb).trans ((Qf.below (Zk w2 (.cells X 92))).trans (Qf.grown (x2Z (x2Z ho hb) (Zk w2 (.cells X 92))) ⟨by decide,by decide,by decide⟩ hg));match o,h with|none,h=>{exact h}|some (B,D),⟨c,h1,h2⟩=>exact⟨c,⟨hk _ _ _ (.inr (.inl rfl)) h1.box,hk _ _ _ (.inr (.inr rfl)) h1.row⟩,h2⟩
theorem one_ptr (B:Nat):∀u∈[Value.pointer (some ⟨B,0,none⟩)],u.oneCell'=true:=fun u hu=>by rw[JV]at hu;rw[hu];rfl
set_option maxRecDepth 100000 in
set_option maxHeartbeats 8000000 in
theorem memory_any (L:List OpT)(w:World)(lv:Value)(hg:QF w)(hl:OpsAt w lv L):
    Calls Tryz.prog 12 #[lv] w fun e w'=>e=.returned (.bool true)/\Below w.heap.size w w':=by
  obtain⟨la,lcap,rfl⟩:=hl.form;go_enter Tryz.func12,Tryz.ntmps12
  go_wp2_with (go_at_call 14;fail)
  refine(u4J _ hg).mono ?_;rintro e w0 ⟨rfl,bi⟩;have cX:=hl.below bi
  by_cases nH:30<(L.length:Int)
  . clear hl cX;go_wp2;go_ret;exact⟨rfl,bi⟩
  have lE:=cont_61 L w0 _ (x1C bi hg) cX (by omega)
  go_wp2_with (go_at_call 61;fail)
  refine lE.mono ?_;rintro e w1 ⟨⟨c,rfl,dw⟩,hb⟩;have aK:=bi.trans (hb.mono bi.size);clear lE hb bi cX;cases c
  case' true=>
    clear dw hl;go_wp2;go_ret;exact⟨rfl,aK⟩
  have cb:=dw rfl;clear dw
  go_wp2_with (go_at_call 64;fail)
  refine(KJ _).mono ?_;rintro e w2 ⟨rfl,eE⟩
  go_wp2_with (go_at_call 65;fail)
  refine(rnew_any _).mono ?_;rintro e w5 ⟨B,D,rfl,hD,jp,hR,bp⟩;have b7:=Inv.start aK rfl bp hR hD jp;simp only[World.size_alloc]at b7;clear eE hD jp hR bp aK;go_wp2
  go_loopw [3,4,34] (fun v3 v4 v34 wr=>∃(ms:List Mm) (x:Int),v34=.int .i64 x/\0<=x/\x<=L.length/\Inv w ms v3 v4 wr/\2<=ms.length/\(ms.length:Int)<=2+x) (fun _ _ vx _=>(L.length-intOf vx).toNat)
  case atStart=>
    refine⟨_,0,rfl,by omega,by omega,b7,?_,?_⟩
    . exact qQ 2
    . exact(by decide:((2:Nat):Int)<=2+0)
  case round=>
    clear b7;obtain⟨ms,x,rfl,x0,x1,hI,n2,nx⟩:=hrel
    by_cases ah:x<(L.length:Int)
    . have bw:=hI.bl;have gl:=hl.below bw;obtain⟨b,ofs,cap,y,hv,bg,hy,hc⟩:=gl.get (i:=x.toNat) (by omega)
      cases hv;have kX:=cb y (qe hy);obtain⟨l0,l1,l2,l3,l4,l5,l6,l7,l8,l9,l10,l11,l12⟩:=(show _/\_/\_/\_/\_/\_/\_/\_/\_/\_/\_/\_/\_ from⟨hc 0 (by omega),hc 1 (by omega),hc 2 (by omega),hc 3 (by omega),hc 4 (by omega),hc 5 (by omega),hc 6 (by omega),hc 7 (by omega),hc 8 (by omega),hc 9 (by omega),hc 10 (by omega),hc 11 (by omega),hc 12 (by omega)⟩)
      obtain⟨dO,iN,aT,fR,nN,k,p,q,v,s,nv,u,S⟩:=y;unfold OpT.bad at kX;simp at l0 l1 l2 l3 l4 l5 l6 l7 l8 l9 l10 l11 l12 kX;obtain⟨r,r0,r1,hi⟩:=idx_any iN ms.length (by omega) (by omega)
      have fN:=Zk wr (.cells (opA dO iN aT fR nN k p q v s nv u S) 89);have aw:=NB.here wr (opA dO iN aT fR nN k p q v s nv u S) 89;have dX:=hI.below fN;have da:=dX.bl;obtain⟨⟨o,f⟩,hm⟩:∃m,ms[r.toNat]? =some m:=⟨ms[r.toNat]'(by omega),qW (by omega)⟩
      obtain⟨go,co,ga,ca,rfl,rfl,kx,jF,aR⟩:=dX.at (by omega)
      obtain⟨q1,q2⟩:=aR _ _ hm;obtain⟨dK,h8,im⟩:=dX.pp _ (qe hm);simp only at q1 q2 dK h8 im;obtain⟨i1,jE,fT,fW,gZ⟩:=x6T info92;obtain⟨i2,lz,jy,iB,gY⟩:=x6T info95;have fy:=da.size;have ae:¬ms.length=0:=by omega
      clear gl hc hy hI bw fN hl cb
      by_cases d5:dO=5
      . subst d5;have b6:=(Below.refl (wr.alloc (.cells (opA 5 iN aT fR nN k p q v s nv u S) 89)).heap.size (wr.alloc (.cells (opA 5 iN aT fR nN k p q v s nv u S) 89))).drew;have fw:=dX.below b6;have mN:w.heap.size<=(wr.alloc (.cells (opA 5 iN aT fR nN k p q v s nv u S) 89)).drew.heap.size:=fy;have hO:=oclone_any _ (dK.keep b6).1;have lS:=(dK.keep b6).2.1;have q2d:(wr.alloc (.cells (opA 5 iN aT fR nN k p q v s nv u S) 89)).drew.cell? ⟨ga,r.toNat,none⟩=some (rpV (oR o)):=q2;have q1d:(wr.alloc (.cells (opA 5 iN aT fR nN k p q v s nv u S) 89)).drew.cell? ⟨go,r.toNat,none⟩=some (opV (oO o)):=q1;obtain⟨pv,aJ⟩:∃pv,opV (oO o)=pv:=⟨_,rfl⟩;have hR:=fun w h=>rclone_any (o:=oR o) (f:=f) w h
        have kh:∀w':World,w'.ownsRow w.heap.size 95 1 (.slice (some ⟨ga,0,none⟩) ms.length ca) ms.length (ms.map fun m=>rpV (oR m.1))->w'.cell? ⟨ga,r.toNat,none⟩=some (rpV (oR o)):=fun w' h=>by
          rw[h.cellAt _ (by omega),qn,hm]
          rfl
        obtain⟨pr,cn⟩:∃pr,rpV (oR o)=pr:=⟨_,rfl⟩;rw[aJ]at q1 q1d hO;rw[cn]at q2 q2d hR kh;clear aJ cn aR dK;obtain⟨c0,c1,c2,c3,c4,c5,c6,c7,c8,c9,c10,c11,c12⟩:=KZ aw
        go_wp2_with (go_at_call 30;fail)
        refine(hi _).mono ?_;rintro e wI ⟨rfl,rfl⟩;go_wp2
        go_region_law (first
            |(refine y0U _ rfl (.tmp 55) (.tmp 61) 97 rfl w.heap.size 95 i2 (.pointer none) 1 8 Tryz.underlying97 lz jy iB gY rfl (by decide) (.slice (some ⟨ga,0,none⟩) ms.length ca) ms.length _ (by simp[Act.eval,Act.put]) (x2Z iD (Zk _ _)) ⟨w4.heap.size,0,none⟩ 1 1 [.pointer (some ⟨B',0,none⟩)] (by simp[Act.eval,Act.put]) rfl (fun j u hu=>cell_one_new w4 (.pointer (some ⟨B',0,none⟩)) 95 j u hu) (one_ptr B') (by unfold maxLen;omega) (by omega) (by have h1:=aq.size;have h2:=fp.size;have h3:=aY.size;rw[World.size_alloc]at h2|-;omega) ?_;intro v5 w5 jl jb nb)
            |(go_simp;go_at_call 66;refine hO.mono ?_;rintro e w2 ⟨B,c,rfl,hB,hM,hc,aq⟩;have fC:=x2Z fw.ra aq;have q2c:=kh _ fC;have np:=z6J fC rfl)
            |(go_simp;go_at_call 67;refine(hR _ (rp_clone lS aq fw.ro fp)).mono ?_;rintro e w4 ⟨B',D,c',rfl,hD,ch,aZ,aO,aY⟩;have iD:=x2Z dC aY)
            |(refine y0U _ rfl (.tmp 47) (.tmp 53) 94 rfl w.heap.size 92 i1 (.pointer none) 1 8 Tryz.underlying94 jE fT fW gZ rfl (by decide) (.slice (some ⟨go,0,none⟩) ms.length co) ms.length _ (by simp[Act.eval,Act.put]) (x2Z (x2Z fw.ro aq) (Zk _ _)) ⟨w2.heap.size,0,none⟩ 1 1 [.pointer (some ⟨B,0,none⟩)] (by simp[Act.eval,Act.put]) rfl (fun j u hu=>cell_one_new w2 (.pointer (some ⟨B,0,none⟩)) 92 j u hu) (one_ptr B) (by unfold maxLen;omega) (by omega) (by have h1:=aq.size;rw[World.size_alloc];omega) ?_;intro v3 w3 iM fp dq;have dC:=owm_other (by decide:(92:Nat)≠95) (x2Z (x2Z fw.ro aq) (Zk w2 (.cells #[.pointer (some ⟨B,0,none⟩)] 92))) (x2Z fC (Zk _ _)) fp;have q2e:=kh _ dC;have nm:=z6J dC rfl))
        all_goals
          have eT:=Inv.grow fw aq hM hc hB iM fp aY aZ aO ch hD jl jb h8;clear fw aq hM hc iM fp aY aZ aO jl jb h8 hO hR fC dC iD lS;go_wp2
          go_roundw
          case rel=>exact⟨_,x+1,rfl,by omega,by omega,eT,by simp;omega,by simp;omega⟩
          case measure=>simp[intOf];omega
      by_cases d6:dO=6
      . subst d6;obtain⟨r8,r80,r81,ly⟩:=idx_any nN ms.length (by omega) (by omega)
        obtain⟨⟨o8,f8⟩,lu⟩:∃m,ms[r8.toNat]? =some m:=⟨ms[r8.toNat]'(by omega),qW (by omega)⟩
        obtain⟨q3,q4⟩:=aR _ _ lu;obtain⟨fO,mm,-⟩:=dX.pp _ (qe lu);simp only at q3 q4 fO mm;obtain⟨rr,bb,dk,lW⟩:=osame_all h8 mm;have b6:=(Below.refl (wr.alloc (.cells (opA 6 iN aT fR nN k p q v s nv u S) 89)).heap.size (wr.alloc (.cells (opA 6 iN aT fR nN k p q v s nv u S) 89))).drew;have hG:∀w',Below (wr.alloc (.cells (opA 6 iN aT fR nN k p q v s nv u S) 89)).heap.size (wr.alloc (.cells (opA 6 iN aT fR nN k p q v s nv u S) 89)) w'->QF w':=fun w' hb=>x1C hb (x1C da hg);have hO:=fun w' (hb:Below (wr.alloc (.cells (opA 6 iN aT fR nN k p q v s nv u S) 89)).heap.size (wr.alloc (.cells (opA 6 iN aT fR nN k p q v s nv u S) 89)) w')=>lW (oO o) (oO o8) w' (hG w' hb) (dK.keep hb).1 (fO.keep hb).1
        have hR:=fun w' (hb:Below (wr.alloc (.cells (opA 6 iN aT fR nN k p q v s nv u S) 89)).heap.size (wr.alloc (.cells (opA 6 iN aT fR nN k p q v s nv u S) 89)) w')=>rsame_any (o:=oR o) (o2:=oR o8) w' (dK.keep hb).2.1 (fO.keep hb).2.1 dk;obtain⟨pv,aJ⟩:∃pv,opV (oO o)=pv:=⟨_,rfl⟩;obtain⟨pr,cn⟩:∃pr,rpV (oR o)=pr:=⟨_,rfl⟩;obtain⟨pv8,iF⟩:∃pv,opV (oO o8)=pv:=⟨_,rfl⟩;obtain⟨pr8,iI⟩:∃pr,rpV (oR o8)=pr:=⟨_,rfl⟩;rw[aJ]at q1 hO;rw[cn]at q2 hR;rw[iF]at q3 hO;rw[iI]at q4 hR
        have hq:∀w',Below (wr.alloc (.cells (opA 6 iN aT fR nN k p q v s nv u S) 89)).heap.size (wr.alloc (.cells (opA 6 iN aT fR nN k p q v s nv u S) 89)) w'->(w'.cell? ⟨go,r.toNat,none⟩=some pv/\w'.cell? ⟨go,r8.toNat,none⟩=some pv8)/\(w'.cell? ⟨ga,r.toNat,none⟩=some pr/\w'.cell? ⟨ga,r8.toNat,none⟩=some pr8):=fun w' hb=>⟨⟨(hb.cell (p:=⟨go,r.toNat,none⟩) kx).trans q1,(hb.cell (p:=⟨go,r8.toNat,none⟩) kx).trans q3⟩,(hb.cell (p:=⟨ga,r.toNat,none⟩) jF).trans q2,(hb.cell (p:=⟨ga,r8.toNat,none⟩) jF).trans q4⟩;clear aJ cn iF iI aR dK fO lW dk q1 q2 q3 q4;obtain⟨c0,c1,c2,c3,c4,c5,c6,c7,c8,c9,c10,c11,c12⟩:=KZ aw
        go_wp2_with (go_at_call 30;fail)
        refine(hi _).mono ?_;rintro e wI ⟨rfl,rfl⟩
        go_wp2_with (go_at_call 30;fail)
        refine(ly _).mono ?_;rintro e wI ⟨rfl,rfl⟩;clear c0 c1 c2 c3 c4 c5 c6 c7 c8 c9 c10 c11 c12 aw hi ly;go_wp2
        go_region_held3 (fun w'=>w'.cell? ⟨go,r.toNat,none⟩=some pv/\w'.cell? ⟨go,r8.toNat,none⟩=some pv8)
          (first
            |(with_reducible exact(hq _ bM).1)
            |(with_reducible exact(hq _ b6).1)
            |(with_reducible assumption))
          (first
            |(go_at_call 68;refine(hO _ b6).mono ?_;rintro e w2 ⟨rfl,aq⟩;have bM:=b6.trans (aq.mono (qQ _))))
        have fb:=bM.drew;clear aq hO;go_wp2
        go_region_held3 (fun w'=>w'.cell? ⟨ga,r.toNat,none⟩=some pr/\w'.cell? ⟨ga,r8.toNat,none⟩=some pr8)
          (first
            |(with_reducible exact(hq _ dp).2)
            |(with_reducible exact(hq _ fb).2)
            |(with_reducible assumption))
          (first
            |(go_at_call 69;refine(hR _ fb).mono ?_;rintro e w3 ⟨rfl,aM⟩;have dp:=fb.trans (aM.mono fb.size)))
        have au:=dX.below dp;clear aM hR bM fb dp b6 dX hq hG da;go_wp2
        go_roundw
        case rel=>exact⟨_,x+1,rfl,by omega,by omega,au,n2,by omega⟩
        case measure=>simp[intOf];omega
      by_cases d7:dO<0\/6<dO
      . clear q1 q2 aR hm dK h8 im;obtain⟨c0,c1,c2,c3,c4,c5,c6,c7,c8,c9,c10,c11,c12⟩:=KZ aw
        go_wp2_with (go_at_call 30;fail)
        refine(hi _).mono ?_;rintro e wI ⟨rfl,rfl⟩;rcases d7 with d7|d7
        all_goals
          go_wp2_with (go_at_call 64;fail)
          refine(KJ _).mono ?_;rintro e w2 ⟨rfl,eE⟩;have aq:Below (wr.alloc (.cells (opA dO iN aT fR nN k p q v s nv u S) 89)).heap.size (wr.alloc (.cells (opA dO iN aT fR nN k p q v s nv u S) 89)) w2:=by rw[eE];exact Zk _ _
          have hM:Qi (wr.alloc (.cells (opA dO iN aT fR nN k p q v s nv u S) 89)).heap.size Tryz.zeroCells170 w2:=by rw[eE];exact heap_alloc_last _ _
          clear eE c0 c1 c2 c3 c4 c5 c6 c7 c8 c9 c10 c11 c12 aw hi;obtain⟨B,me,hB⟩:∃B,(wr.alloc (.cells (opA dO iN aT fR nN k p q v s nv u S) 89)).heap.size=B/\(wr.alloc (.cells (opA dO iN aT fR nN k p q v s nv u S) 89)).heap.size<=B:=⟨_,rfl,qQ _⟩;rw[me]at hM;have bq:=aq.size;have nY:=hM.lt
          try rw[me]
          go_wp2_with (at_builtin;refine y9X _ rfl (.tmp 113) (.tmp 115) 94 rfl w.heap.size 92 i1 (.pointer none) 1 8 Tryz.underlying94 jE fT fW gZ rfl (by decide) (.slice (some ⟨go,0,none⟩) ms.length co) ms.length _ rfl (x2Z (x2Z dX.ro aq) (Zk _ _)) ⟨w2.heap.size,0,none⟩ 1 1 [.pointer (some ⟨B,0,none⟩)] rfl rfl (fun j u hu=>cell_one_new w2 (.pointer (some ⟨B,0,none⟩)) 92 j u hu) (one_ptr B) (by unfold maxLen;omega) (by omega) (by rw[World.size_alloc];omega) ?_;intro v3 w3 iM fp dq)
          have dC:=owm_other (by decide:(92:Nat)≠95) (x2Z (x2Z dX.ro aq) (Zk w2 (.cells #[.pointer (some ⟨B,0,none⟩)] 92))) (x2Z (x2Z dX.ra aq) (Zk _ _)) fp
          go_wp2_with (go_at_call 65;fail)
          refine(rnew_any _).mono ?_;rintro e w4 ⟨B',D,rfl,hD,jp,hR,aY⟩;have oC:w.heap.size<=w4.heap.size:=by
            have h2:=fp.size;have h3:=aY.size;rw[World.size_alloc]at h2;omega
          go_wp2_with (at_builtin;refine y9X _ rfl (.tmp 117) (.tmp 119) 97 rfl w.heap.size 95 i2 (.pointer none) 1 8 Tryz.underlying97 lz jy iB gY rfl (by decide) (.slice (some ⟨ga,0,none⟩) ms.length ca) ms.length _ rfl (x2Z (x2Z dC aY) (Zk _ _)) ⟨w4.heap.size,0,none⟩ 1 1 [.pointer (some ⟨B',0,none⟩)] rfl rfl (fun j u hu=>cell_one_new w4 (.pointer (some ⟨B',0,none⟩)) 95 j u hu) (one_ptr B') (by unfold maxLen;omega) (by omega) (by rw[World.size_alloc];omega) ?_;intro v5 w5 jl jb nb)
          have eT:=Inv.grow dX aq hM ZV hB iM fp aY hR bs_zeroB (by omega) hD jl jb (fun _ _=>⟨by show(0:Int)<=0;decide,by show(0:Int)<=255;decide⟩)
          clear dX aq hM iM fp aY hR jl jb dC;go_wp2
          go_roundw
          case rel=>exact⟨_,x+1,rfl,by omega,by omega,eT,by simp;omega,by simp;omega⟩
          case measure=>simp[intOf];omega
      have e1:¬dO<0:=fun h=>d7 (.inl h);have e2:¬6<dO:=fun h=>d7 (.inr h);have b6:=(Below.refl (wr.alloc (.cells (opA dO iN aT fR nN k p q v s nv u S) 89)).heap.size (wr.alloc (.cells (opA dO iN aT fR nN k p q v s nv u S) 89))).drew;have fw:=dX.below b6;have nf:s.data.toList.length=s.size:=qD;obtain⟨f',fc,hC⟩:=step_any dO iN aT fR nN k p q v s nv u S (by omega) (by omega) h8 w _ hg fw.bl (dK.keep b6) (fun B hB=>by
        match o,hB,im with
        |some (B1,B2,D1),hB,im=>cases hB;exact(im _ _ _ rfl).1)
      obtain⟨pv,aJ⟩:∃pv,opV (oO o)=pv:=⟨_,rfl⟩;obtain⟨pr,cn⟩:∃pr,rpV (oR o)=pr:=⟨_,rfl⟩;rw[aJ]at q1 hC;rw[cn]at q2 hC;clear aJ cn aR dK h8 im d7 nf;obtain⟨c0,c1,c2,c3,c4,c5,c6,c7,c8,c9,c10,c11,c12⟩:=KZ aw
      go_wp2_with (go_at_call 30;fail)
      refine(hi _).mono ?_;rintro e wI ⟨rfl,rfl⟩;go_wp2
      go_region_law (go_simp;go_at_call 70;refine hC.mono ?_;rintro e w2 ⟨rfl,fi⟩)
      all_goals
        obtain⟨ms',jC,au⟩:=Inv.step fw hm fi fc
        clear fw fi fc hC dX da aw hi c0 c1 c2 c3 c4 c5 c6 c7 c8 c9 c10 c11 c12;go_wp2
        go_roundw
        case rel=>exact⟨ms',x+1,rfl,by omega,by omega,au,by omega,by omega⟩
        case measure=>simp[intOf];omega
    . obtain⟨go,co,ga,ca,rfl,rfl,-,-,-⟩:=hI.at (by omega)
      have oD:(ms.length:Int)<=100:=by omega
      clear cb hl;go_wp2
      go_loopw [136] (fun v136 wl=>∃z:Int,v136=.int .i64 z/\0<=z/\z<=ms.length/\Inv w ms (.slice (some ⟨go,0,none⟩) ms.length co) (.slice (some ⟨ga,0,none⟩) ms.length ca) wl) (fun vz _=>(ms.length-intOf vz).toNat)
      case atStart=>exact⟨0,rfl,by omega,by omega,hI⟩
      case round=>
        clear hI;obtain⟨z,rfl,z0,z1,hJ⟩:=hrel
        by_cases hz:z<(ms.length:Int)
        . obtain⟨⟨o,f⟩,hm⟩:∃m,ms[z.toNat]? =some m:=⟨ms[z.toNat]'(by omega),qW (by omega)⟩
          obtain⟨go',co',ga',ca',h1,h2,kx,jF,aR⟩:=hJ.at (by omega)
          cases h1;cases h2;obtain⟨q1,q2⟩:=aR _ _ hm;obtain⟨dK,-,-⟩:=hJ.pp _ (qe hm);simp only at q1 q2 dK;obtain⟨⟨t,rt⟩,gK⟩:∃P,bytesS f 0 65536=P:=⟨_,rfl⟩;have hO:=fun w' h=>obytes_any (o:=oO o) 0 65536 w' h t rt gK;have hR:=fun w' h=>rbytes_any (o:=oR o) 0 65536 w' h t rt gK;obtain⟨pv,aJ⟩:∃pv,opV (oO o)=pv:=⟨_,rfl⟩;obtain⟨pr,cn⟩:∃pr,rpV (oR o)=pr:=⟨_,rfl⟩;rw[aJ]at q1 hO;rw[cn]at q2 hR;clear aJ cn aR hm gK
          go_wp2_with (go_at_call 71;fail)
          refine(hO _ dK.1).mono ?_;rintro e w2 ⟨rfl,aq⟩;have q2c:=(aq.cell (p:=⟨ga,z.toNat,none⟩) jF).trans q2;have lT:=(dK.keep aq).2.1;have lY:=hJ.below aq;clear aq hO dK hJ q1 q2
          go_wp2_with (go_at_call 72;fail)
          refine(hR _ lT).mono ?_;rintro e w3 ⟨rfl,aM⟩;have nW:=lY.below aM;clear aM hR lT lY q2c;go_wp2
          go_roundw
          case rel=>exact⟨z+1,rfl,by omega,by omega,nW⟩
          case measure=>simp[intOf];omega
        . have au:=hJ.bl;clear hJ;go_wp2;go_ret;exact⟨rfl,au⟩
end Go.Proofs.YtadehgdfijjikaaGreatDoor
