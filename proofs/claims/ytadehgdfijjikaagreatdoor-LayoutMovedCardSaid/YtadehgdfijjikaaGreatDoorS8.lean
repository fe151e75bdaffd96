/-
  find of a node of the layout, walked.
-/
import Derived.Test.YtadehgdfijjikaaGreatDoorS7
import Derived.Test.YtadehgdfijjikaaGreatDoorZ6
set_option linter.all false
namespace Go.Proofs
open Go.RowKit Go.Yec Go.Shp Go.Deep
open Go.Xec (Glob)
theorem z6P {W:World}{B:Nat}{s:Sh}{n:Nd}(h:x1T (fun b=>b<W.heap.size) W B s n):B<W.heap.size/\∃ da dcap sa scap aa acap qa qcap,
    (∀ w,Below W.heap.size W w->w.cell? ⟨B, 0,none⟩=some (.slice da s.D.length dcap)/\w.cell? ⟨B, 8,none⟩=some (.int .i64 n.u.s)/\w.cell? ⟨B, 9,none⟩=some (.int .i64 n.u.b)/\w.cell? ⟨B, 12,none⟩=some (.int .i64 n.e.b)/\w.cell? ⟨B, 14,none⟩=some (.slice sa n.st.length scap)/\w.cell? ⟨B, 15,none⟩=some (.slice aa n.at'.length acap)/\w.cell? ⟨B, 16,none⟩=some (.slice qa s.P.length qcap)) /\
    DmS (fun b=>b<W.heap.size) W (.slice da s.D.length dcap) s.D/\x3J (fun b=>b<W.heap.size) W (.slice sa n.st.length scap) n.st/\x3J (fun b=>b<W.heap.size) W (.slice aa n.at'.length acap) n.at' /\
    (s.P≠[]->∃ b o,qa=some ⟨b,o,none⟩/\b<W.heap.size/\∀ i p,s.P[i]? = some p->∃ m Bm,n.ps[i]? = some m/\(∀ w,Below W.heap.size W w->w.cell? ⟨b,o+i,none⟩=some (.pointer (some ⟨Bm, 0,none⟩)))/\x1T (fun b=>b<W.heap.size) W Bm p m):=by
  obtain ⟨D,P,t,g⟩:=s;obtain ⟨u,e,st,at0,ps⟩:=n;unfold x1T at h;obtain ⟨cW,dv,pv0,stv,av,qv,hc,hD, -, aN,eG,qa,qcap,rfl,h0,fu⟩:=h;obtain ⟨da,dcap,rfl, -⟩:=id hD;obtain ⟨sa,scap,rfl, -⟩:=id aN;obtain ⟨aa,acap,rfl, -⟩:=id eG;refine ⟨cW,da,dcap,sa,scap,aa,acap,qa,qcap,fun w hb=>?_,hD,aN,eG,fun ac=>?_⟩
  . have k:=fun i (hi:i<17)=>(hb.cell (p:=⟨B,i,none⟩) cW).trans (hc i hi);exact ⟨k 0 (by omega),k 8 (by omega),k 9 (by omega),k 12 (by omega),k 14 (by omega),k 15 (by omega),k 16 (by omega)⟩
  . obtain ⟨b,o,ha,hb⟩:=h0 ac;refine ⟨b,o,ha,hb,fun i p hp=>?_⟩;obtain ⟨m,Bm,h1,h2,h3⟩:=y0K (fu b o ha) i p hp;exact ⟨m,Bm,h1,fun w hw=>(hw.cell (p:=⟨b,o+i,none⟩) hb).trans h2,h3⟩
theorem val_D {s:Sh}{dm lv:Int}(hv:valS s dm lv=true)(h0:0 <= dm):s.D.length <= 3:=by
  obtain ⟨D,P,t,g⟩:=s
  have:=(x3C hv).1
  show D.length <= 3;omega
def FnOk (w w':World)(path:List Int)(e:Ending):Option (Sh×Nd×Int×List Stp)->Prop
  | some (s',n',off,st)=> ∃ x,e = .returned (.tuple #[x, .bool true])/\PlS (fun b=>w.heap.size <= b/\b<w'.heap.size) w' x (plc s' n' path off st)
  | none=>e = .returned (.tuple #[plV (.slice none 0 0) (.slice none 0 0) 0 0 ty00, .bool false])
set_option maxRecDepth 100000 in
set_option maxHeartbeats 8000000 in
theorem find_any (s:Sh)(n:Nd)(B:Nat)(W w:World)(pv:Value)(path:List Int)(hN:x1T (fun b=>b<W.heap.size) W B s n)(hm:mpS s=some n)(hv:valS s 0 1=true)(aC:okS s)(hB:Below W.heap.size W w)(hP:IntsAt w pv path)(hL:path.length <= 200) :
    Calls Tryz.prog 104 #[.pointer (some ⟨B, 0,none⟩),pv] w fun e w'=>FnOk w w' path e (fnd path s n n.u.s (stpN s n))/\Below w.heap.size w w':=by
  obtain ⟨pa,pcap,rfl⟩:=hP.form;obtain ⟨cW,da,dcap,sa,scap,aa,acap,qa,qcap,aZ, -, -, -, -⟩:=z6P hN;obtain ⟨wD,lG,iN,wG,wF⟩:=x5S s 0 1 hv n hm;have wC:=x3L wD;have eK:=x6D hm;have td:s.D.length <= 3:=val_D hv (by omega)
  have mZ:=fun w hB=>y0T s n B W w (.slice none 0 0) [] hN hm hB (StepsS.nil _ w) (by simp) (by omega)
  obtain ⟨F,hF⟩:∃ F,fnd path s n n.u.s (stpN s n)=F:=⟨_,rfl⟩;rw [hF];have sZ:Hid (fnd path s n n.u.s (stpN s n)=F):=hF;have iK:Hid (mpS s=some n/\valS s 0 1=true/\okS s):=⟨hm,hv,aC⟩;have dG:=NB.here w (plC (.slice none 0 0) (.slice none 0 0) 0 0 ty00) 50;have au:Below w.heap.size w (w.alloc (.cells (plC (.slice none 0 0) (.slice none 0 0) 0 0 ty00) 50)):=(Below.refl _ w).alloc (Nat.le_refl _) _;obtain ⟨c0,c8,c9,c12,c14,c15,c16⟩:=aZ _ (hB.trans (au.mono hB.size));obtain ⟨us,mT⟩:∃ us,n.u.s=us:=⟨_,rfl⟩;rw [mT] at c8 lG iN sZ;clear hF hm hv aC;have yU:B<w.heap.size:=Nat.lt_of_lt_of_le cW hB.size;go_enter Tryz.func104,Tryz.ntmps104
  go_upto_region 1 with fail
  generalize bx:w.alloc (.cells #[.slice none 0 0, .int .i64 0, .slice none 0 0, .int .i64 0, .int .i64 0, .int .i64 0, .int .i64 0, .bool false, .string ⟨#[]⟩] 50)=w1;have au:Below w.heap.size w w1:=by
    rw [<- bx];exact au
  have cg:w1.heap.size=w.heap.size+1:=by rw [<- bx];simp
  have bX:NB w1 w.heap.size (plC (.slice none 0 0) (.slice none 0 0) 0 0 ty00) 50:=by
    rw [<- bx];exact dG
  have uJ:=hP.below au;clear dG bx c0 c8 c9 c12 c14 c15 c16;obtain ⟨c0,c8,c9,c12,c14,c15,c16⟩:=aZ _ (hB.trans (au.mono hB.size));rw [mT] at c8;clear mT
  go_wp2_with (go_at_call 151;fail)
  refine (mZ _ (hB.trans (au.mono hB.size))).mono ?_;rintro e w2 ⟨⟨ov,rfl,gt⟩,hb⟩;rw [List.nil_append] at gt;have qd:=uJ.below hb;have bv:=bX.below hb;have aO:Below (w.heap.size+1) w1 w2:=hb.mono (by omega)
  have de:=x0R (S':=fun b=>w.heap.size<b/\b<w2.heap.size) (fun b h=>by omega) (KeepS.refl _ _) gt
  clear hb mZ c0 c8 c9 c12 c14 c15 c16 gt bX uJ;go_wp2
  go_loopw [0, 6, 7, 19] (fun v0 v6 v7 v19 wr=> ∃ (k off:Int) (s':Sh) (n':Nd) (B':Nat) (st:List Stp) (sv:Value) (dm lv:Int),v0 = .pointer (some ⟨B', 0,none⟩)/\v6 = .int .i64 off/\v7=sv/\v19 = .int .i64 k/\0 <= k/\k <= path.length/\0 <= off/\off <= 64+k*524352/\Hid (fnd (path.drop k.toNat) s' n' off st=F)/\x1T (fun b=>b<W.heap.size) W B' s' n'/\Hid (mpS s'=some n'/\0 <= dm/\valS s' dm lv=true/\okS s')/\Hid ((st.length:Int) <= 3*(k+1))/\StepsS (fun b=>w.heap.size<b/\b<wr.heap.size) wr sv st/\IntsAt wr (.slice pa path.length pcap) path/\NB wr w.heap.size (plC (.slice none 0 0) (.slice none 0 0) 0 0 ty00) 50/\Below (w.heap.size+1) w1 wr) (fun _ _ _ vx _=>(path.length-intOf vx).toNat)
  case atStart=>exact ⟨0,us,s,n,B,stpN s n,ov, 0, 1,rfl,rfl,rfl,rfl,by omega,by omega,by omega,by omega,(show Hid _ from sZ.out),hN,(show Hid _ from ⟨iK.out.1,by omega,iK.out.2.1,iK.out.2.2⟩),(show Hid _ from by show ((stpN s n).length:Int) <= _;omega),de,qd,bv,aO⟩
  case round =>
    clear hN iK sZ de qd bv aO aZ eK td;obtain ⟨k,off,s',n',B',st,sv,dm,lv,rfl,rfl,vt,rfl,k0,k1,o0,o1,hF,hN,cF,gM,jN,pZ,cA,aD⟩:=hrel;obtain rfl:=vt.symm;obtain ⟨hm,eQ,hv,aC⟩:=cF.out;have ak:Below w.heap.size w wr:=au.trans (aD.mono (by omega))
    have aL:Below W.heap.size W wr:=hB.trans (ak.mono hB.size);obtain ⟨x9,da,dcap,sa,scap,aa,acap,qa,qcap,aZ, -, -, eG,dI⟩:=z6P hN;obtain ⟨c0,c8,c9,c12,c14,c15,c16⟩:=aZ _ aL;have am:=y6T hm;have bD:=aD.size;have jO:=gM.out;obtain ⟨sva,svcap,rfl⟩:=jN.form
    by_cases ai:k<(path.length:Int)
    . obtain ⟨b1,o1',cap1,jL,xd,uq⟩:=pZ.at (i:=k.toNat) (by omega)
      cases jL;have gD:path.drop k.toNat=path.getD k.toNat 0::path.drop (k.toNat+1):=by
        rw [List.drop_eq_getElem_cons (by omega)]
        congr 1;simp [show k.toNat<path.length by omega]
      have fF:=hF.out;rw [gD,fnd] at fF;generalize path.getD k.toNat 0=y at uq fF
      by_cases tw:y<0
      . rw [if_neg (by omega)] at fF
        subst fF;obtain ⟨z0,z1,z2,z3,z4,z5,z6,z7,z8,zf⟩:=x3V cA;clear gM jO am eG dI aZ cF hF gD;go_wp2;refine bodyPost_ret (v:= .tuple #[plV (.slice none 0 0) (.slice none 0 0) 0 0 ty00, .bool false]) (by rw [results_cell_tmp rfl];go_simp;exact ⟨rfl,rfl,rfl,rfl,rfl⟩) rfl ⟨rfl,x2J ak (Nat.le_refl _)⟩
      . by_cases bW:(s'.P.length:Int) <= y
        . rw [if_neg (by omega)] at fF
          subst fF;obtain ⟨z0,z1,z2,z3,z4,z5,z6,z7,z8,zf⟩:=x3V cA;clear gM jO am eG dI aZ cF hF gD;go_wp2;refine bodyPost_ret (v:= .tuple #[plV (.slice none 0 0) (.slice none 0 0) 0 0 ty00, .bool false]) (by rw [results_cell_tmp rfl];go_simp;exact ⟨rfl,rfl,rfl,rfl,rfl⟩) rfl ⟨rfl,x2J ak (Nat.le_refl _)⟩
        . rw [if_pos (by omega)] at fF
          obtain ⟨b2,o2,rfl,lR,i7⟩:=dI (by intro h;rw [h] at bW;simp at bW;omega)
          obtain ⟨p,hp⟩:∃ p,s'.P[y.toNat]? = some p:=⟨_,List.getElem?_eq_getElem (by omega)⟩
          obtain ⟨m,Bm,jR,ba,qe⟩:=i7 y.toNat p hp;obtain ⟨m2,em,fT⟩:=am.2.2.2 y.toNat p hp;rw [jR] at em;cases em;obtain ⟨b3,o3,cap3,vw,sq,pW⟩:=z3F eG (i:=y.toNat) (by omega)
          cases vw;have aN:=(KeepS.below aL (S:=fun b=>b<W.heap.size) fun _ h=>h).cell (b:=b3) (i:=o3+y.toNat) sq;rw [pW] at aN;obtain ⟨a,ha⟩:∃ a,n'.at'[y.toNat]? = some a:=⟨_,List.getElem?_eq_getElem (by omega)⟩
          have bm:n'.at'.getD y.toNat 0=a:=by rw [List.getD_eq_getElem?_getD,ha];rfl
          rw [bm] at aN;have uy:=mp_at hv hm a (List.mem_of_getElem? ha);rw [hp,jR,ha] at fF;simp only at fF;have iT:=y0S hv hp;have fO:=z2W aC hp;have xU:p.D.length <= 3:=val_D iT (by omega)
          have nZ:=x6D fT;have vM:=ba _ aL;have mZ:=fun w hB hS=>y0T p m Bm W w (.slice sva st.length svcap) st qe fT hB hS (by omega) (by omega)
          have xQ:Hid (fnd (path.drop (k+1).toNat) p m (off+a) (st++stpN p m)=F):=by
            show _=_;rw [show (k+1).toNat=k.toNat+1 by omega]
            exact fF
          have vX:Hid (mpS p=some m/\0 <= dm+(s'.D.length:Int)/\valS p (dm+s'.D.length) (lv+1)=true/\okS p):=⟨fT,by omega,iT,fO⟩
          have yv:y<(n'.at'.length:Int):=by omega
          have vi:0 <= y:=by omega
          have mY:Hid (((st++stpN p m).length:Int) <= 3*(k+1+1)):=by
            show _ <= _;rw [List.length_append,nZ];omega
          clear gM am eG i7 aZ cF hF gD fF hm hv aC hp jR fT ha bm pW iT fO xU nZ ba hN
          go_wp2_with (go_at_call 151;fail)
          refine (mZ _ aL (x0R (fun b h=>h.2) (KeepS.refl _ _) jN)).mono ?_;rintro e w3 ⟨⟨ov,rfl,gt⟩,hb⟩;have kJ:=hb.size;have qZ:=x0R (S':=fun b=>w.heap.size<b/\b<w3.heap.size) (fun b h=>by omega) (KeepS.refl _ _) gt
          have xI:=pZ.below hb;have cD:=cA.below hb;have cb:=aD.trans (hb.mono (show w.heap.size+1 <= wr.heap.size by omega))
          clear hb mZ gt c0 c8 c9 c12 c14 c15 c16 aN vM;go_wp2
          go_roundw
          case rel=>exact ⟨k+1,off+a,p,m,Bm,st++stpN p m,_,dm+s'.D.length,lv+1,rfl,rfl,rfl,rfl,by omega,by omega,by omega,by omega,xQ,qe,vX,mY,qZ,xI,cD,cb⟩
          case measure=>simp [intOf];omega
    . have t6:k=path.length:=by omega
      have fF:=hF.out;rw [t6,show ((path.length:Int)).toNat=path.length by omega,List.drop_length,fnd] at fF
      subst fF;subst t6;have bL:=fun w hB hP=>z6E s' n' B' W w (.slice pa path.length pcap) (.slice sva st.length svcap) path off hN hB hP ⟨_,_,_,rfl⟩ (by omega)
      clear gM am eG dI aZ cF hF hm hv aC
      go_wp2_with (go_at_call 152;fail)
      refine (bL _ aL pZ).mono ?_;rintro e w3 ⟨⟨pv',rfl,fL⟩,hb⟩;have kJ:=hb.size;have cD:=cA.below hb;have b9:=ak.trans (hb.mono ak.size);have qD:=x0R (S':=fun b=>w.heap.size<b/\b<w3.heap.size) (fun b h=>by omega) (KeepS.below hb fun b h=>h.2) jN
      have nk:=x0P (S':=fun b=>w.heap.size<b/\b<w3.heap.size) (fun b h=>by omega) (KeepS.refl _ _) fL
      obtain ⟨va,vcap,rfl, -⟩:=id nk;obtain ⟨T,hT⟩:∃ T,cond s'.P.isEmpty s'.t ty00=T:=⟨_,rfl⟩;have o5:Hid (cond s'.P.isEmpty s'.t ty00=T):=hT;rw [hT];obtain ⟨eb,km⟩:∃ eb,n'.e.b=eb:=⟨_,rfl⟩;have rR:Hid (n'.e.b=eb):=km;rw [km];obtain ⟨z0,z1,z2,z3,z4,z5,z6,z7,z8,zf⟩:=x3V cD;clear hb bL fL c0 c8 c9 c12 c14 c15 c16 hT km jN pZ cA aD;go_wp2;refine bodyPost_ret (v:= .tuple #[plV (.slice va path.length vcap) (.slice sva st.length svcap) off eb T, .bool true]) (by rw [results_cell_tmp rfl];go_simp) rfl ⟨⟨_,rfl, ?_⟩,x2J b9 (Nat.le_refl _)⟩
      have ly:=x8U (B:=w.heap.size) (y0:= .slice va path.length vcap) (y1:= .int .i64 off) (y2:= .slice sva st.length svcap) (y3:= .int .i64 eb) (y4:= .int .i64 T.k) (y5:= .int .i64 T.p) (y6:= .int .i64 T.q) (y7:= .bool T.v) (y8:= .string T.pic) (KeepS.refl (fun b=>w.heap.size<b/\b<w3.heap.size) w3) (fun h=>by omega)
      have h9:=ly.1;exact ⟨_,_,by rw [plc,rR.out,o5.out],x0P (fun b h=>by omega) ly nk,x0R (fun b h=>by omega) ly qD⟩
end Go.Proofs
