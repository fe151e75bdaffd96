/-
  leaves of a node: the closure;its call at a leaf.;leaves of a node: at a leaf.;leaves of a node: all of them, in order, by induction over the shape.;A range over the leaves of a node, in a function's body.
-/
import Derived.Test.YtadehgdfijjikaaGreatDoorS7
import Derived.Test.YtadehgdfijjikaaGreatDoorS8
import Derived.Test.YtadehgdfijjikaaGreatDoorZ7
import Derived.Stop.RegionWithIn
import Derived.RangeFuncCalls
import Derived.WalkKit
import Derived.TacticsInMore
import Derived.Deep.RegionHeld3
set_option linter.all false
set_option maxRecDepth 100000
namespace Go.Proofs
open Go.RowKit Go.Yec Go.Shp Go.Deep
open Go.Xec (Glob)
attribute [local go_sem] Oper.semAt_some
theorem z0S {S:Nat->Prop}{W:World}{B:Nat}{s:Sh}{n:Nd}(h:x1T S W B s n):S B/\∃ aa acap qa qcap,
    (∀ w,KeepS S W w->w.cell? ⟨B, 8,none⟩=some (.int .i64 n.u.s)/\w.cell? ⟨B, 9,none⟩=some (.int .i64 n.u.b)/\w.cell? ⟨B, 15,none⟩=some (.slice aa n.at'.length acap)/\w.cell? ⟨B, 16,none⟩=some (.slice qa s.P.length qcap)) /\
    x3J S W (.slice aa n.at'.length acap) n.at' /\
    (s.P≠[]->∃ b o,qa=some ⟨b,o,none⟩/\S b/\∀ i p,s.P[i]? = some p->∃ m Bm,n.ps[i]? = some m/\(∀ w,KeepS S W w->w.cell? ⟨b,o+i,none⟩=some (.pointer (some ⟨Bm, 0,none⟩)))/\x1T S W Bm p m):=by
  obtain ⟨D,P,t,g⟩:=s;obtain ⟨u,e,st,at0,ps⟩:=n;unfold x1T at h;obtain ⟨cW,dv,pv0,stv,av,qv,hc,hD, -, aN,eG,qa,qcap,rfl,h0,fu⟩:=h;obtain ⟨aa,acap,rfl, -⟩:=id eG;refine ⟨cW,aa,acap,qa,qcap,fun w hb=>?_,eG,fun ac=>?_⟩
  . have k:=fun i (hi:i<17)=>(hb.cell (i:=i) cW).trans (hc i hi);exact ⟨k 8 (by omega),k 9 (by omega),k 15 (by omega),k 16 (by omega)⟩
  . obtain ⟨b,o,ha,hb⟩:=h0 ac;refine ⟨b,o,ha,hb,fun i p hp=>?_⟩;obtain ⟨m,Bm,h1,h2,h3⟩:=y0K (fu b o ha) i p hp;exact ⟨m,Bm,h1,fun w hw=>(hw.cell hb).trans h2,h3⟩
set_option maxHeartbeats 2000000 in
theorem y3P (B:Nat)(pa sa:Option Addr)(pn pc sn sc:Nat)(off:Int)(w:World):Calls Tryz.prog 98 #[.pointer (some ⟨B, 0,none⟩), .slice pa pn pc, .int .i64 off, .slice sa sn sc] w fun e w' =>
    e = .returned (.func (.func 150) #[] #[.pointer (some ⟨w.heap.size, 0,none⟩), .pointer (some ⟨w.heap.size+3, 0,none⟩), .pointer (some ⟨w.heap.size+1, 0,none⟩), .pointer (some ⟨w.heap.size+2, 0,none⟩)]) /\
      w'=(((w.alloc (.cells #[.pointer (some ⟨B, 0,none⟩)] 128)).alloc (.cells #[.slice pa pn pc] 32)).alloc (.cells #[.int .i64 off] 3)).alloc (.cells #[.slice sa sn sc] 48):=by
  go_enter Tryz.func98,Tryz.ntmps98;go_wp2;go_ret;exact ⟨rfl,rfl⟩
attribute [local go_sem] Oper.semAt_some
set_option maxHeartbeats 8000000 in
theorem y9T (D:List (Int×Int))(t:Ty)(g:Bool):∀ (n:Nd) (dm lv:Int) (path:List Int) (off:Int) (st:List Stp) (W:World) (C:Nat->Prop) (J:Nat->(Nat->Prop)->World->Prop) (l i0 B b1 b2 b3 b4:Nat) (pv sv:Value),
    mpS (.node D [] t g)=some n->valS (.node D [] t g) dm lv=true->0 <= dm->okS (.node D [] t g)->0 <= off->off <= lv*524352->(path.length:Int)<lv->(st.length:Int) <= dm ->
    x1T (fun b=>b<W.heap.size/\¬ C b) W B (.node D [] t g) n ->
    (W.cell? ⟨b1, 0,none⟩=some (.pointer (some ⟨B, 0,none⟩))/\¬ C b1)->(W.cell? ⟨b2, 0,none⟩=some sv/\¬ C b2)->(W.cell? ⟨b3, 0,none⟩=some pv/\¬ C b3)->(W.cell? ⟨b4, 0,none⟩=some (.int .i64 off)/\¬ C b4) ->
    x3J (fun b=>b<W.heap.size/\¬ C b) W pv path->StepsS (fun b=>b<W.heap.size/\¬ C b) W sv st ->
    Abd W.heap.size J->J i0 C W ->
    (∀ j x C1 W1 p,(lvS (.node D [] t g) n path off st)[j]? = some p->J (i0+j) C1 W1->PlS (fun b=>b<W1.heap.size/\¬ C1 b) W1 x p->Yld Tryz.prog l x W1 fun W'=> ∃ C',J (i0+j+1) C' W'/\Kpc C1 W1 C' W') ->
    Calls Tryz.prog 150 #[.func (.yield l) #[] #[], .pointer (some ⟨b1, 0,none⟩), .pointer (some ⟨b2, 0,none⟩), .pointer (some ⟨b3, 0,none⟩), .pointer (some ⟨b4, 0,none⟩)] W fun e W'=>(∃ v,e = .returned v)/\∃ C',J (i0+(lvS (.node D [] t g) n path off st).length) C' W'/\Kpc C W C' W':=by
  intro n dm lv path off st W C J l i0 B b1 b2 b3 b4 pv sv hm hv eQ aC pS gu bL eK hN h1 h2 h3 h4 hp hs hA hJ hY;obtain ⟨X,hX⟩:∃ X,lvS (.node D [] t g) n path off st=X:=⟨_,rfl⟩;rw [hX] at hY |-
  have kG:=x3C hv;have xV:D.length <= 3:=by have:=kG.1;omega
  have jZ:=kG.2.1;have am:=y6T hm;have dA:=x6D hm;have br:∀ b,(b<W.heap.size/\¬ C b)->b<W.heap.size:=fun b h=>h.1;have gW:=fun w hB hS=>y0T (.node D [] t g) n B W w sv st (x1G br (KeepS.refl _ W) hN) hm hB hS (by omega) (show D.length <= 100 by omega)
  have eY:x9C W sv st:=x0R br (KeepS.refl _ W) hs;obtain ⟨sa,sc,rfl⟩:=hs.form;obtain ⟨pa,pc,rfl⟩:∃ a c,pv = .slice a path.length c:=by obtain ⟨a,c,h, -⟩:=hp;exact ⟨a,c,h⟩
  refine (callsIn_wide (n:= 0)).1 (callsIn_of_wp_marks Tryz.func150 rfl trivial ?_ rfl);refine wpIn_wide.2 ?_;simp only [Tryz.ntmps150,List.size_toArray,List.length_cons,List.length_nil,Nat.reduceAdd,Nat.reduceSub,Array.replicate_succ,Array.replicate_zero,List.push_toArray,List.append_toArray,List.nil_append,List.cons_append];obtain ⟨c1,n1⟩:=h1;obtain ⟨c2,n2⟩:=h2;obtain ⟨c3,n3⟩:=h3;obtain ⟨c4,n4⟩:=h4;have l1:=World.block_lt_of_cell? _ _ c1;have l2:=World.block_lt_of_cell? _ _ c2;have l3:=World.block_lt_of_cell? _ _ c3;have l4:=World.block_lt_of_cell? _ _ c4;simp only at l1 l2 l3 l4;have dP:Below W.heap.size W (W.alloc (.cells #[.func (.yield l) #[] #[]] 149)):=(Below.refl _ W).alloc (Nat.le_refl _) _
  go_wp2_with (go_at_call 151;fail)
  refine (gW _ dP (eY.below dP)).mono ?_;rintro e w2 ⟨⟨ov,rfl,gt⟩,hb⟩;have aB:Below W.heap.size W w2:=dP.trans (hb.mono dP.size);have dY:=aB.size;have fI:=hb.size;simp only [World.size_alloc] at fI;have mV:W.heap.size<w2.drew.heap.size:=by show _<w2.heap.size;omega
  have fV:Kpc C W C w2:=Kpc.of_below aB;have sY:J i0 C w2:=hA.itk _ _ _ _ hJ (Itk.of_below aB);have gI:w2.cell? ⟨W.heap.size, 0,none⟩=some (.func (.yield l) #[] #[]):=by
    rw [hb.cell (p:=⟨W.heap.size, 0,none⟩) (by simp)]
    simp
  have kB:¬ C W.heap.size:=fun h=>by have:=hA.lt _ _ _ hJ _ h;omega
  have gz:KeepS (fun b=>b<W.heap.size/\¬ C b) W w2:=KeepS.below aB fun b h=>h.1;have bU:∀ b,(b<W.heap.size/\¬ C b)->b<w2.heap.size/\¬ C b:=fun b h=>⟨by omega,h.2⟩
  have pd:=x1G bU gz hN;have fN:=x0P bU gz hp;have de:StepsS (fun b=>b<w2.heap.size/\¬ C b) w2 ov (st++stpN (.node D [] t g) n):=x0R (fun b h=>⟨h.2,fun hc=>by have:=hA.lt _ _ _ hJ _ hc;simp only [World.size_alloc] at h;omega⟩) (KeepS.refl _ _) gt
  have d1:=(aB.cell (p:=⟨b1, 0,none⟩) l1).trans c1;have d3:=(aB.cell (p:=⟨b3, 0,none⟩) l3).trans c3;have d4:=(aB.cell (p:=⟨b4, 0,none⟩) l4).trans c4;clear gW eY gt c1 c2 c3 c4 hs gz hN hp hb dP;obtain ⟨oa,oc,rfl⟩:=de.form;obtain ⟨uT,aa,acap,qa,qcap,aZ,eG,dI⟩:=z0S pd;obtain ⟨e8,e9,e15,e16⟩:=aZ w2 (KeepS.refl _ _);have bL:=fun w hB hP=>z6E (.node D [] t g) n B w2 w (.slice pa path.length pc) (.slice oa (st++stpN (.node D [] t g) n).length oc) path off (x1G (fun b h=>h.1) (KeepS.refl _ _) pd) hB hP ⟨_,_,_,rfl⟩ (by omega)
  have nX:=y4U (D:=D) (t:=t) (g:=g) (n:=n) (path:=path) (off:=off) (st:=st);rw [nX] at hX;have vS:IntsAt w2.drew (.slice pa path.length pc) path:=x0P (fun b h=>h.1) (KeepS.below ((Below.refl w2.heap.size w2).drew) fun b h=>h.1) fN;have uU:Below w2.heap.size w2 w2.drew:=(Below.refl _ _).drew;have uA:∀ w3 pv',Below w2.heap.size w2 w3->x3J (fun b=>w2.heap.size <= b/\b<w3.heap.size) w3 pv' path->∃ fn tmps assign body,(Instr.yield l #[plV pv' (.slice oa (st++stpN (.node D [] t g) n).length oc) off n.e.b (cond (Sh.node D [] t g).P.isEmpty (Sh.node D [] t g).t ty00)]).run Tryz.prog w3 = .ok (.round l fn tmps assign body) w3/\RoundIn Fence.wide 0 Tryz.prog l fn tmps assign body w3 fun e W'=>e = .returned (.bool true)/\∃ C',J (i0+1) C' W'/\Kpc C W C' W':=fun w3 pv' b9 fL=>by
    have xP:=hA.itk _ _ _ _ sY (Itk.of_below b9);have ai:∀ b,C b->b<W.heap.size:=hA.lt _ _ _ hJ;have qI:=b9.size;have qO:x3J (fun b=>b<w3.heap.size/\¬ C b) w3 pv' path:=x0P (fun b h=>⟨h.2,fun hc=>by have:=ai _ hc;have:=h.1;omega⟩) (KeepS.refl _ _) fL
    have qY:StepsS (fun b=>b<w3.heap.size/\¬ C b) w3 (.slice oa (st++stpN (.node D [] t g) n).length oc) (st++stpN (.node D [] t g) n):=x0R (fun b h=>⟨by have:=h.1;omega,h.2⟩) (KeepS.below b9 fun b h=>h.1) de
    obtain ⟨fn,tmps,assign,body,h1,h2⟩:=hY 0 (plV pv' (.slice oa (st++stpN (.node D [] t g) n).length oc) off n.e.b (cond (Sh.node D [] t g).P.isEmpty (Sh.node D [] t g).t ty00)) C w3 _ (by rw [<- hX];rfl) xP ⟨pv',_,rfl,qO,qY⟩ 0
    refine ⟨fn,tmps,assign,body,h1,h2.mono ?_⟩;rintro e W' ⟨rfl,C',hj,hk⟩;exact ⟨rfl,C',hj,(fV.trans (Kpc.of_below b9)).trans hk⟩
  have e16':w2.cell? ⟨B, 16,none⟩=some (.slice qa 0 qcap):=e16;obtain ⟨T,hT⟩:∃ T,cond (Sh.node D [] t g).P.isEmpty (Sh.node D [] t g).t ty00=T:=⟨_,rfl⟩;obtain ⟨eb,km⟩:∃ eb,n.e.b=eb:=⟨_,rfl⟩;obtain ⟨sl,fK⟩:∃ sl,(st++stpN (.node D [] t g) n).length=sl:=⟨_,rfl⟩;rw [hT,km,fK] at uA;rw [hT,km,fK] at bL;have wU:w2.drew.cell? ⟨W.heap.size, 0,none⟩=some (.func (.yield l) #[] #[]):=gI;have uC:X.length=1:=by rw [<- hX];rfl
  clear hT km e16 pd hY nX hX am kG dA eG dI aZ hm hv aC de fN
  go_upto_region 3 with fail
  refine (wpIn_wide (n:= 0)).1 ?_;refine wpIn_mono (Q:=NoPanic _) ?_ NoPanic.imp
  gi_region_with (first
    | (refine ⟨trivial,rfl, ?_⟩;gi_at_call 152;refine (callsIn_wide.2 (bL _ uU vS)).mono ?_;rintro e w3 ⟨⟨pv',rfl,fL⟩,hb⟩;obtain ⟨va,vc,rfl⟩:∃ a c,pv' = .slice a path.length c:=(by obtain ⟨a,c,h, -⟩:=fL;exact ⟨a,c,h⟩);obtain ⟨fn,tmps,assign,body,hy,hR⟩:=uA _ _ (uU.trans hb) fL;have wT:=(hb.cell (p:=⟨W.heap.size, 0,none⟩) mV).trans wU)
    | (refine ⟨rfl, ?_⟩;refine hR.mono ?_;rintro e w4 ⟨rfl,C',hj,hk⟩))
  all_goals refine NoPanic.normal ?_
  all_goals go_wp2
  all_goals exact ⟨_,results_none rfl _ _ _,⟨_,rfl⟩,C',by rw [uC];exact hj,hk⟩
attribute [local go_sem] Oper.semAt_some
theorem y1D {w:World}{B t:Nat}{c:Array Value}(h:B=w.heap.size):NB (w.alloc (.cells c t)) B c t:=h▸NB.here w c t
set_option maxHeartbeats 8000000 in
theorem z3D (s:Sh):∀ (n:Nd) (dm lv:Int) (path:List Int) (off:Int) (st:List Stp) (W:World) (C:Nat->Prop) (J:Nat->(Nat->Prop)->World->Prop) (l i0 B b1 b2 b3 b4:Nat) (pv sv:Value),
    mpS s=some n->valS s dm lv=true->0 <= dm->okS s->0 <= off->off <= lv*524352->(path.length:Int)<lv->(st.length:Int) <= dm ->
    x1T (fun b=>b<W.heap.size/\¬ C b) W B s n ->
    (W.cell? ⟨b1, 0,none⟩=some (.pointer (some ⟨B, 0,none⟩))/\¬ C b1)->(W.cell? ⟨b2, 0,none⟩=some sv/\¬ C b2)->(W.cell? ⟨b3, 0,none⟩=some pv/\¬ C b3)->(W.cell? ⟨b4, 0,none⟩=some (.int .i64 off)/\¬ C b4) ->
    x3J (fun b=>b<W.heap.size/\¬ C b) W pv path->StepsS (fun b=>b<W.heap.size/\¬ C b) W sv st ->
    Abd W.heap.size J->J i0 C W ->
    (∀ j x C1 W1 p,(lvS s n path off st)[j]? = some p->J (i0+j) C1 W1->PlS (fun b=>b<W1.heap.size/\¬ C1 b) W1 x p->Yld Tryz.prog l x W1 fun W'=> ∃ C',J (i0+j+1) C' W'/\Kpc C1 W1 C' W') ->
    Calls Tryz.prog 150 #[.func (.yield l) #[] #[], .pointer (some ⟨b1, 0,none⟩), .pointer (some ⟨b2, 0,none⟩), .pointer (some ⟨b3, 0,none⟩), .pointer (some ⟨b4, 0,none⟩)] W fun e W'=>(∃ v,e = .returned v)/\∃ C',J (i0+(lvS s n path off st).length) C' W'/\Kpc C W C' W':=by
  induction s using Sh.ind with
  | h D P t g ih =>
  intro n dm lv path off st W C J l i0 B b1 b2 b3 b4 pv sv hm hv eQ aC pS gu bL eK hN h1 h2 h3 h4 hp hs hA hJ hY;cases P with
  | nil=>exact y9T D t g n dm lv path off st W C J l i0 B b1 b2 b3 b4 pv sv hm hv eQ aC pS gu bL eK hN h1 h2 h3 h4 hp hs hA hJ hY
  | cons p0 P0 =>
  obtain ⟨X,hX⟩:∃ X,lvS (.node D (p0::P0) t g) n path off st=X:=⟨_,rfl⟩;rw [hX] at hY |-;have sR:Hid (P0.length <= 99):=by
    have h:=aC.2.1;simp only [List.length_cons] at h;show P0.length <= 99;omega
  have kG:=x3C hv;have xV:D.length <= 3:=by have:=kG.1;omega
  have jZ:=kG.2.1;have am:=y6T hm;have dA:=x6D hm;have br:∀ b,(b<W.heap.size/\¬ C b)->b<W.heap.size:=fun b h=>h.1;have gW:=fun w hB hS=>y0T (.node D (p0::P0) t g) n B W w sv st (x1G br (KeepS.refl _ W) hN) hm hB hS (by omega) (show D.length <= 100 by omega)
  have eY:x9C W sv st:=x0R br (KeepS.refl _ W) hs;obtain ⟨sa,sc,rfl⟩:=hs.form;obtain ⟨pa,pc,rfl⟩:∃ a c,pv = .slice a path.length c:=by obtain ⟨a,c,h, -⟩:=hp;exact ⟨a,c,h⟩
  refine (callsIn_wide (n:= 0)).1 (callsIn_of_wp_marks Tryz.func150 rfl trivial ?_ rfl);refine wpIn_wide.2 ?_;simp only [Tryz.ntmps150,List.size_toArray,List.length_cons,List.length_nil,Nat.reduceAdd,Nat.reduceSub,Array.replicate_succ,Array.replicate_zero,List.push_toArray,List.append_toArray,List.nil_append,List.cons_append];obtain ⟨c1,n1⟩:=h1;obtain ⟨c2,n2⟩:=h2;obtain ⟨c3,n3⟩:=h3;obtain ⟨c4,n4⟩:=h4;have l1:=World.block_lt_of_cell? _ _ c1;have l2:=World.block_lt_of_cell? _ _ c2;have l3:=World.block_lt_of_cell? _ _ c3;have l4:=World.block_lt_of_cell? _ _ c4;simp only at l1 l2 l3 l4;have dP:Below W.heap.size W (W.alloc (.cells #[.func (.yield l) #[] #[]] 149)):=(Below.refl _ W).alloc (Nat.le_refl _) _
  go_wp2_with (go_at_call 151;fail)
  refine (gW _ dP (eY.below dP)).mono ?_;rintro e w2 ⟨⟨ov,rfl,gt⟩,hb⟩;have aB:Below W.heap.size W w2:=dP.trans (hb.mono dP.size);have dY:=aB.size;have fI:=hb.size;simp only [World.size_alloc] at fI;have mV:W.heap.size<w2.drew.heap.size:=by show _<w2.heap.size;omega
  have fV:Kpc C W C w2:=Kpc.of_below aB;have sY:J i0 C w2:=hA.itk _ _ _ _ hJ (Itk.of_below aB);have gI:w2.cell? ⟨W.heap.size, 0,none⟩=some (.func (.yield l) #[] #[]):=by
    rw [hb.cell (p:=⟨W.heap.size, 0,none⟩) (by simp)]
    simp
  have kB:¬ C W.heap.size:=fun h=>by have:=hA.lt _ _ _ hJ _ h;omega
  have gz:KeepS (fun b=>b<W.heap.size/\¬ C b) W w2:=KeepS.below aB fun b h=>h.1;have bU:∀ b,(b<W.heap.size/\¬ C b)->b<w2.heap.size/\¬ C b:=fun b h=>⟨by omega,h.2⟩
  have pd:=x1G bU gz hN;have fN:=x0P bU gz hp;have de:StepsS (fun b=>b<w2.heap.size/\¬ C b) w2 ov (st++stpN (.node D (p0::P0) t g) n):=x0R (fun b h=>⟨h.2,fun hc=>by have:=hA.lt _ _ _ hJ _ hc;simp only [World.size_alloc] at h;omega⟩) (KeepS.refl _ _) gt
  have d1:=(aB.cell (p:=⟨b1, 0,none⟩) l1).trans c1;have d3:=(aB.cell (p:=⟨b3, 0,none⟩) l3).trans c3;have d4:=(aB.cell (p:=⟨b4, 0,none⟩) l4).trans c4;clear gW eY gt c1 c2 c3 c4 hs gz hN hp hb dP;obtain ⟨oa,oc,rfl⟩:=de.form;obtain ⟨uT,aa,acap,qa,qcap,aZ,eG,dI⟩:=z0S pd;obtain ⟨e8,e9,e15,e16⟩:=aZ w2 (KeepS.refl _ _)
  . have uE:lvL (p0::P0) n.ps n.at' 0 path off (st++stpN (.node D (p0::P0) t g) n)=X:=by rw [<- hX,y4T]
    obtain ⟨pb,po,rfl,yC,i7⟩:=dI (by simp [Sh.P])
    have sD:Hid (lvL (p0::P0) n.ps n.at' 0 path off (st++stpN (.node D (p0::P0) t g) n)=X):=uE;have e16':w2.cell? ⟨B, 16,none⟩=some (.slice (some ⟨pb,po,none⟩) (P0.length+1) qcap):=e16;obtain ⟨sl,fK⟩:∃ sl,(st++stpN (.node D (p0::P0) t g) n).length=sl:=⟨_,rfl⟩;rw [fK] at de |-
    clear e16 uE hX dI;have xM:∀ C1 wr,Kpc C w2 C1 wr->KeepS (fun b=>b<w2.heap.size/\¬ C b) w2 wr:=fun C1 wr h=>⟨h.below.size,fun b hb=>(h.same b hb.1 hb.2).1⟩;have xj:((P0.length:Int)+1==0)=false:=by rw [beq_eq_false_iff_ne];omega
    go_wp2
    refine wp_loop (fun a wr=> ∃ (x:Nat) (C1:Nat->Prop) (Ds:List Nat) (pre:List Pl) (u7 u8 u9 u32 u33 u34 u35 u36 u37 u38 u39 u40 u41 u42 u43 u44 u45 u46 u47 u48 u49 u50 u51 u52 u53 u54 u55 u56 u57 u58 u59:Value),a={ tmps:= #[.func (.yield l) #[] #[], .pointer (some ⟨b1, 0,none⟩), .pointer (some ⟨b2, 0,none⟩), .pointer (some ⟨b3, 0,none⟩), .pointer (some ⟨b4, 0,none⟩), .pointer (some ⟨W.heap.size, 0,none⟩), .slice oa sl oc,u7,u8,u9, .pointer (some ⟨B, 0,none⟩), .slice sa st.length sc, .slice oa sl oc, .pointer (some ⟨B, 0,none⟩), .pointer (some ⟨B, 0,none⟩), .pointer (some ⟨B, 16,none⟩), .slice (some ⟨pb,po,none⟩) (P0.length+1) qcap, .int .i64 (P0.length+1), .bool false,undef,undef,undef,undef,undef,undef,undef, .pointer (some ⟨B, 0,none⟩), .pointer (some ⟨B, 0,none⟩), .pointer (some ⟨B, 16,none⟩), .slice (some ⟨pb,po,none⟩) (P0.length+1) qcap, .int .i64 (P0.length+1), .int .i64 (x:Nat),u32,u33,u34,u35,u36,u37,u38,u39,u40,u41,u42,u43,u44,u45,u46,u47,u48,u49,u50,u51,u52,u53,u54,u55,u56,u57,u58,u59],defers:=Ds.map fun D=> { target:= .collected D,args:= #[] } }/\x <= P0.length+1/\Hid (pre++lvL ((p0::P0).drop x) (n.ps.drop x) (n.at'.drop x) x path off (st++stpN (.node D (p0::P0) t g) n)=X)/\J (i0+pre.length) C1 wr/\Kpc C w2 C1 wr/\Ds.Nodup/\∀ D∈Ds,wr.heap[D]? = some (.deferred (some []))/\w2.heap.size <= D/\¬ C1 D)
      (fun a _=>((P0.length:Int)+1-intOf (a.tmps.getD 31 undef)).toNat) ?start ?round
    case start =>
      exact ⟨0,C,[],[],_,_,_,_,_,_,_,_,_,_,_,_,_,_,_,_,_,_,_,_,_,_,_,_,_,_,_,_,_,_,_,rfl,by omega,by simpa using sD,by simpa using sY,Kpc.refl _ _,List.nodup_nil,fun D hD=>by cases hD⟩
    case round =>
      rintro a wr ⟨x,C1,Ds,pre,u7,u8,u9,u32,u33,u34,u35,u36,u37,u38,u39,u40,u41,u42,u43,u44,u45,u46,u47,u48,u49,u50,u51,u52,u53,u54,u55,u56,u57,u58,u59,rfl,hx,uB,qh,mH,bM,pk⟩;have hK:=xM C1 wr mH;have bD:=mH.below.size;have uS:∀ b,(b<w2.heap.size/\¬ C b)->¬ C1 b:=fun b hb=>(mH.same b hb.1 hb.2).2
      by_cases ai:x<P0.length+1
      . obtain ⟨p,bF⟩:∃ p,(p0::P0)[x]? = some p:=⟨_,List.getElem?_eq_getElem (by simpa using ai)⟩
        obtain ⟨m,Bm,jR,ba,qe⟩:=i7 x p bF;obtain ⟨m2,em,fT⟩:=am.2.2.2 x p bF;rw [jR] at em;cases em;have sw:n.at'.length=P0.length+1:=am.2.1;obtain ⟨sb,so,scp,jN,my,tH⟩:=z3F eG (i:=x) (by omega)
        cases jN;obtain ⟨a,ha⟩:∃ a,n.at'[x]? = some a:=⟨_,List.getElem?_eq_getElem (by omega)⟩
        have bm:n.at'.getD x 0=a:=by rw [List.getD_eq_getElem?_getD,ha];rfl
        rw [bm] at tH;have uy:=mp_at hv hm a (List.mem_of_getElem? ha);have iT:valS p (dm+D.length) (lv+1)=true:=y0S hv bF;have fO:okS p:=z2W aC bF;have mW:=lvL_drop bF jR ha path off (st++stpN (.node D (p0::P0) t g) n);have mG:=uB.out;rw [mW] at mG;have f1:=(hK.cell (b:=b1) (i:= 0) ⟨by omega,n1⟩).trans d1
        have f3:=(hK.cell (b:=b3) (i:= 0) ⟨by omega,n3⟩).trans d3
        have f4:=(hK.cell (b:=b4) (i:= 0) ⟨by omega,n4⟩).trans d4
        have f5:=(aZ wr hK).2.2.1;have f6:=(hK.cell (b:=sb) (i:=so+x) my).trans tH;have f7:=ba wr hK;have fM:=x0P (S':=fun b=>b<wr.heap.size) (fun b hb=>Nat.lt_of_lt_of_le hb.1 bD) hK fN;obtain ⟨i1,cy,ce,aK,bW⟩:=x6T v5R;have nr:IntsAt wr (.slice pa path.length pc) path:=z7C fM;obtain ⟨pao,pcp,nu,eR, -⟩:=nr.news;cases nu;have fa:∀ w',Below wr.heap.size wr w'->∀ ad,pa=some ad->∀ j u,(path.map fun y=>Value.int .i64 y)[j]? = some u->w'.cell? (ad.add j)=some u:=fun w' hb=>by
          obtain ⟨ao',cap',he, -, h2⟩:=(nr.below hb).news;cases he;exact h2
        have gy:(path.map fun y=>Value.int .i64 y).length=path.length*1:=by simp
        have aR:=y6V path;generalize fH:(path.map fun y=>Value.int .i64 y)=xs at fa gy aR;have dX:Hid (path.map (fun y=>Value.int .i64 y)=xs):=fH;clear fH;have eS:Below wr.heap.size wr wr:=Below.refl _ _;have tj:b1<wr.heap.size:=by omega
        have th:b3<wr.heap.size:=by omega
        have tg:b4<wr.heap.size:=by omega
        have aG:B<wr.heap.size:=by have:=uT.1;omega
        have qG:sb<wr.heap.size:=by have:=my.1;omega
        have mi:∀ w',Below wr.heap.size wr w'->w'.cell? ⟨b3, 0,none⟩=some (.slice pa path.length pc)/\w'.cell? ⟨b4, 0,none⟩=some (.int .i64 off)/\w'.cell? ⟨b1, 0,none⟩=some (.pointer (some ⟨B, 0,none⟩))/\w'.cell? ⟨B, 15,none⟩=some (.slice (some ⟨sb,so,none⟩) n.at'.length acap)/\w'.cell? ⟨sb,so+x,none⟩=some (.int .i64 a)/\Below wr.heap.size wr w':=fun w' hb=>⟨(hb.cell (p:=⟨b3, 0,none⟩) th).trans f3,(hb.cell (p:=⟨b4, 0,none⟩) tg).trans f4,(hb.cell (p:=⟨b1, 0,none⟩) tj).trans f1,(hb.cell (p:=⟨B, 15,none⟩) aG).trans f5,(hb.cell (p:=⟨sb,so+x,none⟩) qG).trans f6,hb⟩;have yx:x<n.at'.length:=by omega
        have bX:(x:Int)<(n.at'.length:Int):=by omega
        have dG:(0:Int) <= (x:Int):=by omega
        have yD:0 <= off+a/\off+a <= (lv+1)*524352:=by omega
        have yy:IntKind.i64.wrap (off+a)=off+a:=w64i (by omega)
        clear sw am
        go_upto_region 7 with fail
        go_cut [53] from 32 to 53 (fun v53 wx=> ∃ (q:Nat) (pv':Value),v53 = .func (.func 150) #[] #[.pointer (some ⟨q, 0,none⟩), .pointer (some ⟨q+3, 0,none⟩), .pointer (some ⟨q+1, 0,none⟩), .pointer (some ⟨q+2, 0,none⟩)]/\wr.heap.size <= q/\q+4 <= wx.heap.size/\NB wx q #[.pointer (some ⟨Bm, 0,none⟩)] 128/\NB wx (q+1) #[pv'] 32/\NB wx (q+2) #[.int .i64 (off+a)] 3/\NB wx (q+3) #[.slice oa sl oc] 48/\x3J (fun b=>wr.heap.size <= b/\b<wx.heap.size) wx pv' (path++[(x:Int)])/\Below wr.heap.size wr wx)
        case first =>
          go_region_held3 (fun w'=>w'.cell? ⟨b3, 0,none⟩=some (.slice pa path.length pc)/\w'.cell? ⟨b4, 0,none⟩=some (.int .i64 off)/\w'.cell? ⟨b1, 0,none⟩=some (.pointer (some ⟨B, 0,none⟩))/\w'.cell? ⟨B, 15,none⟩=some (.slice (some ⟨sb,so,none⟩) n.at'.length acap)/\w'.cell? ⟨sb,so+x,none⟩=some (.int .i64 a)/\Below wr.heap.size wr w')
            (first
              | (with_reducible assumption)
              | (with_reducible exact mi _ cu)
              | (with_reducible exact mi _ aT)
              | (with_reducible exact mi _ (aT.alloc aT.size _))
              | exact mi _ eS.drew
              | exact mi _ ((eS.alloc (Nat.le_refl _) _).drew)
              | exact mi _ (((eS.alloc (Nat.le_refl _) _).alloc (by simp) _).drew)
              | exact mi _ ((((cu.alloc cu.size _).alloc (cu.alloc cu.size _).size _).alloc ((cu.alloc cu.size _).alloc (cu.alloc cu.size _).size _).size _).alloc (((cu.alloc cu.size _).alloc (cu.alloc cu.size _).size _).alloc ((cu.alloc cu.size _).alloc (cu.alloc cu.size _).size _).size _).size _))
            (first
              | (refine x6Y _ rfl (.tmp 37) (.tmp 38) 32 rfl wr.heap.size 3 i1 (.int .i64 0) 1 8 Tryz.underlying32 cy ce aK bW rfl (by decide) _ 0 [] (by simp [Act.eval,Act.put]) (x2Z (World.ownsRow_lit (size:= 1) wr #[] 0 (Nat.le_refl _) (by decide) rfl) (Below.refl _ _).drew) pa path.length pc xs (by simp [Act.eval,Act.put]) eR gy (fa _ ((eS.alloc (Nat.le_refl _) (.cells #[] 3)).drew)) aR (by unfold maxLen;omega) (by omega) (by simp;try omega) ?_;intro v' w6 bJ aw ca;obtain ⟨vg,vcap,rfl⟩:=x5Q bJ;have aT:Below wr.heap.size wr w6:=x2H (x2Z (World.ownsRow_lit (size:= 1) wr #[] 0 (Nat.le_refl _) (by decide) rfl) (Below.refl _ _).drew) (Nat.le_refl _) ((eS.alloc (Nat.le_refl _) (.cells #[] 3)).drew) (by simp;try omega) aw)
              | (refine x6Y _ rfl (.tmp 37) (.tmp 38) 32 rfl wr.heap.size 3 i1 (.int .i64 0) 1 8 Tryz.underlying32 cy ce aK bW rfl (by decide) _ 0 [] (by simp [Act.eval,Act.put]) (x2Z (World.ownsRow_lit (size:= 1) wr #[] 0 (Nat.le_refl _) (by decide) rfl) ((Below.refl _ (wr.alloc (.cells #[] 3))).alloc (Nat.le_refl _) (.cells #[.int .i64 (x:Nat)] 3)).drew) pa path.length pc xs (by simp [Act.eval,Act.put]) eR gy (fa _ (((eS.alloc (Nat.le_refl _) (.cells #[] 3)).alloc (by simp) (.cells #[.int .i64 (x:Nat)] 3)).drew)) aR (by unfold maxLen;omega) (by omega) (by simp;try omega) ?_;intro v' w6 bJ aw ca;obtain ⟨vg,vcap,rfl⟩:=x5Q bJ;have aT:Below wr.heap.size wr w6:=x2H (x2Z (World.ownsRow_lit (size:= 1) wr #[] 0 (Nat.le_refl _) (by decide) rfl) ((Below.refl _ (wr.alloc (.cells #[] 3))).alloc (Nat.le_refl _) (.cells #[.int .i64 (x:Nat)] 3)).drew) (Nat.le_refl _) (((eS.alloc (Nat.le_refl _) (.cells #[] 3)).alloc (by simp) (.cells #[.int .i64 (x:Nat)] 3)).drew) (by simp;try omega) aw;have hE:w6.cell? ⟨wr.heap.size+1, 0,none⟩=some (.int .i64 (x:Nat)):=(World.cell?_of_block (aw.block _ (by simp) (by simp [Value.ownBlock]))).trans (by simp))
              | (refine x6Y _ rfl (.tmp 37) (.tmp 38) 32 rfl wr.heap.size 3 i1 (.int .i64 0) 1 8 Tryz.underlying32 cy ce aK bW rfl (by decide) _ 0 [] (by simp [Act.eval,Act.put]) (x2Z (World.ownsRow_lit (size:= 1) (wr.alloc (.cells #[.int .i64 (x:Nat)] 3)) #[] 0 (by simp) (by decide) rfl) (Below.refl _ _).drew) pa path.length pc xs (by simp [Act.eval,Act.put]) eR gy (fa _ (((eS.alloc (Nat.le_refl _) (.cells #[.int .i64 (x:Nat)] 3)).alloc (by simp) (.cells #[] 3)).drew)) aR (by unfold maxLen;omega) (by omega) (by simp;try omega) ?_;intro v' w6 bJ aw ca;obtain ⟨vg,vcap,rfl⟩:=x5Q bJ;have aT:Below wr.heap.size wr w6:=x2H (x2Z (World.ownsRow_lit (size:= 1) (wr.alloc (.cells #[.int .i64 (x:Nat)] 3)) #[] 0 (by simp) (by decide) rfl) (Below.refl _ _).drew) (Nat.le_refl _) (((eS.alloc (Nat.le_refl _) (.cells #[.int .i64 (x:Nat)] 3)).alloc (by simp) (.cells #[] 3)).drew) (by simp;try omega) aw;have hE:w6.cell? ⟨wr.heap.size, 0,none⟩=some (.int .i64 (x:Nat)):=(World.cell?_of_block (aw.block _ (by simp;omega) (by simp [Value.ownBlock]))).trans (by simp))
              | (refine y0U _ rfl (.tmp 39) (.tmp 41) 32 rfl wr.heap.size 3 i1 (.int .i64 0) 1 8 Tryz.underlying32 cy ce aK bW rfl (by decide) _ _ _ (by simp [Act.eval,Act.put]) (x2Z bJ ((Below.refl _ w6).alloc (Nat.le_refl _) (.cells #[.int .i64 (x:Nat)] 3))) ⟨w6.heap.size, 0,none⟩ 1 1 [.int .i64 (x:Nat)] (by simp [Act.eval,Act.put]) rfl (fun j u hu=>by match j,hu with | 0,hu=>simp at hu;subst hu;simp [Addr.add]) (fun u hu=>by simp at hu;subst hu;rfl) (by unfold maxLen;omega) (by omega) (by have:=aT.size;simp;try omega) ?_;intro v' w8 jg iv nI;obtain ⟨vg8,vcap8,rfl⟩:=y4R jg (by omega);have cu:Below wr.heap.size wr w8:=x2H (x2Z bJ ((Below.refl _ w6).alloc (Nat.le_refl _) (.cells #[.int .i64 (x:Nat)] 3))) (Nat.le_refl _) (aT.alloc aT.size (.cells #[.int .i64 (x:Nat)] 3)) (by have:=aT.size;simp;try omega) iv)
              | (have xS:w6.cell? ⟨wr.heap.size+1, 0,none⟩=some (.int .i64 (x:Nat)):=hE;refine y0U _ rfl (.tmp 39) (.tmp 41) 32 rfl wr.heap.size 3 i1 (.int .i64 0) 1 8 Tryz.underlying32 cy ce aK bW rfl (by decide) _ _ _ (by simp [Act.eval,Act.put]) (bJ) ⟨wr.heap.size+1, 0,none⟩ 1 1 [.int .i64 (x:Nat)] (by simp [Act.eval,Act.put]) rfl (fun j u hu=>by match j,hu with | 0,hu=>simp at hu;subst hu;simpa [Addr.add] using hE) (fun u hu=>by simp at hu;subst hu;rfl) (by unfold maxLen;omega) (by omega) (by have:=aT.size;simp;try omega) ?_;intro v' w8 jg iv nI;obtain ⟨vg8,vcap8,rfl⟩:=y4R jg (by omega);have cu:Below wr.heap.size wr w8:=x2H (bJ) (Nat.le_refl _) (aT) (by have:=aT.size;simp;try omega) iv)
              | (have xS:w6.cell? ⟨wr.heap.size, 0,none⟩=some (.int .i64 (x:Nat)):=hE;refine y0U _ rfl (.tmp 39) (.tmp 41) 32 rfl wr.heap.size 3 i1 (.int .i64 0) 1 8 Tryz.underlying32 cy ce aK bW rfl (by decide) _ _ _ (by simp [Act.eval,Act.put]) (bJ) ⟨wr.heap.size, 0,none⟩ 1 1 [.int .i64 (x:Nat)] (by simp [Act.eval,Act.put]) rfl (fun j u hu=>by match j,hu with | 0,hu=>simp at hu;subst hu;simpa [Addr.add] using hE) (fun u hu=>by simp at hu;subst hu;rfl) (by unfold maxLen;omega) (by omega) (by have:=aT.size;simp;try omega) ?_;intro v' w8 jg iv nI;obtain ⟨vg8,vcap8,rfl⟩:=y4R jg (by omega);have cu:Below wr.heap.size wr w8:=x2H (bJ) (Nat.le_refl _) (aT) (by have:=aT.size;simp;try omega) iv)
              | (go_at_call 98;refine (y3P Bm _ _ _ _ _ _ _ _).mono ?_;rintro e w9 ⟨rfl,rfl⟩;dsimp only))
          all_goals
            dsimp only [Exit.then]
            refine (‹∀ (a':Act) (w':World),Met _ a' w'->_›) _ _ ?_
            go_meet
            case rel =>
              have dN:Below w8.heap.size w8 ((((w8.alloc (.cells #[.pointer (some ⟨Bm, 0,none⟩)] 128)).alloc (.cells #[.slice (some ⟨vg8, 0,none⟩) (path.length+1) vcap8] 32)).alloc (.cells #[.int .i64 (off+a)] 3)).alloc (.cells #[.slice oa sl oc] 48)):=((((Below.refl _ w8).alloc (Nat.le_refl _) _).alloc (by simp) _).alloc (by simp;omega) _).alloc (by simp;omega) _
              refine ⟨w8.heap.size,_,rfl,cu.size,by simp,((y1D rfl).alloc _ |>.alloc _).alloc _,((y1D (by simp)).alloc _).alloc _,(y1D (by simp)).alloc _,y1D (by simp), ?_,cu.trans (dN.mono cu.size)⟩
              have tZ:([]++xs)++[Value.int .i64 (x:Nat)]=(path++[(x:Int)]).map fun y=>Value.int .i64 y:=by
                rw [<- dX.out];simp
              rw [tZ] at jg;have bI:=x5R jg (g:=vg8) rfl;have rD:=z6J jg (g:=vg8) rfl;have h8:=y7F (S:=fun b=>wr.heap.size <= b/\b<w8.heap.size) jg (fun g hg=>by cases hg;exact ⟨bI.1,rD⟩)
              simp only [Nat.zero_add] at h8;exact x5T (fun b hb=>⟨hb.1,Nat.lt_of_lt_of_le hb.2 dN.size⟩) (y8D dN) h8
        case rest =>
          obtain ⟨q,pv',rfl,dd,dT,kS,pO,tN,tM,vK,mJ⟩:=hcut;have iU:=mJ.size;go_wp2;refine u3S (gf:= 150) (lb:= #[.pointer (some ⟨q, 0,none⟩), .pointer (some ⟨q+3, 0,none⟩), .pointer (some ⟨q+1, 0,none⟩), .pointer (some ⟨q+2, 0,none⟩)]) rfl (enters_of Tryz.func150 (by kernel_rfl) rfl) fun fn=>?_
          obtain ⟨L,hL⟩:∃ L,L=wc.heap.size+1:=⟨_,rfl⟩;rw [<- hL];generalize eL:y1E _ fn _ _ _ _ LoopState.ready=rc;obtain ⟨wL,gm⟩:∃ wL,(wc.alloc (.deferred (some []))).alloc (.loop rc)=wL:=⟨_,rfl⟩;rw [gm];have gF:Below wc.heap.size wc wL:=by
            rw [<- gm];exact ((Below.refl _ wc).alloc (Nat.le_refl _) _).alloc (by simp) _
          have qA:wL.heap.size=wc.heap.size+2:=by
            rw [<- gm];simp
          have sW:wL.heap[L]? = some (.loop rc):=by
            rw [<- gm,hL]
            have:=World.alloc_heap_new (wc.alloc (.deferred (some []))) (.loop rc)
            rwa [World.size_alloc] at this
          have ta:wL.heap[wc.heap.size]? = some (.deferred (some [])):=by
            rw [<- gm];exact (Below.heap_alloc _ _ _ (by simp)).trans (World.alloc_heap_new wc _)
          have aG:Below wr.heap.size wr wL:=mJ.trans (gF.mono iU);have cS:∀ b,C1 b->b<wr.heap.size:=hA.lt _ _ _ qh;have nN:¬ C1 L:=fun h=>by have:=cS _ h;omega
          have qQ:p∈p0::P0:=List.mem_of_getElem? bF;have yO:=fun {b i:Nat} {v:Value} (h:wr.cell? ⟨b,i,none⟩=some v)=>(aG.cell (p:=⟨b,i,none⟩) (World.block_lt_of_cell? _ _ h)).trans h;have ku:∀ b,(b<w2.heap.size/\¬ C b)->b<wL.heap.size/\¬ (C1 b\/b=L):=fun b hb=>⟨by have:=hb.1;omega,fun h=>by
            rcases h with h | h
            . exact uS b hb h
            . have:=hb.1;omega⟩
          have mn:KeepS (fun b=>b<w2.heap.size/\¬ C b) w2 wL:=hK.trans (KeepS.below aG fun b hb=>Nat.lt_of_lt_of_le hb.1 bD);have lM:=ih p qQ m (dm+D.length) (lv+1) (path++[(x:Int)]) (off+a) (st++stpN (.node D (p0::P0) t g) n) wL (fun b=>C1 b\/b=L)
            (fun i C' V=> ∃ C0:Nat->Prop,(∀ b,C' b↔(C0 b\/b=L))/\¬ C0 L/\J i C0 V/\V.heap[L]? = some (.loop rc)/\V.cell? ⟨W.heap.size, 0,none⟩=some (.func (.yield l) #[] #[])/\¬ C0 W.heap.size)
            L (i0+pre.length) Bm q (q+3) (q+1) (q+2) pv' (.slice oa sl oc) fT iT (by omega) fO (by omega) (by omega) (by simp;omega) (by rw [List.length_append];have:=kG.1;simp only [dA,Sh.D];omega)
            (x1G ku mn qe)
            ⟨(gF.cell (p:=⟨q, 0,none⟩) kS.lt).trans (kS.cell 0),fun h=>by rcases h with h | h;(have:=cS _ h;omega);omega⟩
            ⟨(gF.cell (p:=⟨q+3, 0,none⟩) tM.lt).trans (tM.cell 0),fun h=>by rcases h with h | h;(have:=cS _ h;omega);omega⟩
            ⟨(gF.cell (p:=⟨q+1, 0,none⟩) pO.lt).trans (pO.cell 0),fun h=>by rcases h with h | h;(have:=cS _ h;omega);omega⟩
            ⟨(gF.cell (p:=⟨q+2, 0,none⟩) tN.lt).trans (tN.cell 0),fun h=>by rcases h with h | h;(have:=cS _ h;omega);omega⟩
            (x0P (fun b hb=>⟨by have:=hb.2;omega,fun h=>by rcases h with h | h;(have:=cS _ h;have:=hb.1;omega);(have:=hb.2;omega)⟩) (KeepS.below gF fun b hb=>hb.2) vK)
            (by rw [<- fK];exact x0R ku mn (by rw [fK];exact de))
            ⟨fun i C' A B' hj fX=>by
              obtain ⟨C0,h1,h2,h3,h4,h5,h6⟩:=hj;exact ⟨C0,h1,h2,hA.itk _ _ _ _ h3 (fX.mono (by omega) fun b hb=>(h1 b).2 (.inl hb)),fX.same L _ h4 (.inl ((h1 L).2 (.inr rfl))),fX.cell h5,h6⟩,fun i C' V hj b hb=>by
              obtain ⟨C0,h1, -, h3,h4, -, -⟩:=hj;rcases (h1 b).1 hb with h | rfl
              . exact hA.lt _ _ _ h3 b h
              . exact x2F h4⟩
            ⟨C1,fun b=>Iff.rfl,nN,hA.itk _ _ _ _ qh (Itk.of_below aG),sW,(mn.cell (b:=W.heap.size) (i:= 0) ⟨by omega,kB⟩).trans gI,uS _ ⟨by omega,kB⟩⟩
            (fun j y C' V p' hget hj o8=>by
              obtain ⟨C0,h1,h2,h3,h4,h5,h6⟩:=hj;obtain ⟨pv3,sv3,rfl,ud,qI⟩:=o8;obtain ⟨pa3,pc3,rfl⟩:∃ a c,pv3 = .slice a p'.path.length c:=by obtain ⟨a,c,h, -⟩:=ud;exact ⟨a,c,h⟩
              obtain ⟨sa3,sc3,rfl⟩:=qI.form;refine yld_of h4 (by rw [<- eL]) (by rw [<- eL];rfl) fun m=>?_
              have uZ:=h4;rw [<- eL] at uZ |-
              dsimp only [y1E]
              gi_wp2
              refine ⟨(Below.heap_alloc _ _ _ (x2F h4)).trans uZ, ?_⟩;have iC:=x2F h4;have mK:Below V.heap.size V (V.alloc (.cells #[.slice pa3 p'.path.length pc3, .int .i64 p'.off, .slice sa3 p'.st.length sc3, .int .i64 p'.b, .int .i64 p'.t.k, .int .i64 p'.t.p, .int .i64 p'.t.q, .bool p'.t.v, .string p'.t.pic] 50)):=(Below.refl _ V).alloc (Nat.le_refl _) _;have qg:(V.alloc (.cells #[.slice pa3 p'.path.length pc3, .int .i64 p'.off, .slice sa3 p'.st.length sc3, .int .i64 p'.b, .int .i64 p'.t.k, .int .i64 p'.t.p, .int .i64 p'.t.q, .bool p'.t.v, .string p'.t.pic] 50)).heap[L]? = some (.loop rc):=(Below.heap_alloc _ _ _ iC).trans h4;have cC:W.heap.size<V.heap.size:=World.block_lt_of_cell? _ _ h5;have rq:W.heap.size≠L:=by omega
              have rk:V.heap.size≠L:=by omega
              obtain ⟨bz,yP⟩:∃ bz:Obj,bz.isCells=false/\True:=⟨.loop rc,rfl,trivial⟩;generalize fE:(V.alloc (.cells #[.slice pa3 p'.path.length pc3, .int .i64 p'.off, .slice sa3 p'.st.length sc3, .int .i64 p'.b, .int .i64 p'.t.k, .int .i64 p'.t.p, .int .i64 p'.t.q, .bool p'.t.v, .string p'.t.pic] 50)).putObj L _=Vb;have eh:∀ b,b≠L->Vb.heap[b]? = (V.alloc (.cells #[.slice pa3 p'.path.length pc3, .int .i64 p'.off, .slice sa3 p'.st.length sc3, .int .i64 p'.b, .int .i64 p'.t.k, .int .i64 p'.t.p, .int .i64 p'.t.q, .bool p'.t.v, .string p'.t.pic] 50)).heap[b]? :=fun b hb=>by
                rw [<- fE];exact World.putObj_heap_other hb
              have fI:Vb.heap.size=V.heap.size+1:=by rw [<- fE];simp
              have fm:Itk W.heap.size C0 V Vb:=by
                rw [<- fE];exact (Itk.of_below mK).trans (Itk.putObj qg h2 (by omega) rfl)
              have xO:=hA.itk _ _ _ _ h3 fm;have gh:∀ pp vv,V.cell? pp=some vv->Vb.cell? pp=some vv:=fun pp vv h=>fm.cell h;have e0:=gh _ _ h5;have df:NB Vb V.heap.size #[.slice pa3 p'.path.length pc3, .int .i64 p'.off, .slice sa3 p'.st.length sc3, .int .i64 p'.b, .int .i64 p'.t.k, .int .i64 p'.t.p, .int .i64 p'.t.q, .bool p'.t.v, .string p'.t.pic] 50:=(eh _ rk).trans (NB.here V _ 50);have xH:PlS (fun b=>b<Vb.heap.size/\¬ C0 b) Vb (plV (.slice pa3 p'.path.length pc3) (.slice sa3 p'.st.length sc3) p'.off p'.b p'.t) p':=⟨_,_,rfl,x5T (fun b hb=>⟨by have:=hb.1;omega,fun h=>hb.2 ((h1 b).2 (.inl h))⟩) gh ud,x6E (fun b hb=>⟨by have:=hb.1;omega,fun h=>hb.2 ((h1 b).2 (.inl h))⟩) gh qI⟩
              obtain ⟨r0,r1,r2,r3,r4,r5,r6,r7,r8,rf⟩:=x3V df;have oG:X[pre.length+j]? = some p':=by
                have fW:=(List.getElem?_eq_some_iff.1 hget).1;rw [<- mG,List.getElem?_append_right (by omega),show pre.length+j-pre.length=j by omega,List.getElem?_append_left fW]
                exact hget
              have xr:=hY (pre.length+j) _ C0 Vb p' oG (by rw [<- Nat.add_assoc];exact xO) xH (m-1)
              obtain ⟨fn',tm',asg',bd',hy,hR⟩:=xr
              gi_wp2_with (refine ⟨fun h=>(by cases h), ?_⟩;refine RoundIn.mono (show RoundIn (Fence.wide.inRound _) (m-1) Tryz.prog l fn' tm' asg' bd' Vb _ from hR) ?_;rintro e V2 ⟨rfl,C3,kb,cT⟩)
              have g1:V2.heap[L]? = Vb.heap[L]? :=(cT.same L (by omega) h2).1
              have dQ:=g1;rw [<- fE,World.putObj_heap_same (by simp;omega)] at dQ
              have gw:¬ C3 L:=(cT.same L (by omega) h2).2
              have jn:=x2F dQ;refine ⟨dQ,fun b=>C3 b\/b=L,⟨C3,fun b=>Iff.rfl,gw, ?_, ?_, ?_, ?_⟩, ?_, ?_⟩
              . refine hA.itk _ _ _ _ (by rw [<- Nat.add_assoc] at kb;exact kb) (Itk.putObj dQ gw (by omega) rfl)
              . rw [World.putObj_heap_same jn]
              . rw [World.cell?_of_block (w:=V2) (World.putObj_heap_other rq),World.cell?_of_block (w:=Vb) (cT.same _ (by omega) h6).1]
                exact e0
              . exact (cT.same _ (by omega) h6).2
              . refine (((y8V mK).trans ?_).trans cT.below).trans (x1N _ _ _);rw [<- fE];exact x1N _ _ _
              . intro b hb hc;have bB:b≠L:=fun h=>hc ((h1 b).2 (.inr h));have aO:¬ C0 b:=fun h=>hc ((h1 b).2 (.inl h));have cb:=cT.same b (by omega) aO
                refine ⟨?_,fun h=>h.elim cb.2 bB⟩;rw [World.putObj_heap_other bB,cb.1,eh b bB];exact Below.heap_alloc _ _ _ hb)
          refine lM.mono ?_;rintro e w3 ⟨⟨v,rfl⟩,C2',⟨C2,jq,jk,cG,ka,oK,wH⟩,fB⟩;refine ⟨⟨v,rfl⟩,ka, ?_⟩;obtain ⟨w4,gn⟩:∃ w4,w3.putObj L (.loop { rc with state:= .exhausted })=w4:=⟨_,rfl⟩;have ww:J (i0+(pre++lvS p m (path++[(x:Int)]) (off+a) (st++stpN (.node D (p0::P0) t g) n)).length) C2 w4:=by
            rw [<- gn,List.length_append, <- Nat.add_assoc];exact hA.itk _ _ _ _ cG (Itk.putObj ka jk (by omega) rfl)
          have fJ:∀ b,b<wL.heap.size->¬ C1 b->b≠L->w4.heap[b]? = wL.heap[b]?/\¬ C2 b:=fun b hb hc ac=>by
            have h:=fB.same b hb (fun h=>h.elim hc ac);refine ⟨?_,fun lN=>h.2 ((jq b).2 (.inl lN))⟩;rw [<- gn,World.putObj_heap_other ac];exact h.1
          have lz:Kpc C w2 C2 w4:=by
            refine ⟨((mH.below.trans (y8V aG)).trans fB.below).trans (by rw [<- gn];exact x1N _ _ _),fun b hb hc=>?_⟩
            have h1:=mH.same b hb hc;have h2:=fJ b (by omega) h1.2 (by omega)
            exact ⟨(h2.1.trans (aG.block b (by omega))).trans h1.1,h2.2⟩
          have xW:∀ D∈wc.heap.size::Ds,w4.heap[D]? = some (.deferred (some []))/\w2.heap.size <= D/\¬ C2 D:=fun D hD=>by
            rcases List.mem_cons.1 hD with rfl | hD
            . have h2:=fJ wc.heap.size (by omega) (fun h=>by have:=cS _ h;omega) (by omega)
              exact ⟨h2.1.trans ta,by omega,h2.2⟩
            . obtain ⟨g1,g2,g3⟩:=pk D hD;have s9:=x2F g1;have h2:=fJ D (by omega) g3 (by omega)
              exact ⟨(h2.1.trans (aG.block D s9)).trans g1,g2,h2.2⟩
          have rr:(wc.heap.size::Ds).Nodup:=List.nodup_cons.2 ⟨fun h=>by have:=x2F (pk _ h).1;omega,bM⟩
          have sC:Hid ((pre++lvS p m (path++[(x:Int)]) (off+a) (st++stpN (.node D (p0::P0) t g) n))++lvL ((p0::P0).drop (x+1)) (n.ps.drop (x+1)) (n.at'.drop (x+1)) (x+1) path off (st++stpN (.node D (p0::P0) t g) n)=X):=by
            show _=X;rw [List.append_assoc];exact mG
          rw [<- eL] at gn;dsimp only [y1E] at gn |-
          rw [gn];have qr:x+1 <= P0.length+1:=by omega
          have vW:((P0.length:Int)+1-((x:Int)+1)).toNat<((P0.length:Int)+1-(x:Int)).toNat:=by omega
          go_wp2;have vm:wrap64 ((x:Int)+1)=(x:Int)+1:=wrap_id (by have:=sR.out;omega)
          rw [vm];exact ⟨⟨x+1,C2,wc.heap.size::Ds,_,_,_,_,_,_,_,_,_,_,_,_,_,_,_,_,_,_,_,_,_,_,_,_,_,_,_,_,_,_,_,_,rfl,qr,sC,ww,lz,rr,xW⟩,vW⟩
      . have dy:x=P0.length+1:=by omega
        subst dy;have mG:=uB.out;rw [show (p0::P0).drop (P0.length+1)=[] by simp,u0X,List.append_nil] at mG
        rw [mG] at qh;go_wp2;refine x5E Ds wr bM (fun D hD=>(pk D hD).1) fun W' cz bn=>?_;refine ⟨_,results_none rfl _ _ _,⟨_,rfl⟩,C1, ?_, ?_⟩
        . refine hA.itk _ _ _ _ qh ⟨cz,fun b o ho vT=>?_⟩;rw [bn b fun hD=>?_]
          . exact ho
          . obtain ⟨g1,g2,g3⟩:=pk b hD;rw [g1] at ho;cases ho;rcases vT with h | h | h
            . exact g3 h
            . omega
            . cases h
        . have sX:=fV.trans mH;exact ⟨sX.below.trans cz,fun b hb hc=>⟨(bn b fun hD=>by have:=(pk b hD).2.1;omega).trans (sX.same b hb hc).1,(sX.same b hb hc).2⟩⟩
set_option maxHeartbeats 1000000 in
theorem z5X {s:Sh}{n:Nd}{dm lv:Int}{path:List Int}{off:Int}{st:List Stp}{C:Nat->Prop}{J:Nat->(Nat->Prop)->World->Prop}{B b1 b2 b3 b4:Nat}{pv sv:Value}{g:Operand}{ps:Array Tmp}{assign body:Code}{Q:Exit->Act->World->Prop}{a:Act}{w:World}
    (hm:mpS s=some n) (hv:valS s dm lv=true) (eQ:0 <= dm) (aC:okS s) (pS:0 <= off) (gu:off <= lv*524352) (bL:(path.length:Int)<lv) (eK:(st.length:Int) <= dm)
    (hN:x1T (fun b=>b<w.heap.size/\¬ C b) w B s n)
    (h1:w.cell? ⟨b1, 0,none⟩=some (.pointer (some ⟨B, 0,none⟩))/\¬ C b1) (h2:w.cell? ⟨b2, 0,none⟩=some sv/\¬ C b2) (h3:w.cell? ⟨b3, 0,none⟩=some pv/\¬ C b3) (h4:w.cell? ⟨b4, 0,none⟩=some (.int .i64 off)/\¬ C b4)
    (hp:x3J (fun b=>b<w.heap.size/\¬ C b) w pv path) (hs:StepsS (fun b=>b<w.heap.size/\¬ C b) w sv st)
    (hA:Abd w.heap.size J) (hJ:J 0 C w) (hg:a.eval g = .func (.func 150) #[] #[.pointer (some ⟨b1, 0,none⟩), .pointer (some ⟨b2, 0,none⟩), .pointer (some ⟨b3, 0,none⟩), .pointer (some ⟨b4, 0,none⟩)]) (fu:ps.size=1)
    (eE:∀ fn m j x C1 V p,(lvS s n path off st)[j]? = some p->J j C1 V->¬ C1 (w.heap.size+1)->V.heap[w.heap.size+1]? = some (.loop (y1E a fn ps assign body w.heap.size .ready))->PlS (fun b=>b<V.heap.size/\¬ C1 b) V x p ->
      assign.wpIn (Fence.wide.inRound (w.heap.size+1)) m Tryz.prog (Exit.then (fun a₁ w₁ =>Below V.heap.size V w₁/\body.wpIn (Fence.wide.inRound (w.heap.size+1)) m Tryz.prog (fun e _ w₂ =>e = .normal/\∃ C',J (j+1) C' w₂/\Kpc C1 (w₁.putObj (w.heap.size+1) (.loop (y1E a fn ps assign body w.heap.size .busy))) C' w₂) a₁ (w₁.putObj (w.heap.size+1) (.loop (y1E a fn ps assign body w.heap.size .busy)))) (fun _ _ _=>False))
        { tmps:=(ps.zip #[x]).foldl (fun t (p,v)=>t.setIfInBounds p v) a.tmps,defers:=[] } V)
    (rQ:∀ W' C',J (lvS s n path off st).length C' W'->Kpc C w C' W'->W'.heap[w.heap.size]? = some (.deferred (some []))->¬ C' w.heap.size->Q .normal { a with defers:= { target:= .collected w.heap.size,args:= #[] }::a.defers } W') :
    (Code.rangeFunc g ps assign body).wp Tryz.prog Q a w:=by
  refine u3S (gf:= 150) (lb:= #[.pointer (some ⟨b1, 0,none⟩), .pointer (some ⟨b2, 0,none⟩), .pointer (some ⟨b3, 0,none⟩), .pointer (some ⟨b4, 0,none⟩)]) hg (enters_of Tryz.func150 (by kernel_rfl) rfl) fun fn=>?_
  obtain ⟨L,hL⟩:∃ L,L=w.heap.size+1:=⟨_,rfl⟩;rw [<- hL] at eE |-;have lQ:=eE fn;clear eE;obtain ⟨rc,eL⟩:∃ rc,y1E a fn ps assign body w.heap.size .ready=rc:=⟨_,rfl⟩;obtain ⟨wL,gm⟩:∃ wL,(w.alloc (.deferred (some []))).alloc (.loop (y1E a fn ps assign body w.heap.size .ready))=wL:=⟨_,rfl⟩;rw [gm];rw [eL] at gm |-;have gF:Below w.heap.size w wL:=by
    rw [<- gm];exact ((Below.refl _ w).alloc (Nat.le_refl _) _).alloc (by simp) _
  have qA:wL.heap.size=w.heap.size+2:=by
    rw [<- gm];simp
  have sW:wL.heap[L]? = some (.loop rc):=by
    rw [<- gm,hL]
    have:=World.alloc_heap_new (w.alloc (.deferred (some []))) (.loop rc)
    rwa [World.size_alloc] at this
  have ta:wL.heap[w.heap.size]? = some (.deferred (some [])):=by
    rw [<- gm];exact (Below.heap_alloc _ _ _ (by simp)).trans (World.alloc_heap_new w _)
  have cS:∀ b,C b->b<w.heap.size:=hA.lt _ _ _ hJ;have nN:¬ C L:=fun h=>by have:=cS _ h;omega
  have ku:∀ b,(b<w.heap.size/\¬ C b)->b<wL.heap.size/\¬ (C b\/b=L):=fun b hb=>⟨by have:=hb.1;omega,fun h=>by
    rcases h with h | h
    . exact hb.2 h
    . have:=hb.1;omega⟩
  have mn:KeepS (fun b=>b<w.heap.size/\¬ C b) w wL:=KeepS.below gF fun b hb=>hb.1;have aZ:∀ {b:Nat} {v:Value}, (w.cell? ⟨b, 0,none⟩=some v/\¬ C b)->wL.cell? ⟨b, 0,none⟩=some v/\¬ (C b\/b=L):=fun {b v} h=>by
    have ai:=World.block_lt_of_cell? _ _ h.1;simp only at ai;exact ⟨(gF.cell (p:=⟨b, 0,none⟩) ai).trans h.1,(ku b ⟨ai,h.2⟩).2⟩
  have lM:=z3D s n dm lv path off st wL (fun b=>C b\/b=L)
    (fun i C' V=> ∃ C0:Nat->Prop,(∀ b,C' b↔(C0 b\/b=L))/\¬ C0 L/\J i C0 V/\V.heap[L]? = some (.loop rc))
    L 0 B b1 b2 b3 b4 pv sv hm hv eQ aC pS gu bL eK (x1G ku mn hN) (aZ h1) (aZ h2) (aZ h3) (aZ h4) (x0P ku mn hp) (x0R ku mn hs)
    ⟨fun i C' A B' hj fX=>by
      obtain ⟨C0,h1,h2,h3,h4⟩:=hj;exact ⟨C0,h1,h2,hA.itk _ _ _ _ h3 (fX.mono (by omega) fun b hb=>(h1 b).2 (.inl hb)),fX.same L _ h4 (.inl ((h1 L).2 (.inr rfl)))⟩,fun i C' V hj b hb=>by
      obtain ⟨C0,h1, -, h3,h4⟩:=hj;rcases (h1 b).1 hb with h | rfl
      . exact hA.lt _ _ _ h3 b h
      . exact x2F h4⟩
    ⟨C,fun b=>Iff.rfl,nN,hA.itk _ _ _ _ hJ (Itk.of_below gF),sW⟩
    (fun j y C' V p' hget hj o8=>by
      obtain ⟨C0,h1,h2,h3,h4⟩:=hj;rw [Nat.zero_add] at h3;rw [Nat.zero_add];have iC:=x2F h4;have sP:PlS (fun b=>b<V.heap.size/\¬ C0 b) V y p':=v2T (fun b hb=>⟨hb.1,fun h=>hb.2 ((h1 b).2 (.inl h))⟩) (KeepS.refl _ _) o8;refine yld_of h4 (by rw [<- eL]) (by rw [<- eL];exact fu) fun m=>?_
      have hb:=lQ m j y C0 V p' hget h3 h2 (by rw [eL];exact h4) sP
      subst eL;refine wpIn_mono hb ?_;rintro e a₁ w₁ hq;cases e with
      | normal =>
        obtain ⟨au,bB⟩:=hq;have xL:=(au.block L iC).trans h4;refine ⟨xL,wpIn_mono bB ?_⟩;rintro e a₂ V2 ⟨rfl,C3,kb,cT⟩;generalize fE:w₁.putObj L _=Vb at cT;have aK:=au.size;have fI:Vb.heap.size=w₁.heap.size:=by rw [<- fE];simp
        have g1:V2.heap[L]? = Vb.heap[L]? :=(cT.same L (by omega) h2).1
        have dQ:=g1;rw [<- fE,World.putObj_heap_same (by omega)] at dQ
        have gw:¬ C3 L:=(cT.same L (by omega) h2).2
        have jn:=x2F dQ;refine ⟨dQ,fun b=>C3 b\/b=L,⟨C3,fun b=>Iff.rfl,gw, ?_, ?_⟩, ?_, ?_⟩
        . exact hA.itk _ _ _ _ kb (Itk.putObj dQ gw (by omega) rfl)
        . rw [World.putObj_heap_same jn]
        . refine (((y8V au).trans ?_).trans cT.below).trans (x1N _ _ _);rw [<- fE];exact x1N _ _ _
        . intro b hb hc;have bB:b≠L:=fun h=>hc ((h1 b).2 (.inr h));have aO:¬ C0 b:=fun h=>hc ((h1 b).2 (.inl h));have cb:=cT.same b (by omega) aO
          refine ⟨?_,fun h=>h.elim cb.2 bB⟩;rw [World.putObj_heap_other bB,cb.1, <- fE,World.putObj_heap_other bB];exact au.block b hb
      | ret=>exact hq.elim
      | exit id=>exact hq.elim
      | goto t=>exact hq.elim
      | panic c=>exact hq.elim
      | outgrown=>exact hq.elim)
  refine lM.mono ?_;rintro e w3 ⟨⟨v,rfl⟩,C2',⟨C2,jq,jk,cG,ka⟩,fB⟩;rw [Nat.zero_add] at cG;refine ⟨⟨v,rfl⟩,ka,rQ _ C2 (hA.itk _ _ _ _ cG (Itk.putObj ka jk (by omega) rfl)) ?_ ?_ ?_⟩
  . refine ⟨((y8V gF).trans fB.below).trans (x1N _ _ _),fun b hb hc=>?_⟩;have h:=fB.same b (by omega) (ku b ⟨hb,hc⟩).2
    refine ⟨?_,fun lN=>h.2 ((jq b).2 (.inl lN))⟩;rw [World.putObj_heap_other (by omega),h.1]
    exact gF.block b hb
  . have h := fB.same w.heap.size (by omega) (fun h => by
      rcases h with h | h
      . have:=cS _ h;omega
      . omega)
    rw [World.putObj_heap_other (by omega),h.1]
    exact ta
  . have h := fB.same w.heap.size (by omega) (fun h => by
      rcases h with h | h
      . have:=cS _ h;omega
      . omega)
    exact fun lN=>h.2 ((jq _).2 (.inl lN))
end Go.Proofs
