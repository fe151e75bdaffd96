/-
  leaves of a node: the closure; its call at a leaf.; leaves of a node: at a leaf.; leaves of a node: all of them, in order, by induction over the shape.; A range over the leaves of a node, in a function's body.
-/
import Derived.Test.YtadehgdfijjikaaGreatDoorS7
import Derived.Test.YtadehgdfijjikaaGreatDoorS8
import Derived.Test.YtadehgdfijjikaaGreatDoorZ7
import Derived.Stop.RegionWithIn
import Derived.RangeFuncCalls
import Derived.WalkKit
import Derived.TacticsInMore
import Derived.Deep.RegionHeld3
set_option linter.all false
namespace Go.Proofs
open Go.RowKit Go.Yec Go.Shp Go.Deep
open Go.Xec (Glob)
attribute [local go_sem] Oper.semAt_some
theorem z0R {S:Nat->Prop} {W:World} {B:Nat} {s:Sh} {n:Nd} (h:x2D S W B s n):S B/\∃ aa acap qa qcap,
    (∀ w,KeepS S W w->w.cell? ⟨B, 8,none⟩=some (.int .i64 n.u.s)/\w.cell? ⟨B, 9,none⟩=some (.int .i64 n.u.b)/\w.cell? ⟨B, 15,none⟩=some (.slice aa n.at'.length acap)/\w.cell? ⟨B, 16,none⟩=some (.slice qa s.P.length qcap)) /\
    x3K S W (.slice aa n.at'.length acap) n.at' /\
    (s.P≠[]->∃ b o,qa=some ⟨b,o,none⟩/\S b/\∀ i p,s.P[i]? = some p->∃ m Bm,n.ps[i]? = some m/\(∀ w,KeepS S W w->w.cell? ⟨b,o+i,none⟩=some (.pointer (some ⟨Bm, 0,none⟩)))/\x2D S W Bm p m):=by
  obtain ⟨D,P,t,g⟩:=s;obtain ⟨u,e,st,at0,ps⟩:=n;unfold x2D at h;obtain ⟨hBl,dv,pv0,stv,av,qv,hc,hD, -, hst,hat,qa,qcap,rfl,h0,hps⟩:=h;obtain ⟨aa,acap,rfl, -⟩:=id hat;refine ⟨hBl,aa,acap,qa,qcap,fun w hb=> ?_,hat,fun hne=> ?_⟩
  . have k:=fun i (hi:i<17)=>(hb.cell (i:=i) hBl).trans (hc i hi);exact ⟨k 8 (by omega),k 9 (by omega),k 15 (by omega),k 16 (by omega)⟩
  . obtain ⟨b,o,ha,hb⟩:=h0 hne;refine ⟨b,o,ha,hb,fun i p hp=> ?_⟩;obtain ⟨m,Bm,h1,h2,h3⟩:=y0H (hps b o ha) i p hp;exact ⟨m,Bm,h1,fun w hw=>(hw.cell hb).trans h2,h3⟩
set_option maxRecDepth 100000 in
set_option maxHeartbeats 2000000 in
theorem y3Q (B:Nat) (pa sa:Option Addr) (pn pc sn sc:Nat) (off:Int) (w:World):Calls Tryz.prog 98 #[.pointer (some ⟨B, 0,none⟩), .slice pa pn pc, .int .i64 off, .slice sa sn sc] w fun e w' =>
    e = .returned (.func (.func 150) #[] #[.pointer (some ⟨w.heap.size, 0,none⟩), .pointer (some ⟨w.heap.size+3, 0,none⟩), .pointer (some ⟨w.heap.size+1, 0,none⟩), .pointer (some ⟨w.heap.size+2, 0,none⟩)]) /\
      w'=(((w.alloc (.cells #[.pointer (some ⟨B, 0,none⟩)] 128)).alloc (.cells #[.slice pa pn pc] 32)).alloc (.cells #[.int .i64 off] 3)).alloc (.cells #[.slice sa sn sc] 48):=by
  go_enter Tryz.func98,Tryz.ntmps98;go_wp2;go_ret;exact ⟨rfl,rfl⟩
end Go.Proofs
namespace Go.Proofs
open Go.RowKit Go.Yec Go.Shp Go.Deep
open Go.Xec (Glob)
attribute [local go_sem] Oper.semAt_some
set_option maxRecDepth 100000 in
set_option maxHeartbeats 8000000 in
theorem y9Q (D:List (Int×Int)) (t:Ty) (g:Bool):∀ (n:Nd) (dm lv:Int) (path:List Int) (off:Int) (st:List Stp) (W:World) (C:Nat->Prop) (J:Nat->(Nat->Prop)->World->Prop) (l i0 B b1 b2 b3 b4:Nat) (pv sv:Value),
    mpS (.node D [] t g)=some n->valS (.node D [] t g) dm lv=true->0 <= dm->okS (.node D [] t g)->0 <= off->off <= lv*524352->(path.length:Int)<lv->(st.length:Int) <= dm ->
    x2D (fun b=>b<W.heap.size/\¬ C b) W B (.node D [] t g) n ->
    (W.cell? ⟨b1, 0,none⟩=some (.pointer (some ⟨B, 0,none⟩))/\¬ C b1)->(W.cell? ⟨b2, 0,none⟩=some sv/\¬ C b2)->(W.cell? ⟨b3, 0,none⟩=some pv/\¬ C b3)->(W.cell? ⟨b4, 0,none⟩=some (.int .i64 off)/\¬ C b4) ->
    x3K (fun b=>b<W.heap.size/\¬ C b) W pv path->StepsS (fun b=>b<W.heap.size/\¬ C b) W sv st ->
    Abd W.heap.size J->J i0 C W ->
    (∀ j x C1 W1 p,(lvS (.node D [] t g) n path off st)[j]? = some p->J (i0+j) C1 W1->PlS (fun b=>b<W1.heap.size/\¬ C1 b) W1 x p->Yld Tryz.prog l x W1 fun W'=> ∃ C',J (i0+j+1) C' W'/\Kpc C1 W1 C' W') ->
    Calls Tryz.prog 150 #[.func (.yield l) #[] #[], .pointer (some ⟨b1, 0,none⟩), .pointer (some ⟨b2, 0,none⟩), .pointer (some ⟨b3, 0,none⟩), .pointer (some ⟨b4, 0,none⟩)] W fun e W'=>(∃ v,e = .returned v)/\∃ C',J (i0+(lvS (.node D [] t g) n path off st).length) C' W'/\Kpc C W C' W':=by
  intro n dm lv path off st W C J l i0 B b1 b2 b3 b4 pv sv hm hv hdm hok ho0 ho1 hpl hsl hN h1 h2 h3 h4 hp hs hA hJ hY;obtain ⟨X,hX⟩:∃ X,lvS (.node D [] t g) n path off st=X:=⟨_,rfl⟩;rw [hX] at hY |-
  have hvd:=x2L hv;have hDl:D.length <= 3:=by have:=hvd.1; omega
  have hlv:=hvd.2.1;have hlen:=y6Q hm;have hslen:=y0Q hm;have hsub:∀ b,(b<W.heap.size/\¬ C b)->b<W.heap.size:=fun b h=>h.1;have hst0:=fun w hB hS=>z5S (.node D [] t g) n B W w sv st (x1G hsub (KeepS.refl _ W) hN) hm hB hS (by omega) (show D.length <= 100 by omega)
  have hsA:x8Y W sv st:=x1F hsub (KeepS.refl _ W) hs;obtain ⟨sa,sc,rfl⟩:=hs.form;obtain ⟨pa,pc,rfl⟩:∃ a c,pv = .slice a path.length c:=by obtain ⟨a,c,h, -⟩:=hp; exact ⟨a,c,h⟩
  refine (callsIn_wide (n:= 0)).1 (callsIn_of_wp_marks Tryz.func150 rfl trivial ?_ rfl);refine wpIn_wide.2 ?_;simp only [Tryz.ntmps150,List.size_toArray,List.length_cons,List.length_nil,Nat.reduceAdd,Nat.reduceSub,Array.replicate_succ,Array.replicate_zero,List.push_toArray,List.append_toArray,List.nil_append,List.cons_append];obtain ⟨c1,n1⟩:=h1;obtain ⟨c2,n2⟩:=h2;obtain ⟨c3,n3⟩:=h3;obtain ⟨c4,n4⟩:=h4;have l1:=World.block_lt_of_cell? _ _ c1;have l2:=World.block_lt_of_cell? _ _ c2;have l3:=World.block_lt_of_cell? _ _ c3;have l4:=World.block_lt_of_cell? _ _ c4;simp only at l1 l2 l3 l4;have hal:Below W.heap.size W (W.alloc (.cells #[.func (.yield l) #[] #[]] 149)):=(Below.refl _ W).alloc (Nat.le_refl _) _
  go_wp2_with (go_at_call 151; fail)
  refine (hst0 _ hal (hsA.below hal)).mono ?_;rintro e w2 ⟨⟨ov,rfl,hov⟩,hb⟩;have hB2:Below W.heap.size W w2:=hal.trans (hb.mono hal.size);have hsz2:=hB2.size;have hszb:=hb.size;simp only [World.size_alloc] at hszb;have hszl:W.heap.size<w2.drew.heap.size:=by show _<w2.heap.size; omega
  have hk2:Kpc C W C w2:=Kpc.of_below hB2;have hJ2:J i0 C w2:=hA.itk _ _ _ _ hJ (Itk.of_below hB2);have hx5:w2.cell? ⟨W.heap.size, 0,none⟩=some (.func (.yield l) #[] #[]):=by
    rw [hb.cell (p:=⟨W.heap.size, 0,none⟩) (by simp)]
    simp
  have hx5n:¬ C W.heap.size:=fun h=>by have:=hA.lt _ _ _ hJ _ h; omega
  have hkS:KeepS (fun b=>b<W.heap.size/\¬ C b) W w2:=KeepS.below hB2 fun b h=>h.1;have hS2:∀ b,(b<W.heap.size/\¬ C b)->b<w2.heap.size/\¬ C b:=fun b h=>⟨by omega,h.2⟩
  have hN2:=x1G hS2 hkS hN;have hp2:=x0U hS2 hkS hp;have hov2:StepsS (fun b=>b<w2.heap.size/\¬ C b) w2 ov (st++stpN (.node D [] t g) n):=x1F (fun b h=>⟨h.2,fun hc=>by have:=hA.lt _ _ _ hJ _ hc; simp only [World.size_alloc] at h; omega⟩) (KeepS.refl _ _) hov
  have d1:=(hB2.cell (p:=⟨b1, 0,none⟩) l1).trans c1;have d3:=(hB2.cell (p:=⟨b3, 0,none⟩) l3).trans c3;have d4:=(hB2.cell (p:=⟨b4, 0,none⟩) l4).trans c4;clear hst0 hsA hov c1 c2 c3 c4 hs hkS hN hp hb hal;obtain ⟨oa,oc,rfl⟩:=hov2.form;obtain ⟨hBn,aa,acap,qa,qcap,hcw,hat,hpt⟩:=z0R hN2;obtain ⟨e8,e9,e15,e16⟩:=hcw w2 (KeepS.refl _ _);have hpl:=fun w hB hP=>v3Z (.node D [] t g) n B w2 w (.slice pa path.length pc) (.slice oa (st++stpN (.node D [] t g) n).length oc) path off (x1G (fun b h=>h.1) (KeepS.refl _ _) hN2) hB hP ⟨_,_,_,rfl⟩ (by omega)
  have hlv1:=y4W (D:=D) (t:=t) (g:=g) (n:=n) (path:=path) (off:=off) (st:=st);rw [hlv1] at hX;have hpA:IntsAt w2.drew (.slice pa path.length pc) path:=x0U (fun b h=>h.1) (KeepS.below ((Below.refl w2.heap.size w2).drew) fun b h=>h.1) hp2;have hBd:Below w2.heap.size w2 w2.drew:=(Below.refl _ _).drew;have hYl:∀ w3 pv',Below w2.heap.size w2 w3->x3K (fun b=>w2.heap.size <= b/\b<w3.heap.size) w3 pv' path->∃ fn tmps assign body,(Instr.yield l #[plV pv' (.slice oa (st++stpN (.node D [] t g) n).length oc) off n.e.b (cond (Sh.node D [] t g).P.isEmpty (Sh.node D [] t g).t ty00)]).run Tryz.prog w3 = .ok (.round l fn tmps assign body) w3/\RoundIn Fence.wide 0 Tryz.prog l fn tmps assign body w3 fun e W'=>e = .returned (.bool true)/\∃ C',J (i0+1) C' W'/\Kpc C W C' W':=fun w3 pv' hB3 hpv=>by
    have hJ3:=hA.itk _ _ _ _ hJ2 (Itk.of_below hB3);have hlt:∀ b,C b->b<W.heap.size:=hA.lt _ _ _ hJ;have hs3:=hB3.size;have hpv4:x3K (fun b=>b<w3.heap.size/\¬ C b) w3 pv' path:=x0U (fun b h=>⟨h.2,fun hc=>by have:=hlt _ hc; have:=h.1; omega⟩) (KeepS.refl _ _) hpv
    have hov4:StepsS (fun b=>b<w3.heap.size/\¬ C b) w3 (.slice oa (st++stpN (.node D [] t g) n).length oc) (st++stpN (.node D [] t g) n):=x1F (fun b h=>⟨by have:=h.1; omega,h.2⟩) (KeepS.below hB3 fun b h=>h.1) hov2
    obtain ⟨fn,tmps,assign,body,h1,h2⟩:=hY 0 (plV pv' (.slice oa (st++stpN (.node D [] t g) n).length oc) off n.e.b (cond (Sh.node D [] t g).P.isEmpty (Sh.node D [] t g).t ty00)) C w3 _ (by rw [<- hX]; rfl) hJ3 ⟨pv',_,rfl,hpv4,hov4⟩ 0
    refine ⟨fn,tmps,assign,body,h1,h2.mono ?_⟩;rintro e W' ⟨rfl,C',hj,hk⟩;exact ⟨rfl,C',hj,(hk2.trans (Kpc.of_below hB3)).trans hk⟩
  have e16':w2.cell? ⟨B, 16,none⟩=some (.slice qa 0 qcap):=e16;obtain ⟨T,hT⟩:∃ T,cond (Sh.node D [] t g).P.isEmpty (Sh.node D [] t g).t ty00=T:=⟨_,rfl⟩;obtain ⟨eb,heb⟩:∃ eb,n.e.b=eb:=⟨_,rfl⟩;obtain ⟨sl,hsl2⟩:∃ sl,(st++stpN (.node D [] t g) n).length=sl:=⟨_,rfl⟩;rw [hT,heb,hsl2] at hYl;rw [hT,heb,hsl2] at hpl;have hd5:w2.drew.cell? ⟨W.heap.size, 0,none⟩=some (.func (.yield l) #[] #[]):=hx5;have hXl:X.length=1:=by rw [<- hX]; rfl
  clear hT heb e16 hN2 hY hlv1 hX hlen hvd hslen hat hpt hcw hm hv hok hov2 hp2
  go_upto_region 3 with fail
  refine (wpIn_wide (n:= 0)).1 ?_;refine wpIn_mono (Q:=NoPanic _) ?_ NoPanic.imp
  gi_region_with (first
    | (refine ⟨trivial,rfl, ?_⟩; gi_at_call 152; refine (callsIn_wide.2 (hpl _ hBd hpA)).mono ?_; rintro e w3 ⟨⟨pv',rfl,hpv⟩,hb⟩; obtain ⟨va,vc,rfl⟩:∃ a c,pv' = .slice a path.length c:=(by obtain ⟨a,c,h, -⟩:=hpv; exact ⟨a,c,h⟩); obtain ⟨fn,tmps,assign,body,hy,hR⟩:=hYl _ _ (hBd.trans hb) hpv; have hd5':=(hb.cell (p:=⟨W.heap.size, 0,none⟩) hszl).trans hd5)
    | (refine ⟨rfl, ?_⟩; refine hR.mono ?_; rintro e w4 ⟨rfl,C',hj,hk⟩))
  all_goals refine NoPanic.normal ?_
  all_goals go_wp2
  all_goals exact ⟨_,results_none rfl _ _ _,⟨_,rfl⟩,C',by rw [hXl]; exact hj,hk⟩
end Go.Proofs
namespace Go.Proofs
open Go.RowKit Go.Yec Go.Shp Go.Deep
open Go.Xec (Glob)
attribute [local go_sem] Oper.semAt_some
theorem y1B {w:World} {B t:Nat} {c:Array Value} (h:B=w.heap.size):NB (w.alloc (.cells c t)) B c t:=h▸NB.here w c t
set_option maxRecDepth 100000 in
set_option maxHeartbeats 8000000 in
theorem z3C (s:Sh):∀ (n:Nd) (dm lv:Int) (path:List Int) (off:Int) (st:List Stp) (W:World) (C:Nat->Prop) (J:Nat->(Nat->Prop)->World->Prop) (l i0 B b1 b2 b3 b4:Nat) (pv sv:Value),
    mpS s=some n->valS s dm lv=true->0 <= dm->okS s->0 <= off->off <= lv*524352->(path.length:Int)<lv->(st.length:Int) <= dm ->
    x2D (fun b=>b<W.heap.size/\¬ C b) W B s n ->
    (W.cell? ⟨b1, 0,none⟩=some (.pointer (some ⟨B, 0,none⟩))/\¬ C b1)->(W.cell? ⟨b2, 0,none⟩=some sv/\¬ C b2)->(W.cell? ⟨b3, 0,none⟩=some pv/\¬ C b3)->(W.cell? ⟨b4, 0,none⟩=some (.int .i64 off)/\¬ C b4) ->
    x3K (fun b=>b<W.heap.size/\¬ C b) W pv path->StepsS (fun b=>b<W.heap.size/\¬ C b) W sv st ->
    Abd W.heap.size J->J i0 C W ->
    (∀ j x C1 W1 p,(lvS s n path off st)[j]? = some p->J (i0+j) C1 W1->PlS (fun b=>b<W1.heap.size/\¬ C1 b) W1 x p->Yld Tryz.prog l x W1 fun W'=> ∃ C',J (i0+j+1) C' W'/\Kpc C1 W1 C' W') ->
    Calls Tryz.prog 150 #[.func (.yield l) #[] #[], .pointer (some ⟨b1, 0,none⟩), .pointer (some ⟨b2, 0,none⟩), .pointer (some ⟨b3, 0,none⟩), .pointer (some ⟨b4, 0,none⟩)] W fun e W'=>(∃ v,e = .returned v)/\∃ C',J (i0+(lvS s n path off st).length) C' W'/\Kpc C W C' W':=by
  induction s using Sh.ind with
  | h D P t g ih =>
  intro n dm lv path off st W C J l i0 B b1 b2 b3 b4 pv sv hm hv hdm hok ho0 ho1 hpl hsl hN h1 h2 h3 h4 hp hs hA hJ hY;cases P with
  | nil=>exact y9Q D t g n dm lv path off st W C J l i0 B b1 b2 b3 b4 pv sv hm hv hdm hok ho0 ho1 hpl hsl hN h1 h2 h3 h4 hp hs hA hJ hY
  | cons p0 P0 =>
  obtain ⟨X,hX⟩:∃ X,lvS (.node D (p0::P0) t g) n path off st=X:=⟨_,rfl⟩;rw [hX] at hY |-;have hP99:Hid (P0.length <= 99):=by
    have h:=hok.2.1;simp only [List.length_cons] at h;show P0.length <= 99;omega
  have hvd:=x2L hv;have hDl:D.length <= 3:=by have:=hvd.1; omega
  have hlv:=hvd.2.1;have hlen:=y6Q hm;have hslen:=y0Q hm;have hsub:∀ b,(b<W.heap.size/\¬ C b)->b<W.heap.size:=fun b h=>h.1;have hst0:=fun w hB hS=>z5S (.node D (p0::P0) t g) n B W w sv st (x1G hsub (KeepS.refl _ W) hN) hm hB hS (by omega) (show D.length <= 100 by omega)
  have hsA:x8Y W sv st:=x1F hsub (KeepS.refl _ W) hs;obtain ⟨sa,sc,rfl⟩:=hs.form;obtain ⟨pa,pc,rfl⟩:∃ a c,pv = .slice a path.length c:=by obtain ⟨a,c,h, -⟩:=hp; exact ⟨a,c,h⟩
  refine (callsIn_wide (n:= 0)).1 (callsIn_of_wp_marks Tryz.func150 rfl trivial ?_ rfl);refine wpIn_wide.2 ?_;simp only [Tryz.ntmps150,List.size_toArray,List.length_cons,List.length_nil,Nat.reduceAdd,Nat.reduceSub,Array.replicate_succ,Array.replicate_zero,List.push_toArray,List.append_toArray,List.nil_append,List.cons_append];obtain ⟨c1,n1⟩:=h1;obtain ⟨c2,n2⟩:=h2;obtain ⟨c3,n3⟩:=h3;obtain ⟨c4,n4⟩:=h4;have l1:=World.block_lt_of_cell? _ _ c1;have l2:=World.block_lt_of_cell? _ _ c2;have l3:=World.block_lt_of_cell? _ _ c3;have l4:=World.block_lt_of_cell? _ _ c4;simp only at l1 l2 l3 l4;have hal:Below W.heap.size W (W.alloc (.cells #[.func (.yield l) #[] #[]] 149)):=(Below.refl _ W).alloc (Nat.le_refl _) _
  go_wp2_with (go_at_call 151; fail)
  refine (hst0 _ hal (hsA.below hal)).mono ?_;rintro e w2 ⟨⟨ov,rfl,hov⟩,hb⟩;have hB2:Below W.heap.size W w2:=hal.trans (hb.mono hal.size);have hsz2:=hB2.size;have hszb:=hb.size;simp only [World.size_alloc] at hszb;have hszl:W.heap.size<w2.drew.heap.size:=by show _<w2.heap.size; omega
  have hk2:Kpc C W C w2:=Kpc.of_below hB2;have hJ2:J i0 C w2:=hA.itk _ _ _ _ hJ (Itk.of_below hB2);have hx5:w2.cell? ⟨W.heap.size, 0,none⟩=some (.func (.yield l) #[] #[]):=by
    rw [hb.cell (p:=⟨W.heap.size, 0,none⟩) (by simp)]
    simp
  have hx5n:¬ C W.heap.size:=fun h=>by have:=hA.lt _ _ _ hJ _ h; omega
  have hkS:KeepS (fun b=>b<W.heap.size/\¬ C b) W w2:=KeepS.below hB2 fun b h=>h.1;have hS2:∀ b,(b<W.heap.size/\¬ C b)->b<w2.heap.size/\¬ C b:=fun b h=>⟨by omega,h.2⟩
  have hN2:=x1G hS2 hkS hN;have hp2:=x0U hS2 hkS hp;have hov2:StepsS (fun b=>b<w2.heap.size/\¬ C b) w2 ov (st++stpN (.node D (p0::P0) t g) n):=x1F (fun b h=>⟨h.2,fun hc=>by have:=hA.lt _ _ _ hJ _ hc; simp only [World.size_alloc] at h; omega⟩) (KeepS.refl _ _) hov
  have d1:=(hB2.cell (p:=⟨b1, 0,none⟩) l1).trans c1;have d3:=(hB2.cell (p:=⟨b3, 0,none⟩) l3).trans c3;have d4:=(hB2.cell (p:=⟨b4, 0,none⟩) l4).trans c4;clear hst0 hsA hov c1 c2 c3 c4 hs hkS hN hp hb hal;obtain ⟨oa,oc,rfl⟩:=hov2.form;obtain ⟨hBn,aa,acap,qa,qcap,hcw,hat,hpt⟩:=z0R hN2;obtain ⟨e8,e9,e15,e16⟩:=hcw w2 (KeepS.refl _ _)
  . have hXL:lvL (p0::P0) n.ps n.at' 0 path off (st++stpN (.node D (p0::P0) t g) n)=X:=by rw [<- hX,y4V]
    obtain ⟨pb,po,rfl,hpb,hpts⟩:=hpt (by simp [Sh.P])
    have hXLH:Hid (lvL (p0::P0) n.ps n.at' 0 path off (st++stpN (.node D (p0::P0) t g) n)=X):=hXL;have e16':w2.cell? ⟨B, 16,none⟩=some (.slice (some ⟨pb,po,none⟩) (P0.length+1) qcap):=e16;obtain ⟨sl,hsl2⟩:∃ sl,(st++stpN (.node D (p0::P0) t g) n).length=sl:=⟨_,rfl⟩;rw [hsl2] at hov2 |-
    clear e16 hXL hX hpt;have hKS:∀ C1 wr,Kpc C w2 C1 wr->KeepS (fun b=>b<w2.heap.size/\¬ C b) w2 wr:=fun C1 wr h=>⟨h.below.size,fun b hb=>(h.same b hb.1 hb.2).1⟩;have hb18:((P0.length:Int)+1==0)=false:=by rw [beq_eq_false_iff_ne]; omega
    go_wp2
    refine wp_loop (fun a wr=> ∃ (x:Nat) (C1:Nat->Prop) (Ds:List Nat) (pre:List Pl) (u7 u8 u9 u32 u33 u34 u35 u36 u37 u38 u39 u40 u41 u42 u43 u44 u45 u46 u47 u48 u49 u50 u51 u52 u53 u54 u55 u56 u57 u58 u59:Value),a={ tmps:= #[.func (.yield l) #[] #[], .pointer (some ⟨b1, 0,none⟩), .pointer (some ⟨b2, 0,none⟩), .pointer (some ⟨b3, 0,none⟩), .pointer (some ⟨b4, 0,none⟩), .pointer (some ⟨W.heap.size, 0,none⟩), .slice oa sl oc,u7,u8,u9, .pointer (some ⟨B, 0,none⟩), .slice sa st.length sc, .slice oa sl oc, .pointer (some ⟨B, 0,none⟩), .pointer (some ⟨B, 0,none⟩), .pointer (some ⟨B, 16,none⟩), .slice (some ⟨pb,po,none⟩) (P0.length+1) qcap, .int .i64 (P0.length+1), .bool false,undef,undef,undef,undef,undef,undef,undef, .pointer (some ⟨B, 0,none⟩), .pointer (some ⟨B, 0,none⟩), .pointer (some ⟨B, 16,none⟩), .slice (some ⟨pb,po,none⟩) (P0.length+1) qcap, .int .i64 (P0.length+1), .int .i64 (x:Nat),u32,u33,u34,u35,u36,u37,u38,u39,u40,u41,u42,u43,u44,u45,u46,u47,u48,u49,u50,u51,u52,u53,u54,u55,u56,u57,u58,u59],defers:=Ds.map fun D=> { target:= .collected D,args:= #[] } }/\x <= P0.length+1/\Hid (pre++lvL ((p0::P0).drop x) (n.ps.drop x) (n.at'.drop x) x path off (st++stpN (.node D (p0::P0) t g) n)=X)/\J (i0+pre.length) C1 wr/\Kpc C w2 C1 wr/\Ds.Nodup/\∀ D∈Ds,wr.heap[D]? = some (.deferred (some []))/\w2.heap.size <= D/\¬ C1 D)
      (fun a _=>((P0.length:Int)+1-intOf (a.tmps.getD 31 undef)).toNat) ?start ?round
    case start =>
      exact ⟨0,C,[],[],_,_,_,_,_,_,_,_,_,_,_,_,_,_,_,_,_,_,_,_,_,_,_,_,_,_,_,_,_,_,_,rfl,by omega,by simpa using hXLH,by simpa using hJ2,Kpc.refl _ _,List.nodup_nil,fun D hD=>by cases hD⟩
    case round =>
      rintro a wr ⟨x,C1,Ds,pre,u7,u8,u9,u32,u33,u34,u35,u36,u37,u38,u39,u40,u41,u42,u43,u44,u45,u46,u47,u48,u49,u50,u51,u52,u53,u54,u55,u56,u57,u58,u59,rfl,hx,hXx,hJx,hKx,hnd,hDs⟩;have hK:=hKS C1 wr hKx;have hszr:=hKx.below.size;have hC1:∀ b,(b<w2.heap.size/\¬ C b)->¬ C1 b:=fun b hb=>(hKx.same b hb.1 hb.2).2
      by_cases hlt:x<P0.length+1
      . obtain ⟨p,hp0⟩:∃ p,(p0::P0)[x]? = some p:=⟨_,List.getElem?_eq_getElem (by simpa using hlt)⟩
        obtain ⟨m,Bm,hpm,hpc,hNm⟩:=hpts x p hp0;obtain ⟨m2,hpm2,hmp⟩:=hlen.2.2.2 x p hp0;rw [hpm] at hpm2;cases hpm2;have hal':n.at'.length=P0.length+1:=hlen.2.1;obtain ⟨sb,so,scp,hsv,hsb,hsc⟩:=u6P hat (i:=x) (by omega)
        cases hsv;obtain ⟨a,ha⟩:∃ a,n.at'[x]? = some a:=⟨_,List.getElem?_eq_getElem (by omega)⟩
        have hag:n.at'.getD x 0=a:=by rw [List.getD_eq_getElem?_getD,ha]; rfl
        rw [hag] at hsc;have hab:=mp_at hv hm a (List.mem_of_getElem? ha);have hvp:valS p (dm+D.length) (lv+1)=true:=y4G hv hp0;have hokp:okS p:=u0T hok hp0;have hstep:=lvL_drop hp0 hpm ha path off (st++stpN (.node D (p0::P0) t g) n);have hXs:=hXx.out;rw [hstep] at hXs;have f1:=(hK.cell (b:=b1) (i:= 0) ⟨by omega,n1⟩).trans d1
        have f3:=(hK.cell (b:=b3) (i:= 0) ⟨by omega,n3⟩).trans d3
        have f4:=(hK.cell (b:=b4) (i:= 0) ⟨by omega,n4⟩).trans d4
        have f5:=(hcw wr hK).2.2.1;have f6:=(hK.cell (b:=sb) (i:=so+x) hsb).trans hsc;have f7:=hpc wr hK;have hpr:=x0U (S':=fun b=>b<wr.heap.size) (fun b hb=>Nat.lt_of_lt_of_le hb.1 hszr) hK hp2;obtain ⟨i1,hi1,hz1,hs1,hy1⟩:=y2M v5V;have hprA:IntsAt wr (.slice pa path.length pc) path:=z7A hpr;obtain ⟨pao,pcp,hpe,hao, -⟩:=hprA.news;cases hpe;have hnw:∀ w',Below wr.heap.size wr w'->∀ ad,pa=some ad->∀ j u,(path.map fun y=>Value.int .i64 y)[j]? = some u->w'.cell? (ad.add j)=some u:=fun w' hb=>by
          obtain ⟨ao',cap',he, -, h2⟩:=(hprA.below hb).news;cases he;exact h2
        have hlP:(path.map fun y=>Value.int .i64 y).length=path.length*1:=by simp
        have hone:=y6S path;generalize hxs:(path.map fun y=>Value.int .i64 y)=xs at hnw hlP hone;have hxsH:Hid (path.map (fun y=>Value.int .i64 y)=xs):=hxs;clear hxs;have hL0:Below wr.heap.size wr wr:=Below.refl _ _;have hB1r:b1<wr.heap.size:=by omega
        have hB3r:b3<wr.heap.size:=by omega
        have hB4r:b4<wr.heap.size:=by omega
        have hBr:B<wr.heap.size:=by have:=hBn.1; omega
        have hsbr:sb<wr.heap.size:=by have:=hsb.1; omega
        have hS7:∀ w',Below wr.heap.size wr w'->w'.cell? ⟨b3, 0,none⟩=some (.slice pa path.length pc)/\w'.cell? ⟨b4, 0,none⟩=some (.int .i64 off)/\w'.cell? ⟨b1, 0,none⟩=some (.pointer (some ⟨B, 0,none⟩))/\w'.cell? ⟨B, 15,none⟩=some (.slice (some ⟨sb,so,none⟩) n.at'.length acap)/\w'.cell? ⟨sb,so+x,none⟩=some (.int .i64 a)/\Below wr.heap.size wr w':=fun w' hb=>⟨(hb.cell (p:=⟨b3, 0,none⟩) hB3r).trans f3,(hb.cell (p:=⟨b4, 0,none⟩) hB4r).trans f4,(hb.cell (p:=⟨b1, 0,none⟩) hB1r).trans f1,(hb.cell (p:=⟨B, 15,none⟩) hBr).trans f5,(hb.cell (p:=⟨sb,so+x,none⟩) hsbr).trans f6,hb⟩;have hxN:x<n.at'.length:=by omega
        have hx1:(x:Int)<(n.at'.length:Int):=by omega
        have hx0:(0:Int) <= (x:Int):=by omega
        have hob:0 <= off+a/\off+a <= (lv+1)*524352:=by omega
        have hwr:IntKind.i64.wrap (off+a)=off+a:=w64i (by omega)
        clear hal' hlen
        go_upto_region 7 with fail
        go_cut [53] from 32 to 53 (fun v53 wx=> ∃ (q:Nat) (pv':Value),v53 = .func (.func 150) #[] #[.pointer (some ⟨q, 0,none⟩), .pointer (some ⟨q+3, 0,none⟩), .pointer (some ⟨q+1, 0,none⟩), .pointer (some ⟨q+2, 0,none⟩)]/\wr.heap.size <= q/\q+4 <= wx.heap.size/\NB wx q #[.pointer (some ⟨Bm, 0,none⟩)] 128/\NB wx (q+1) #[pv'] 32/\NB wx (q+2) #[.int .i64 (off+a)] 3/\NB wx (q+3) #[.slice oa sl oc] 48/\x3K (fun b=>wr.heap.size <= b/\b<wx.heap.size) wx pv' (path++[(x:Int)])/\Below wr.heap.size wr wx)
        case first =>
          go_region_held3 (fun w'=>w'.cell? ⟨b3, 0,none⟩=some (.slice pa path.length pc)/\w'.cell? ⟨b4, 0,none⟩=some (.int .i64 off)/\w'.cell? ⟨b1, 0,none⟩=some (.pointer (some ⟨B, 0,none⟩))/\w'.cell? ⟨B, 15,none⟩=some (.slice (some ⟨sb,so,none⟩) n.at'.length acap)/\w'.cell? ⟨sb,so+x,none⟩=some (.int .i64 a)/\Below wr.heap.size wr w')
            (first
              | (with_reducible assumption)
              | (with_reducible exact hS7 _ hb8)
              | (with_reducible exact hS7 _ hb6)
              | (with_reducible exact hS7 _ (hb6.alloc hb6.size _))
              | exact hS7 _ hL0.drew
              | exact hS7 _ ((hL0.alloc (Nat.le_refl _) _).drew)
              | exact hS7 _ (((hL0.alloc (Nat.le_refl _) _).alloc (by simp) _).drew)
              | exact hS7 _ ((((hb8.alloc hb8.size _).alloc (hb8.alloc hb8.size _).size _).alloc ((hb8.alloc hb8.size _).alloc (hb8.alloc hb8.size _).size _).size _).alloc (((hb8.alloc hb8.size _).alloc (hb8.alloc hb8.size _).size _).alloc ((hb8.alloc hb8.size _).alloc (hb8.alloc hb8.size _).size _).size _).size _))
            (first
              | (refine x6V _ rfl (.tmp 37) (.tmp 38) 32 rfl wr.heap.size 3 i1 (.int .i64 0) 1 8 Tryz.underlying32 hi1 hz1 hs1 hy1 rfl (by decide) _ 0 [] (by simp [Act.eval,Act.put]) (x2Y (World.ownsRow_lit (size:= 1) wr #[] 0 (Nat.le_refl _) (by decide) rfl) (Below.refl _ _).drew) pa path.length pc xs (by simp [Act.eval,Act.put]) hao hlP (hnw _ ((hL0.alloc (Nat.le_refl _) (.cells #[] 3)).drew)) hone (by unfold maxLen; omega) (by omega) (by simp; try omega) ?_; intro v' w6 ho6 hgr6 hnn6; obtain ⟨vg,vcap,rfl⟩:=x5N ho6; have hb6:Below wr.heap.size wr w6:=x4B (x2Y (World.ownsRow_lit (size:= 1) wr #[] 0 (Nat.le_refl _) (by decide) rfl) (Below.refl _ _).drew) (Nat.le_refl _) ((hL0.alloc (Nat.le_refl _) (.cells #[] 3)).drew) (by simp; try omega) hgr6)
              | (refine x6V _ rfl (.tmp 37) (.tmp 38) 32 rfl wr.heap.size 3 i1 (.int .i64 0) 1 8 Tryz.underlying32 hi1 hz1 hs1 hy1 rfl (by decide) _ 0 [] (by simp [Act.eval,Act.put]) (x2Y (World.ownsRow_lit (size:= 1) wr #[] 0 (Nat.le_refl _) (by decide) rfl) ((Below.refl _ (wr.alloc (.cells #[] 3))).alloc (Nat.le_refl _) (.cells #[.int .i64 (x:Nat)] 3)).drew) pa path.length pc xs (by simp [Act.eval,Act.put]) hao hlP (hnw _ (((hL0.alloc (Nat.le_refl _) (.cells #[] 3)).alloc (by simp) (.cells #[.int .i64 (x:Nat)] 3)).drew)) hone (by unfold maxLen; omega) (by omega) (by simp; try omega) ?_; intro v' w6 ho6 hgr6 hnn6; obtain ⟨vg,vcap,rfl⟩:=x5N ho6; have hb6:Below wr.heap.size wr w6:=x4B (x2Y (World.ownsRow_lit (size:= 1) wr #[] 0 (Nat.le_refl _) (by decide) rfl) ((Below.refl _ (wr.alloc (.cells #[] 3))).alloc (Nat.le_refl _) (.cells #[.int .i64 (x:Nat)] 3)).drew) (Nat.le_refl _) (((hL0.alloc (Nat.le_refl _) (.cells #[] 3)).alloc (by simp) (.cells #[.int .i64 (x:Nat)] 3)).drew) (by simp; try omega) hgr6; have hE:w6.cell? ⟨wr.heap.size+1, 0,none⟩=some (.int .i64 (x:Nat)):=(World.cell?_of_block (hgr6.block _ (by simp) (by simp [Value.ownBlock]))).trans (by simp))
              | (refine x6V _ rfl (.tmp 37) (.tmp 38) 32 rfl wr.heap.size 3 i1 (.int .i64 0) 1 8 Tryz.underlying32 hi1 hz1 hs1 hy1 rfl (by decide) _ 0 [] (by simp [Act.eval,Act.put]) (x2Y (World.ownsRow_lit (size:= 1) (wr.alloc (.cells #[.int .i64 (x:Nat)] 3)) #[] 0 (by simp) (by decide) rfl) (Below.refl _ _).drew) pa path.length pc xs (by simp [Act.eval,Act.put]) hao hlP (hnw _ (((hL0.alloc (Nat.le_refl _) (.cells #[.int .i64 (x:Nat)] 3)).alloc (by simp) (.cells #[] 3)).drew)) hone (by unfold maxLen; omega) (by omega) (by simp; try omega) ?_; intro v' w6 ho6 hgr6 hnn6; obtain ⟨vg,vcap,rfl⟩:=x5N ho6; have hb6:Below wr.heap.size wr w6:=x4B (x2Y (World.ownsRow_lit (size:= 1) (wr.alloc (.cells #[.int .i64 (x:Nat)] 3)) #[] 0 (by simp) (by decide) rfl) (Below.refl _ _).drew) (Nat.le_refl _) (((hL0.alloc (Nat.le_refl _) (.cells #[.int .i64 (x:Nat)] 3)).alloc (by simp) (.cells #[] 3)).drew) (by simp; try omega) hgr6; have hE:w6.cell? ⟨wr.heap.size, 0,none⟩=some (.int .i64 (x:Nat)):=(World.cell?_of_block (hgr6.block _ (by simp; omega) (by simp [Value.ownBlock]))).trans (by simp))
              | (refine y0R _ rfl (.tmp 39) (.tmp 41) 32 rfl wr.heap.size 3 i1 (.int .i64 0) 1 8 Tryz.underlying32 hi1 hz1 hs1 hy1 rfl (by decide) _ _ _ (by simp [Act.eval,Act.put]) (x2Y ho6 ((Below.refl _ w6).alloc (Nat.le_refl _) (.cells #[.int .i64 (x:Nat)] 3))) ⟨w6.heap.size, 0,none⟩ 1 1 [.int .i64 (x:Nat)] (by simp [Act.eval,Act.put]) rfl (fun j u hu=>by match j,hu with | 0,hu=>simp at hu; subst hu; simp [Addr.add]) (fun u hu=>by simp at hu; subst hu; rfl) (by unfold maxLen; omega) (by omega) (by have:=hb6.size; simp; try omega) ?_; intro v' w8 ho8 hgr8 hnn8; obtain ⟨vg8,vcap8,rfl⟩:=y4T ho8 (by omega); have hb8:Below wr.heap.size wr w8:=x4B (x2Y ho6 ((Below.refl _ w6).alloc (Nat.le_refl _) (.cells #[.int .i64 (x:Nat)] 3))) (Nat.le_refl _) (hb6.alloc hb6.size (.cells #[.int .i64 (x:Nat)] 3)) (by have:=hb6.size; simp; try omega) hgr8)
              | (have hE1:w6.cell? ⟨wr.heap.size+1, 0,none⟩=some (.int .i64 (x:Nat)):=hE; refine y0R _ rfl (.tmp 39) (.tmp 41) 32 rfl wr.heap.size 3 i1 (.int .i64 0) 1 8 Tryz.underlying32 hi1 hz1 hs1 hy1 rfl (by decide) _ _ _ (by simp [Act.eval,Act.put]) (ho6) ⟨wr.heap.size+1, 0,none⟩ 1 1 [.int .i64 (x:Nat)] (by simp [Act.eval,Act.put]) rfl (fun j u hu=>by match j,hu with | 0,hu=>simp at hu; subst hu; simpa [Addr.add] using hE) (fun u hu=>by simp at hu; subst hu; rfl) (by unfold maxLen; omega) (by omega) (by have:=hb6.size; simp; try omega) ?_; intro v' w8 ho8 hgr8 hnn8; obtain ⟨vg8,vcap8,rfl⟩:=y4T ho8 (by omega); have hb8:Below wr.heap.size wr w8:=x4B (ho6) (Nat.le_refl _) (hb6) (by have:=hb6.size; simp; try omega) hgr8)
              | (have hE1:w6.cell? ⟨wr.heap.size, 0,none⟩=some (.int .i64 (x:Nat)):=hE; refine y0R _ rfl (.tmp 39) (.tmp 41) 32 rfl wr.heap.size 3 i1 (.int .i64 0) 1 8 Tryz.underlying32 hi1 hz1 hs1 hy1 rfl (by decide) _ _ _ (by simp [Act.eval,Act.put]) (ho6) ⟨wr.heap.size, 0,none⟩ 1 1 [.int .i64 (x:Nat)] (by simp [Act.eval,Act.put]) rfl (fun j u hu=>by match j,hu with | 0,hu=>simp at hu; subst hu; simpa [Addr.add] using hE) (fun u hu=>by simp at hu; subst hu; rfl) (by unfold maxLen; omega) (by omega) (by have:=hb6.size; simp; try omega) ?_; intro v' w8 ho8 hgr8 hnn8; obtain ⟨vg8,vcap8,rfl⟩:=y4T ho8 (by omega); have hb8:Below wr.heap.size wr w8:=x4B (ho6) (Nat.le_refl _) (hb6) (by have:=hb6.size; simp; try omega) hgr8)
              | (go_at_call 98; refine (y3Q Bm _ _ _ _ _ _ _ _).mono ?_; rintro e w9 ⟨rfl,rfl⟩; dsimp only))
          all_goals
            dsimp only [Exit.then]
            refine (‹∀ (a':Act) (w':World),Met _ a' w'->_›) _ _ ?_
            go_meet
            case rel =>
              have hal8:Below w8.heap.size w8 ((((w8.alloc (.cells #[.pointer (some ⟨Bm, 0,none⟩)] 128)).alloc (.cells #[.slice (some ⟨vg8, 0,none⟩) (path.length+1) vcap8] 32)).alloc (.cells #[.int .i64 (off+a)] 3)).alloc (.cells #[.slice oa sl oc] 48)):=((((Below.refl _ w8).alloc (Nat.le_refl _) _).alloc (by simp) _).alloc (by simp; omega) _).alloc (by simp; omega) _
              refine ⟨w8.heap.size,_,rfl,hb8.size,by simp,((y1B rfl).alloc _ |>.alloc _).alloc _,((y1B (by simp)).alloc _).alloc _,(y1B (by simp)).alloc _,y1B (by simp), ?_,hb8.trans (hal8.mono hb8.size)⟩
              have hl8:([]++xs)++[Value.int .i64 (x:Nat)]=(path++[(x:Int)]).map fun y=>Value.int .i64 y:=by
                rw [<- hxsH.out];simp
              rw [hl8] at ho8;have hbk:=x5P ho8 (g:=vg8) rfl;have hlt8:=z6L ho8 (g:=vg8) rfl;have h8:=y7D (S:=fun b=>wr.heap.size <= b/\b<w8.heap.size) ho8 (fun g hg=>by cases hg; exact ⟨hbk.1,hlt8⟩)
              simp only [Nat.zero_add] at h8;exact x5Q (fun b hb=>⟨hb.1,Nat.lt_of_lt_of_le hb.2 hal8.size⟩) (y8B hal8) h8
        case rest =>
          obtain ⟨q,pv',rfl,hq1,hq2,hq3,hq4,hq5,hq6,hq7,hBc⟩:=hcut;have hszc:=hBc.size;go_wp2;refine u4R (gf:= 150) (lb:= #[.pointer (some ⟨q, 0,none⟩), .pointer (some ⟨q+3, 0,none⟩), .pointer (some ⟨q+1, 0,none⟩), .pointer (some ⟨q+2, 0,none⟩)]) rfl (enters_of Tryz.func150 (by kernel_rfl) rfl) fun fn=> ?_
          obtain ⟨L,hL⟩:∃ L,L=wc.heap.size+1:=⟨_,rfl⟩;rw [<- hL];generalize hrc:y1C _ fn _ _ _ _ LoopState.ready=rc;obtain ⟨wL,hwL⟩:∃ wL,(wc.alloc (.deferred (some []))).alloc (.loop rc)=wL:=⟨_,rfl⟩;rw [hwL];have hBL:Below wc.heap.size wc wL:=by
            rw [<- hwL];exact ((Below.refl _ wc).alloc (Nat.le_refl _) _).alloc (by simp) _
          have hszL:wL.heap.size=wc.heap.size+2:=by
            rw [<- hwL];simp
          have hLL:wL.heap[L]? = some (.loop rc):=by
            rw [<- hwL,hL]
            have:=World.alloc_heap_new (wc.alloc (.deferred (some []))) (.loop rc)
            rwa [World.size_alloc] at this
          have hDL:wL.heap[wc.heap.size]? = some (.deferred (some [])):=by
            rw [<- hwL];exact (Below.heap_alloc _ _ _ (by simp)).trans (World.alloc_heap_new wc _)
          have hBr:Below wr.heap.size wr wL:=hBc.trans (hBL.mono hszc);have hltC:∀ b,C1 b->b<wr.heap.size:=hA.lt _ _ _ hJx;have hnL:¬ C1 L:=fun h=>by have:=hltC _ h; omega
          have hpm0:p∈p0::P0:=List.mem_of_getElem? hp0;have hcL:=fun {b i:Nat} {v:Value} (h:wr.cell? ⟨b,i,none⟩=some v)=>(hBr.cell (p:=⟨b,i,none⟩) (World.block_lt_of_cell? _ _ h)).trans h;have hSx:∀ b,(b<w2.heap.size/\¬ C b)->b<wL.heap.size/\¬ (C1 b\/b=L):=fun b hb=>⟨by have:=hb.1; omega,fun h=>by
            rcases h with h | h
            . exact hC1 b hb h
            . have:=hb.1; omega⟩
          have hKL:KeepS (fun b=>b<w2.heap.size/\¬ C b) w2 wL:=hK.trans (KeepS.below hBr fun b hb=>Nat.lt_of_lt_of_le hb.1 hszr);have hcal:=ih p hpm0 m (dm+D.length) (lv+1) (path++[(x:Int)]) (off+a) (st++stpN (.node D (p0::P0) t g) n) wL (fun b=>C1 b\/b=L)
            (fun i C' V=> ∃ C0:Nat->Prop,(∀ b,C' b↔(C0 b\/b=L))/\¬ C0 L/\J i C0 V/\V.heap[L]? = some (.loop rc)/\V.cell? ⟨W.heap.size, 0,none⟩=some (.func (.yield l) #[] #[])/\¬ C0 W.heap.size)
            L (i0+pre.length) Bm q (q+3) (q+1) (q+2) pv' (.slice oa sl oc) hmp hvp (by omega) hokp (by omega) (by omega) (by simp; omega) (by rw [List.length_append]; have:=hvd.1; simp only [hslen,Sh.D]; omega)
            (x1G hSx hKL hNm)
            ⟨(hBL.cell (p:=⟨q, 0,none⟩) hq3.lt).trans (hq3.cell 0),fun h=>by rcases h with h | h; (have:=hltC _ h; omega); omega⟩
            ⟨(hBL.cell (p:=⟨q+3, 0,none⟩) hq6.lt).trans (hq6.cell 0),fun h=>by rcases h with h | h; (have:=hltC _ h; omega); omega⟩
            ⟨(hBL.cell (p:=⟨q+1, 0,none⟩) hq4.lt).trans (hq4.cell 0),fun h=>by rcases h with h | h; (have:=hltC _ h; omega); omega⟩
            ⟨(hBL.cell (p:=⟨q+2, 0,none⟩) hq5.lt).trans (hq5.cell 0),fun h=>by rcases h with h | h; (have:=hltC _ h; omega); omega⟩
            (x0U (fun b hb=>⟨by have:=hb.2; omega,fun h=>by rcases h with h | h; (have:=hltC _ h; have:=hb.1; omega); (have:=hb.2; omega)⟩) (KeepS.below hBL fun b hb=>hb.2) hq7)
            (by rw [<- hsl2]; exact x1F hSx hKL (by rw [hsl2]; exact hov2))
            ⟨fun i C' A B' hj hit=>by
              obtain ⟨C0,h1,h2,h3,h4,h5,h6⟩:=hj;exact ⟨C0,h1,h2,hA.itk _ _ _ _ h3 (hit.mono (by omega) fun b hb=>(h1 b).2 (.inl hb)),hit.same L _ h4 (.inl ((h1 L).2 (.inr rfl))),hit.cell h5,h6⟩,fun i C' V hj b hb=>by
              obtain ⟨C0,h1, -, h3,h4, -, -⟩:=hj;rcases (h1 b).1 hb with h | rfl
              . exact hA.lt _ _ _ h3 b h
              . exact x2G h4⟩
            ⟨C1,fun b=>Iff.rfl,hnL,hA.itk _ _ _ _ hJx (Itk.of_below hBr),hLL,(hKL.cell (b:=W.heap.size) (i:= 0) ⟨by omega,hx5n⟩).trans hx5,hC1 _ ⟨by omega,hx5n⟩⟩
            (fun j y C' V p' hget hj hPl=>by
              obtain ⟨C0,h1,h2,h3,h4,h5,h6⟩:=hj;obtain ⟨pv3,sv3,rfl,hi3,hs3⟩:=hPl;obtain ⟨pa3,pc3,rfl⟩:∃ a c,pv3 = .slice a p'.path.length c:=by obtain ⟨a,c,h, -⟩:=hi3; exact ⟨a,c,h⟩
              obtain ⟨sa3,sc3,rfl⟩:=hs3.form;refine yld_of h4 (by rw [<- hrc]) (by rw [<- hrc]; rfl) fun m=> ?_
              have h4':=h4;rw [<- hrc] at h4' |-
              dsimp only [y1C]
              gi_wp2
              refine ⟨(Below.heap_alloc _ _ _ (x2G h4)).trans h4', ?_⟩;have hVlt:=x2G h4;have hBV:Below V.heap.size V (V.alloc (.cells #[.slice pa3 p'.path.length pc3, .int .i64 p'.off, .slice sa3 p'.st.length sc3, .int .i64 p'.b, .int .i64 p'.t.k, .int .i64 p'.t.p, .int .i64 p'.t.q, .bool p'.t.v, .string p'.t.pic] 50)):=(Below.refl _ V).alloc (Nat.le_refl _) _;have hLa:(V.alloc (.cells #[.slice pa3 p'.path.length pc3, .int .i64 p'.off, .slice sa3 p'.st.length sc3, .int .i64 p'.b, .int .i64 p'.t.k, .int .i64 p'.t.p, .int .i64 p'.t.q, .bool p'.t.v, .string p'.t.pic] 50)).heap[L]? = some (.loop rc):=(Below.heap_alloc _ _ _ hVlt).trans h4;have hlt0:W.heap.size<V.heap.size:=World.block_lt_of_cell? _ _ h5;have hne0:W.heap.size≠L:=by omega
              have hneV:V.heap.size≠L:=by omega
              obtain ⟨bz,hbz⟩:∃ bz:Obj,bz.isCells=false/\True:=⟨.loop rc,rfl,trivial⟩;generalize hVb:(V.alloc (.cells #[.slice pa3 p'.path.length pc3, .int .i64 p'.off, .slice sa3 p'.st.length sc3, .int .i64 p'.b, .int .i64 p'.t.k, .int .i64 p'.t.p, .int .i64 p'.t.q, .bool p'.t.v, .string p'.t.pic] 50)).putObj L _=Vb;have hsame:∀ b,b≠L->Vb.heap[b]? = (V.alloc (.cells #[.slice pa3 p'.path.length pc3, .int .i64 p'.off, .slice sa3 p'.st.length sc3, .int .i64 p'.b, .int .i64 p'.t.k, .int .i64 p'.t.p, .int .i64 p'.t.q, .bool p'.t.v, .string p'.t.pic] 50)).heap[b]? :=fun b hb=>by
                rw [<- hVb];exact World.putObj_heap_other hb
              have hszb:Vb.heap.size=V.heap.size+1:=by rw [<- hVb]; simp
              have hItk:Itk W.heap.size C0 V Vb:=by
                rw [<- hVb];exact (Itk.of_below hBV).trans (Itk.putObj hLa h2 (by omega) rfl)
              have hJb:=hA.itk _ _ _ _ h3 hItk;have hcb:∀ pp vv,V.cell? pp=some vv->Vb.cell? pp=some vv:=fun pp vv h=>hItk.cell h;have e0:=hcb _ _ h5;have hnb:NB Vb V.heap.size #[.slice pa3 p'.path.length pc3, .int .i64 p'.off, .slice sa3 p'.st.length sc3, .int .i64 p'.b, .int .i64 p'.t.k, .int .i64 p'.t.p, .int .i64 p'.t.q, .bool p'.t.v, .string p'.t.pic] 50:=(hsame _ hneV).trans (NB.here V _ 50);have hPb:PlS (fun b=>b<Vb.heap.size/\¬ C0 b) Vb (plV (.slice pa3 p'.path.length pc3) (.slice sa3 p'.st.length sc3) p'.off p'.b p'.t) p':=⟨_,_,rfl,x5Q (fun b hb=>⟨by have:=hb.1; omega,fun h=>hb.2 ((h1 b).2 (.inl h))⟩) hcb hi3,x6B (fun b hb=>⟨by have:=hb.1; omega,fun h=>hb.2 ((h1 b).2 (.inl h))⟩) hcb hs3⟩
              obtain ⟨r0,r1,r2,r3,r4,r5,r6,r7,r8,rf⟩:=x3T hnb;have hgetX:X[pre.length+j]? = some p':=by
                have hjl:=(List.getElem?_eq_some_iff.1 hget).1;rw [<- hXs,List.getElem?_append_right (by omega),show pre.length+j-pre.length=j by omega,List.getElem?_append_left hjl]
                exact hget
              have hYv:=hY (pre.length+j) _ C0 Vb p' hgetX (by rw [<- Nat.add_assoc]; exact hJb) hPb (m-1)
              obtain ⟨fn',tm',asg',bd',hy,hR⟩:=hYv
              gi_wp2_with (refine ⟨fun h=>(by cases h), ?_⟩; refine RoundIn.mono (show RoundIn (Fence.wide.inRound _) (m-1) Tryz.prog l fn' tm' asg' bd' Vb _ from hR) ?_; rintro e V2 ⟨rfl,C3,hj3,hk3⟩)
              have g1:V2.heap[L]? = Vb.heap[L]? :=(hk3.same L (by omega) h2).1
              have hV2L:=g1;rw [<- hVb,World.putObj_heap_same (by simp; omega)] at hV2L
              have hn3:¬ C3 L:=(hk3.same L (by omega) h2).2
              have hlt2:=x2G hV2L;refine ⟨hV2L,fun b=>C3 b\/b=L,⟨C3,fun b=>Iff.rfl,hn3, ?_, ?_, ?_, ?_⟩, ?_, ?_⟩
              . refine hA.itk _ _ _ _ (by rw [<- Nat.add_assoc] at hj3; exact hj3) (Itk.putObj hV2L hn3 (by omega) rfl)
              . rw [World.putObj_heap_same hlt2]
              . rw [World.cell?_of_block (w:=V2) (World.putObj_heap_other hne0),World.cell?_of_block (w:=Vb) (hk3.same _ (by omega) h6).1]
                exact e0
              . exact (hk3.same _ (by omega) h6).2
              . refine (((y8S hBV).trans ?_).trans hk3.below).trans (x1N _ _ _);rw [<- hVb];exact x1N _ _ _
              . intro b hb hc;have hb1:b≠L:=fun h=>hc ((h1 b).2 (.inr h));have hb2:¬ C0 b:=fun h=>hc ((h1 b).2 (.inl h));have hb3:=hk3.same b (by omega) hb2
                refine ⟨?_,fun h=>h.elim hb3.2 hb1⟩;rw [World.putObj_heap_other hb1,hb3.1,hsame b hb1];exact Below.heap_alloc _ _ _ hb)
          refine hcal.mono ?_;rintro e w3 ⟨⟨v,rfl⟩,C2',⟨C2,hiff,hn2,hj2,hl2,hf2,hfn2⟩,hkp⟩;refine ⟨⟨v,rfl⟩,hl2, ?_⟩;obtain ⟨w4,hw4⟩:∃ w4,w3.putObj L (.loop { rc with state:= .exhausted })=w4:=⟨_,rfl⟩;have hj4:J (i0+(pre++lvS p m (path++[(x:Int)]) (off+a) (st++stpN (.node D (p0::P0) t g) n)).length) C2 w4:=by
            rw [<- hw4,List.length_append, <- Nat.add_assoc];exact hA.itk _ _ _ _ hj2 (Itk.putObj hl2 hn2 (by omega) rfl)
          have hsm:∀ b,b<wL.heap.size->¬ C1 b->b≠L->w4.heap[b]? = wL.heap[b]?/\¬ C2 b:=fun b hb hc hne=>by
            have h:=hkp.same b hb (fun h=>h.elim hc hne);refine ⟨?_,fun hc2=>h.2 ((hiff b).2 (.inl hc2))⟩;rw [<- hw4,World.putObj_heap_other hne];exact h.1
          have hk4:Kpc C w2 C2 w4:=by
            refine ⟨((hKx.below.trans (y8S hBr)).trans hkp.below).trans (by rw [<- hw4]; exact x1N _ _ _),fun b hb hc=> ?_⟩
            have h1:=hKx.same b hb hc;have h2:=hsm b (by omega) h1.2 (by omega)
            exact ⟨(h2.1.trans (hBr.block b (by omega))).trans h1.1,h2.2⟩
          have hD4:∀ D∈wc.heap.size::Ds,w4.heap[D]? = some (.deferred (some []))/\w2.heap.size <= D/\¬ C2 D:=fun D hD=>by
            rcases List.mem_cons.1 hD with rfl | hD
            . have h2:=hsm wc.heap.size (by omega) (fun h=>by have:=hltC _ h; omega) (by omega)
              exact ⟨h2.1.trans hDL,by omega,h2.2⟩
            . obtain ⟨g1,g2,g3⟩:=hDs D hD;have hDlt:=x2G g1;have h2:=hsm D (by omega) g3 (by omega)
              exact ⟨(h2.1.trans (hBr.block D hDlt)).trans g1,g2,h2.2⟩
          have hnd4:(wc.heap.size::Ds).Nodup:=List.nodup_cons.2 ⟨fun h=>by have:=x2G (hDs _ h).1; omega,hnd⟩
          have hXx4:Hid ((pre++lvS p m (path++[(x:Int)]) (off+a) (st++stpN (.node D (p0::P0) t g) n))++lvL ((p0::P0).drop (x+1)) (n.ps.drop (x+1)) (n.at'.drop (x+1)) (x+1) path off (st++stpN (.node D (p0::P0) t g) n)=X):=by
            show _=X;rw [List.append_assoc];exact hXs
          rw [<- hrc] at hw4;dsimp only [y1C] at hw4 |-
          rw [hw4];have hx2l:x+1 <= P0.length+1:=by omega
          have hms:((P0.length:Int)+1-((x:Int)+1)).toNat<((P0.length:Int)+1-(x:Int)).toNat:=by omega
          go_wp2;have hwx:wrap64 ((x:Int)+1)=(x:Int)+1:=wrap_id (by have:=hP99.out; omega)
          rw [hwx];exact ⟨⟨x+1,C2,wc.heap.size::Ds,_,_,_,_,_,_,_,_,_,_,_,_,_,_,_,_,_,_,_,_,_,_,_,_,_,_,_,_,_,_,_,_,rfl,hx2l,hXx4,hj4,hk4,hnd4,hD4⟩,hms⟩
      . have hxe:x=P0.length+1:=by omega
        subst hxe;have hXs:=hXx.out;rw [show (p0::P0).drop (P0.length+1)=[] by simp,z3A,List.append_nil] at hXs
        rw [hXs] at hJx;go_wp2;refine x5D Ds wr hnd (fun D hD=>(hDs D hD).1) fun W' hb' hs'=> ?_;refine ⟨_,results_none rfl _ _ _,⟨_,rfl⟩,C1, ?_, ?_⟩
        . refine hA.itk _ _ _ _ hJx ⟨hb',fun b o ho hor=> ?_⟩;rw [hs' b fun hD=> ?_]
          . exact ho
          . obtain ⟨g1,g2,g3⟩:=hDs b hD;rw [g1] at ho;cases ho;rcases hor with h | h | h
            . exact g3 h
            . omega
            . cases h
        . have hKw:=hk2.trans hKx;exact ⟨hKw.below.trans hb',fun b hb hc=>⟨(hs' b fun hD=>by have:=(hDs b hD).2.1; omega).trans (hKw.same b hb hc).1,(hKw.same b hb hc).2⟩⟩
end Go.Proofs
namespace Go.Proofs
open Go.RowKit Go.Yec Go.Shp Go.Deep
open Go.Xec (Glob)
set_option maxRecDepth 100000 in
set_option maxHeartbeats 1000000 in
theorem z6A {s:Sh} {n:Nd} {dm lv:Int} {path:List Int} {off:Int} {st:List Stp} {C:Nat->Prop} {J:Nat->(Nat->Prop)->World->Prop} {B b1 b2 b3 b4:Nat} {pv sv:Value} {g:Operand} {ps:Array Tmp} {assign body:Code} {Q:Exit->Act->World->Prop} {a:Act} {w:World}
    (hm:mpS s=some n) (hv:valS s dm lv=true) (hdm:0 <= dm) (hok:okS s) (ho0:0 <= off) (ho1:off <= lv*524352) (hpl:(path.length:Int)<lv) (hsl:(st.length:Int) <= dm)
    (hN:x2D (fun b=>b<w.heap.size/\¬ C b) w B s n)
    (h1:w.cell? ⟨b1, 0,none⟩=some (.pointer (some ⟨B, 0,none⟩))/\¬ C b1) (h2:w.cell? ⟨b2, 0,none⟩=some sv/\¬ C b2) (h3:w.cell? ⟨b3, 0,none⟩=some pv/\¬ C b3) (h4:w.cell? ⟨b4, 0,none⟩=some (.int .i64 off)/\¬ C b4)
    (hp:x3K (fun b=>b<w.heap.size/\¬ C b) w pv path) (hs:StepsS (fun b=>b<w.heap.size/\¬ C b) w sv st)
    (hA:Abd w.heap.size J) (hJ:J 0 C w) (hg:a.eval g = .func (.func 150) #[] #[.pointer (some ⟨b1, 0,none⟩), .pointer (some ⟨b2, 0,none⟩), .pointer (some ⟨b3, 0,none⟩), .pointer (some ⟨b4, 0,none⟩)]) (hps:ps.size=1)
    (hbody:∀ fn m j x C1 V p,(lvS s n path off st)[j]? = some p->J j C1 V->¬ C1 (w.heap.size+1)->V.heap[w.heap.size+1]? = some (.loop (y1C a fn ps assign body w.heap.size .ready))->PlS (fun b=>b<V.heap.size/\¬ C1 b) V x p ->
      assign.wpIn (Fence.wide.inRound (w.heap.size+1)) m Tryz.prog (Exit.then (fun a₁ w₁ =>Below V.heap.size V w₁/\body.wpIn (Fence.wide.inRound (w.heap.size+1)) m Tryz.prog (fun e _ w₂ =>e = .normal/\∃ C',J (j+1) C' w₂/\Kpc C1 (w₁.putObj (w.heap.size+1) (.loop (y1C a fn ps assign body w.heap.size .busy))) C' w₂) a₁ (w₁.putObj (w.heap.size+1) (.loop (y1C a fn ps assign body w.heap.size .busy)))) (fun _ _ _=>False))
        { tmps:=(ps.zip #[x]).foldl (fun t (p,v)=>t.setIfInBounds p v) a.tmps,defers:=[] } V)
    (hend:∀ W' C',J (lvS s n path off st).length C' W'->Kpc C w C' W'->W'.heap[w.heap.size]? = some (.deferred (some []))->¬ C' w.heap.size->Q .normal { a with defers:= { target:= .collected w.heap.size,args:= #[] }::a.defers } W') :
    (Code.rangeFunc g ps assign body).wp Tryz.prog Q a w:=by
  refine u4R (gf:= 150) (lb:= #[.pointer (some ⟨b1, 0,none⟩), .pointer (some ⟨b2, 0,none⟩), .pointer (some ⟨b3, 0,none⟩), .pointer (some ⟨b4, 0,none⟩)]) hg (enters_of Tryz.func150 (by kernel_rfl) rfl) fun fn=> ?_
  obtain ⟨L,hL⟩:∃ L,L=w.heap.size+1:=⟨_,rfl⟩;rw [<- hL] at hbody |-;have hbody':=hbody fn;clear hbody;obtain ⟨rc,hrc⟩:∃ rc,y1C a fn ps assign body w.heap.size .ready=rc:=⟨_,rfl⟩;obtain ⟨wL,hwL⟩:∃ wL,(w.alloc (.deferred (some []))).alloc (.loop (y1C a fn ps assign body w.heap.size .ready))=wL:=⟨_,rfl⟩;rw [hwL];rw [hrc] at hwL |-;have hBL:Below w.heap.size w wL:=by
    rw [<- hwL];exact ((Below.refl _ w).alloc (Nat.le_refl _) _).alloc (by simp) _
  have hszL:wL.heap.size=w.heap.size+2:=by
    rw [<- hwL];simp
  have hLL:wL.heap[L]? = some (.loop rc):=by
    rw [<- hwL,hL]
    have:=World.alloc_heap_new (w.alloc (.deferred (some []))) (.loop rc)
    rwa [World.size_alloc] at this
  have hDL:wL.heap[w.heap.size]? = some (.deferred (some [])):=by
    rw [<- hwL];exact (Below.heap_alloc _ _ _ (by simp)).trans (World.alloc_heap_new w _)
  have hltC:∀ b,C b->b<w.heap.size:=hA.lt _ _ _ hJ;have hnL:¬ C L:=fun h=>by have:=hltC _ h; omega
  have hSx:∀ b,(b<w.heap.size/\¬ C b)->b<wL.heap.size/\¬ (C b\/b=L):=fun b hb=>⟨by have:=hb.1; omega,fun h=>by
    rcases h with h | h
    . exact hb.2 h
    . have:=hb.1; omega⟩
  have hKL:KeepS (fun b=>b<w.heap.size/\¬ C b) w wL:=KeepS.below hBL fun b hb=>hb.1;have hcw:∀ {b:Nat} {v:Value}, (w.cell? ⟨b, 0,none⟩=some v/\¬ C b)->wL.cell? ⟨b, 0,none⟩=some v/\¬ (C b\/b=L):=fun {b v} h=>by
    have hlt:=World.block_lt_of_cell? _ _ h.1;simp only at hlt;exact ⟨(hBL.cell (p:=⟨b, 0,none⟩) hlt).trans h.1,(hSx b ⟨hlt,h.2⟩).2⟩
  have hcal:=z3C s n dm lv path off st wL (fun b=>C b\/b=L)
    (fun i C' V=> ∃ C0:Nat->Prop,(∀ b,C' b↔(C0 b\/b=L))/\¬ C0 L/\J i C0 V/\V.heap[L]? = some (.loop rc))
    L 0 B b1 b2 b3 b4 pv sv hm hv hdm hok ho0 ho1 hpl hsl (x1G hSx hKL hN) (hcw h1) (hcw h2) (hcw h3) (hcw h4) (x0U hSx hKL hp) (x1F hSx hKL hs)
    ⟨fun i C' A B' hj hit=>by
      obtain ⟨C0,h1,h2,h3,h4⟩:=hj;exact ⟨C0,h1,h2,hA.itk _ _ _ _ h3 (hit.mono (by omega) fun b hb=>(h1 b).2 (.inl hb)),hit.same L _ h4 (.inl ((h1 L).2 (.inr rfl)))⟩,fun i C' V hj b hb=>by
      obtain ⟨C0,h1, -, h3,h4⟩:=hj;rcases (h1 b).1 hb with h | rfl
      . exact hA.lt _ _ _ h3 b h
      . exact x2G h4⟩
    ⟨C,fun b=>Iff.rfl,hnL,hA.itk _ _ _ _ hJ (Itk.of_below hBL),hLL⟩
    (fun j y C' V p' hget hj hPl=>by
      obtain ⟨C0,h1,h2,h3,h4⟩:=hj;rw [Nat.zero_add] at h3;rw [Nat.zero_add];have hVlt:=x2G h4;have hPl0:PlS (fun b=>b<V.heap.size/\¬ C0 b) V y p':=v4A (fun b hb=>⟨hb.1,fun h=>hb.2 ((h1 b).2 (.inl h))⟩) (KeepS.refl _ _) hPl;refine yld_of h4 (by rw [<- hrc]) (by rw [<- hrc]; exact hps) fun m=> ?_
      have hb:=hbody' m j y C0 V p' hget h3 h2 (by rw [hrc]; exact h4) hPl0
      subst hrc;refine wpIn_mono hb ?_;rintro e a₁ w₁ hq;cases e with
      | normal =>
        obtain ⟨hB1,hb1⟩:=hq;have hL1:=(hB1.block L hVlt).trans h4;refine ⟨hL1,wpIn_mono hb1 ?_⟩;rintro e a₂ V2 ⟨rfl,C3,hj3,hk3⟩;generalize hVb:w₁.putObj L _=Vb at hk3;have hs1:=hB1.size;have hszb:Vb.heap.size=w₁.heap.size:=by rw [<- hVb]; simp
        have g1:V2.heap[L]? = Vb.heap[L]? :=(hk3.same L (by omega) h2).1
        have hV2L:=g1;rw [<- hVb,World.putObj_heap_same (by omega)] at hV2L
        have hn3:¬ C3 L:=(hk3.same L (by omega) h2).2
        have hlt2:=x2G hV2L;refine ⟨hV2L,fun b=>C3 b\/b=L,⟨C3,fun b=>Iff.rfl,hn3, ?_, ?_⟩, ?_, ?_⟩
        . exact hA.itk _ _ _ _ hj3 (Itk.putObj hV2L hn3 (by omega) rfl)
        . rw [World.putObj_heap_same hlt2]
        . refine (((y8S hB1).trans ?_).trans hk3.below).trans (x1N _ _ _);rw [<- hVb];exact x1N _ _ _
        . intro b hb hc;have hb1:b≠L:=fun h=>hc ((h1 b).2 (.inr h));have hb2:¬ C0 b:=fun h=>hc ((h1 b).2 (.inl h));have hb3:=hk3.same b (by omega) hb2
          refine ⟨?_,fun h=>h.elim hb3.2 hb1⟩;rw [World.putObj_heap_other hb1,hb3.1, <- hVb,World.putObj_heap_other hb1];exact hB1.block b hb
      | ret=>exact hq.elim
      | exit id=>exact hq.elim
      | goto t=>exact hq.elim
      | panic c=>exact hq.elim
      | outgrown=>exact hq.elim)
  refine hcal.mono ?_;rintro e w3 ⟨⟨v,rfl⟩,C2',⟨C2,hiff,hn2,hj2,hl2⟩,hkp⟩;rw [Nat.zero_add] at hj2;refine ⟨⟨v,rfl⟩,hl2,hend _ C2 (hA.itk _ _ _ _ hj2 (Itk.putObj hl2 hn2 (by omega) rfl)) ?_ ?_ ?_⟩
  . refine ⟨((y8S hBL).trans hkp.below).trans (x1N _ _ _),fun b hb hc=> ?_⟩;have h:=hkp.same b (by omega) (hSx b ⟨hb,hc⟩).2
    refine ⟨?_,fun hc2=>h.2 ((hiff b).2 (.inl hc2))⟩;rw [World.putObj_heap_other (by omega),h.1]
    exact hBL.block b hb
  . have h := hkp.same w.heap.size (by omega) (fun h => by
      rcases h with h | h
      . have:=hltC _ h; omega
      . omega)
    rw [World.putObj_heap_other (by omega),h.1]
    exact hDL
  . have h := hkp.same w.heap.size (by omega) (fun h => by
      rcases h with h | h
      . have:=hltC _ h; omega
      . omega)
    exact fun hc2=>h.2 ((hiff _).2 (.inl hc2))
end Go.Proofs
