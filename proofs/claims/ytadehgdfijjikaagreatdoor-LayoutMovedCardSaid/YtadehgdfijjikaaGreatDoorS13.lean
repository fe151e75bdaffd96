/-
  LayoutAligned, walked.;part of the law's file, walked.;slices.Grow of a nil slice, off the shelf: a row of one's own, nothing in it.;slices.Concat of two slices, walked.;Find of the layout, walked.;group, rows of the law, walked.
-/
import Derived.Test.YtadehgdfijjikaaGreatDoorS11
import Derived.Test.YtadehgdfijjikaaGreatDoorS12
import Derived.Test.YtadehgdfijjikaaGreatDoorZ9
import Derived.Test.YtadehgdfijjikaaGreatDoorY12
import Derived.Test.YtadehgdfijjikaaGreatDoorT2
import Derived.Test.YtadehgdfijjikaaGreatDoorS7
import Derived.Test.YtadehgdfijjikaaGreatDoorS6
import Derived.Shelf.Spec.SlicesGrow
import Derived.Test.YtadehgdfijjikaaGreatDoorS8
set_option linter.all false
set_option maxRecDepth 100000
namespace Go.Proofs
open Go.RowKit Go.Yec Go.Shp Go.Deep
open Go.Xec (Glob)
theorem PlsS.at {w:World}{v:Value}{L:List Pl}(h:v7W w v L){i:Nat}(hi:i<L.length):∃ b o cap p pa pc sa sc,v = .slice (some ⟨b,o,none⟩) L.length cap/\b<w.heap.size/\L[i]? = some p/\w.cell? ⟨b,o+i*9,none⟩=some (.slice pa p.path.length pc)/\w.cell? ⟨b,o+i*9+1,none⟩=some (.int .i64 p.off)/\w.cell? ⟨b,o+i*9+2,none⟩=some (.slice sa p.st.length sc)/\w.cell? ⟨b,o+i*9+3,none⟩=some (.int .i64 p.b) /\
    w.cell? ⟨b,o+i*9+4,none⟩=some (.int .i64 p.t.k)/\w.cell? ⟨b,o+i*9+5,none⟩=some (.int .i64 p.t.p)/\w.cell? ⟨b,o+i*9+6,none⟩=some (.int .i64 p.t.q)/\w.cell? ⟨b,o+i*9+7,none⟩=some (.bool p.t.v)/\w.cell? ⟨b,o+i*9+8,none⟩=some (.string p.t.pic)/\IntsAt w (.slice pa p.path.length pc) p.path/\x9C w (.slice sa p.st.length sc) p.st:=by
  obtain ⟨a,cap,rfl,aV,h0,hx⟩:=h;obtain ⟨b,o,rfl,hb⟩:=h0 (by rintro rfl;simp at hi)
  obtain ⟨pv,sv,h1,h2,h3⟩:=hx b o rfl i L[i] (List.getElem?_eq_getElem hi);obtain ⟨pa,pc,rfl⟩:∃ a c,pv = .slice a L[i].path.length c:=by obtain ⟨a,c,h, -⟩:=h2;exact ⟨a,c,h⟩
  obtain ⟨sa,sc,rfl⟩:=h3.form;exact ⟨b,o,cap,L[i],pa,pc,sa,sc,rfl,hb,List.getElem?_eq_getElem hi,h1 0 (by omega),h1 1 (by omega),h1 2 (by omega),h1 3 (by omega),h1 4 (by omega),h1 5 (by omega),h1 6 (by omega),h1 7 (by omega),h1 8 (by omega),z7C h2,h3⟩
theorem PlsS.form {S:Nat->Prop}{w:World}{v:Value}{L:List Pl}(h:PlsS S w v L):∃ a cap,v = .slice a L.length cap:=by
  obtain ⟨a,cap,rfl, -⟩:=h;exact ⟨a,cap,rfl⟩
set_option maxHeartbeats 4000000 in
theorem part_any (s q:Sh)(path:List Int)(W w:World)(dv pv qv:Value)(hs:ShAt W dv pv s)(hB:Below W.heap.size W w)(hP:IntsAt w qv path)(hq:prtS s path=some q)(am:path.length <= 200)(aC:okS s) :
    Calls Tryz.prog 35 #[shV dv pv s.t s.g,qv] w fun e w'=>(∃ dq pq,e = .returned (.tuple #[shV dq pq q.t q.g, .bool true])/\ShAt W dq pq q)/\Below w.heap.size w w':=by
  have eY:=hs;obtain ⟨a1,c1,a2,c2,rfl,rfl⟩:=hs.slices;obtain ⟨qa,qc,rfl⟩:=hP.form;have tL:Hid (prtS s path=some q):=hq;clear hq;go_enter Tryz.func35,Tryz.ntmps35;go_wp2;have eM:=(NB.here w (shA (.slice a1 s.D.length c1) (.slice a2 s.P.length c2) s.t s.g) 27).alloc (.cells (shA (.slice none 0 0) (.slice none 0 0) ty00 false) 27);have ky:=NB.here (w.alloc (.cells (shA (.slice a1 s.D.length c1) (.slice a2 s.P.length c2) s.t s.g) 27)) (shA (.slice none 0 0) (.slice none 0 0) ty00 false) 27;rw [World.size_alloc] at ky;have au:Below w.heap.size w ((w.alloc (.cells (shA (.slice a1 s.D.length c1) (.slice a2 s.P.length c2) s.t s.g) 27)).alloc (.cells (shA (.slice none 0 0) (.slice none 0 0) ty00 false) 27)):=((Below.refl _ w).alloc (Nat.le_refl _) _).alloc (by simp) _
  go_loopw [10] (fun v10 wr=> ∃ (y:Int) (r:Sh) (dr pr:Value),v10 = .int .i64 y/\0 <= y/\y <= path.length/\Hid (prtS r (path.drop y.toNat)=some q)/\okS r/\ShAt W dr pr r/\NB wr w.heap.size (shA dr pr r.t r.g) 27/\NB wr (w.heap.size+1) (shA (.slice none 0 0) (.slice none 0 0) ty00 false) 27/\Below w.heap.size w wr) (fun vx _=>(path.length-intOf vx).toNat)
  case atStart=>exact ⟨0,s,_,_,rfl,by omega,by omega,(show Hid (prtS s (path.drop (0:Int).toNat)=some q) from tL),aC,eY,eM,ky,au⟩
  case round =>
    clear eM ky au;obtain ⟨y,r,dr,pr,rfl,y0,y1,pN,rg,pL,hn,hz,aD⟩:=hrel;have aL:=hB.trans (aD.mono hB.size)
    by_cases ai:y<(path.length:Int)
    . obtain ⟨i,p,wA,uc,cy,oB,hp,el⟩:=prt_step pN.out (by omega)
      obtain ⟨da,dc,da',dc',rfl, -⟩:=pL.slices;obtain ⟨b,o,cap,a,c,a',c',nu,aM,cx,d0,d1,d2,d3,d4,d5,d6,d7⟩:=v2B pL aL hp;cases nu;have fO:=ok_prt rg hp;obtain ⟨b2,o2,cap2,qx,lR,e0⟩:=(hP.below aD).at (i:=y.toNat) (by omega)
      cases qx;rw [uc] at e0;obtain ⟨k0,k1,k2,k3,k4,k5,k6,k7,kf⟩:=y5F hn;have vJ:Hid (prtS p (path.drop (y+1).toNat)=some q):=by
        show _=_;rw [show (y+1).toNat=y.toNat+1 by omega]
        exact el
      clear el pN uc wA hp;go_wp2
      go_roundw
      case rel=>exact ⟨_,p,_,_,rfl,by omega,by omega,vJ,fO,cx,bx_set hn,bx_other hz (by omega),z4C aD (Nat.le_refl _)⟩
      case measure=>simp [intOf];omega
    . have vd:y=path.length:=by omega
      subst vd;have qL:=pN.out;rw [Int.toNat_natCast] at qL;obtain rfl:=prt_end qL;obtain ⟨k0,k1,k2,k3,k4,k5,k6,k7,kf⟩:=y5F hn;obtain ⟨l0,l1,l2,l3,l4,l5,l6,l7,lf⟩:=y5F hz;obtain ⟨da,dc,da',dc',rfl,rfl⟩:=pL.slices;clear qL pN tL;go_wp2;refine bodyPost_ret (v:= .tuple #[shV (.slice da r.D.length dc) (.slice da' r.P.length dc') r.t r.g, .bool true]) (by rw [results_cell_tmp rfl];go_simp) rfl ⟨⟨_,_,rfl,pL⟩,z4C aD (by omega)⟩
end Go.Proofs
namespace Go.Proofs
open Go.RowKit Go.Yec Go.Shp Go.Deep
open Go.Shelf
def Tryz.laysG106_ren:Go.Shelf.Ren:=⟨fun | 4=> 106 | n=>n,fun | 22=> 22 | 25=> 27 | n=>n,fun | n=>n⟩
theorem Tryz.laysG106:Go.Proofs.Lays8.n4 Tryz.prog Tryz.laysG106_ren:= {
  mixed:=by kernel_rfl
  f4:=⟨Tryz.f106.name,by decide,Tryz.func106.trans (congrArg some (by kernel_rfl))⟩
  t0:=Tryz.underlying0
  a0:=Tryz.isAgg0
  z0:=Tryz.sizeOf0
  v0:=Tryz.zeroValue0
  t3:=Tryz.underlying3
  a3:=Tryz.isAgg3
  z3:=Tryz.sizeOf3
  v3:=Tryz.zeroValue3
  t4:=Tryz.underlying4
  a4:=Tryz.isAgg4
  z4:=Tryz.sizeOf4
  v4:=Tryz.zeroValue4
  t9:=Tryz.underlying9
  a9:=Tryz.isAgg9
  z9:=Tryz.sizeOf9
  v9:=Tryz.zeroValue9
  t20:=Tryz.underlying20
  a20:=Tryz.isAgg20
  z20:=Tryz.sizeOf20
  v20:=Tryz.zeroValue20
  t22:=Tryz.underlying22
  a22:=Tryz.isAgg22
  z22:=Tryz.sizeOf22
  v22:=Tryz.zeroValue22 }
theorem v5Q:(Tryz.prog.info? 27).map (fun i=>(i.zero,i.size,i.bytes))=some (some (.agg #[.slice none 0 0, .slice none 0 0, .int .i64 0, .int .i64 0, .int .i64 0, .bool false, .string ⟨#[]⟩, .bool false]), 8, 104):=by kernel_rfl
theorem grow_106 (n:Nat)(w:World)(hn:n <= 1000000) :
    Calls Tryz.prog 106 #[.slice none 0 0, .int .i64 n] w fun e w'=>(∃ v,e = .returned v/\w'.ownsRow w.heap.size 27 8 v 0 [])/\Below w.heap.size w w':=by
  rcases Nat.eq_zero_or_pos n with rfl | hp
  . refine (Any8.slices_Grow_room Tryz.laysG106 none 0 0 0 w (by omega) (by omega) (by omega) (by omega)).mono ?_
    rintro e w' ⟨rfl,rfl⟩;exact ⟨⟨_,rfl,World.ownsRow_nil _ _ _ _⟩,Below.refl _ _⟩
  . obtain ⟨i,hi,hz,hs,hy⟩:=x6T v5Q;refine (Any8.slices_Grow_grow Tryz.laysG106 i _ hi hz (by omega) none 0 0 n [] w (by omega) (by omega) (by rw [hy];omega) (by omega) (by simp) (fun _=>rfl) (fun a ha=>by cases ha)).mono ?_
    rintro e w' ⟨rfl,rfl⟩;have hc:=grownCap_ge w (0+n) 0 27;have hm:=grownCap_le_maxLen w (0+n) 0 27 (by unfold maxLen;omega)
    refine ⟨⟨_,rfl,by simp, .inr ⟨_,_,_,rfl,Nat.le_refl _,blk_alloc_new _ _,Nat.zero_le _,hm, ?_,by simp⟩⟩,(Below.refl _ w).drew.alloc (Nat.le_refl _) _⟩
    simp only [Array.size_append,List.size_toArray,size_zeroCells,List.length_nil,Value.cells];show 0+(0+n-0)*8+(grownCap w (0+n) 0 27-(0+n))*8=grownCap w (0+n) 0 27*8;omega
def Tryz.laysG105_ren:Go.Shelf.Ren:=⟨fun | 4=> 105 | n=>n,fun | 22=> 48 | 25=> 54 | n=>n,fun | n=>n⟩
theorem Tryz.laysG105:Go.Proofs.Lays8.n4 Tryz.prog Tryz.laysG105_ren:= {
  mixed:=by kernel_rfl
  f4:=⟨Tryz.f105.name,by decide,Tryz.func105.trans (congrArg some (by kernel_rfl))⟩
  t0:=Tryz.underlying0
  a0:=Tryz.isAgg0
  z0:=Tryz.sizeOf0
  v0:=Tryz.zeroValue0
  t3:=Tryz.underlying3
  a3:=Tryz.isAgg3
  z3:=Tryz.sizeOf3
  v3:=Tryz.zeroValue3
  t4:=Tryz.underlying4
  a4:=Tryz.isAgg4
  z4:=Tryz.sizeOf4
  v4:=Tryz.zeroValue4
  t9:=Tryz.underlying9
  a9:=Tryz.isAgg9
  z9:=Tryz.sizeOf9
  v9:=Tryz.zeroValue9
  t20:=Tryz.underlying20
  a20:=Tryz.isAgg20
  z20:=Tryz.sizeOf20
  v20:=Tryz.zeroValue20
  t22:=Tryz.underlying48
  a22:=Tryz.isAgg48
  z22:=Tryz.sizeOf48
  v22:=Tryz.zeroValue48 }
theorem v5P:(Tryz.prog.info? 54).map (fun i=>(i.zero,i.size,i.bytes))=some (some (.agg #[.int .i64 0, .int .i64 0, .int .i64 0]), 3, 24):=by kernel_rfl
theorem grow_105 (n:Nat)(w:World)(hn:n <= 1000000) :
    Calls Tryz.prog 105 #[.slice none 0 0, .int .i64 n] w fun e w'=>(∃ v,e = .returned v/\w'.ownsRow w.heap.size 54 3 v 0 [])/\Below w.heap.size w w':=by
  rcases Nat.eq_zero_or_pos n with rfl | hp
  . refine (Any8.slices_Grow_room Tryz.laysG105 none 0 0 0 w (by omega) (by omega) (by omega) (by omega)).mono ?_
    rintro e w' ⟨rfl,rfl⟩;exact ⟨⟨_,rfl,World.ownsRow_nil _ _ _ _⟩,Below.refl _ _⟩
  . obtain ⟨i,hi,hz,hs,hy⟩:=x6T v5P;refine (Any8.slices_Grow_grow Tryz.laysG105 i _ hi hz (by omega) none 0 0 n [] w (by omega) (by omega) (by rw [hy];omega) (by omega) (by simp) (fun _=>rfl) (fun a ha=>by cases ha)).mono ?_
    rintro e w' ⟨rfl,rfl⟩;have hc:=grownCap_ge w (0+n) 0 54;have hm:=grownCap_le_maxLen w (0+n) 0 54 (by unfold maxLen;omega)
    refine ⟨⟨_,rfl,by simp, .inr ⟨_,_,_,rfl,Nat.le_refl _,blk_alloc_new _ _,Nat.zero_le _,hm, ?_,by simp⟩⟩,(Below.refl _ w).drew.alloc (Nat.le_refl _) _⟩
    simp only [Array.size_append,List.size_toArray,size_zeroCells,List.length_nil,Value.cells];show 0+(0+n-0)*3+(grownCap w (0+n) 0 54-(0+n))*3=grownCap w (0+n) 0 54*3;omega
end Go.Proofs
namespace Go.Proofs
open Go.RowKit Go.Yec Go.Shp Go.Deep
def SrcS (w:World)(a:Option Addr)(n c sz:Nat)(xs:List Value):Prop:=(a=none->n=0/\c=0)/\xs.length=n*sz/\(∀ ad,a=some ad->∀ j u,xs[j]? = some u->w.cell? (ad.add j)=some u)/\∀ u∈xs,u.oneCell'=true
theorem SrcS.below {w w':World}{a:Option Addr}{n c sz:Nat}{xs:List Value}(h:SrcS w a n c sz xs)(hb:Below w.heap.size w w'):SrcS w' a n c sz xs :=
  ⟨h.1,h.2.1,fun ad ha j u hj=>by
    have:=h.2.2.1 ad ha j u hj
    exact (hb.cell (World.block_lt_of_cell? _ _ this)).trans this,h.2.2.2⟩
set_option maxHeartbeats 4000000 in
theorem concat_41 (w:World)(b o cap:Nat)(a1 a2:Option Addr)(n1 n2 c1 c2:Nat)(xs1 xs2:List Value)(h0:w.cell? ⟨b,o,none⟩=some (.slice a1 n1 c1))(h1:w.cell? ⟨b,o+1,none⟩=some (.slice a2 n2 c2))(aK:SrcS w a1 n1 c1 8 xs1)(aW:SrcS w a2 n2 c2 8 xs2)(hn:n1+n2 <= 1000000) :
    Calls Tryz.prog 41 #[.slice (some ⟨b,o,none⟩) 2 cap] w fun e w'=>(∃ v,e = .returned v/\w'.ownsRow w.heap.size 27 8 v (n1+n2) (xs1++xs2))/\Below w.heap.size w w':=by
  have aM:=World.block_lt_of_cell? _ _ h0;have aZ:∀ w',Below w.heap.size w w'->w'.cell? ⟨b,o,none⟩=some (.slice a1 n1 c1)/\w'.cell? ⟨b,o+1,none⟩=some (.slice a2 n2 c2):=fun w' hb=>⟨(hb.cell (p:=⟨b,o,none⟩) aM).trans h0,(hb.cell (p:=⟨b,o+1,none⟩) aM).trans h1⟩;have dd:=fun w' hb=>aK.below (w':=w') hb;have dT:=fun w' hb=>aW.below (w':=w') hb;obtain ⟨i1,cy,ce,cg,bW⟩:=x6T v5Q;clear aK aW;go_enter Tryz.func41,Tryz.ntmps41;go_wp2
  go_loopw [3, 11] (fun v3 v11 wr=> ∃ x s:Int,v3 = .int .i64 s/\v11 = .int .i64 x/\wr=w/\((x=0/\s=0)\/(x=1/\s=n1)\/(x=2/\s=n1+n2))) (fun _ vx _=>(2-intOf vx).toNat)
  case atStart=>exact ⟨0, 0,rfl,rfl,rfl, .inl ⟨rfl,rfl⟩⟩
  case round =>
    obtain ⟨x,s,rfl,rfl,hw,h | h | h⟩:=hrel
    . obtain ⟨rfl,rfl⟩:=h;subst hw;clear aZ dd dT;go_wp2
      go_roundw
      case rel=>exact ⟨1,_,rfl,rfl,trivial, .inr (.inl ⟨rfl,rfl⟩)⟩
      case measure=>simp [intOf]
    . obtain ⟨rfl,rfl⟩:=h;subst hw;clear aZ dd dT;go_wp2
      go_roundw
      case rel=>exact ⟨2,_,rfl,rfl,trivial, .inr (.inr ⟨rfl,rfl⟩)⟩
      case measure=>simp [intOf]
    . obtain ⟨rfl,hs⟩:=h;subst hw;obtain ⟨W0,sE⟩:∃ W0,W0=wr:=⟨_,rfl⟩;subst sE;have hg:=grow_106 (n1+n2) W0 hn;rw [Int.natCast_add] at hg;clear h0 h1
      go_wp2_with (go_at_call 106;fail)
      refine hg.mono ?_;rintro e w2 ⟨⟨v,rfl,hv⟩,hb⟩;clear hg;go_wp2
      go_loopw [6, 27] (fun v6 v27 wx=> ∃ (x:Int) (ov:Value) (m:Nat) (xs:List Value),v6=ov/\v27 = .int .i64 x/\wx.ownsRow W0.heap.size 27 8 ov m xs/\Below W0.heap.size W0 wx/\Hid ((x=0/\m=0/\xs=[])\/(x=1/\m=n1/\xs=xs1)\/(x=2/\m=n1+n2/\xs=xs1++xs2))) (fun _ vx _=>(2-intOf vx).toNat)
      case atStart=>exact ⟨0,v, 0,[],rfl,rfl,hv,hb,(show Hid _ from .inl ⟨rfl,rfl,rfl⟩)⟩
      case round =>
        clear hv hb;obtain ⟨x,ov,m,xs,qw,rfl,ho,aD,hc⟩:=hrel;obtain rfl:=qw.symm;have bD:=aD.size;rcases hc.out with ⟨rfl,rfl,rfl⟩ | ⟨rfl,rfl,rfl⟩ | ⟨rfl,rfl,rfl⟩
        . obtain ⟨d0,d1⟩:=aZ _ aD;obtain ⟨q1,q2,q3,q4⟩:=dd _ aD;clear aZ dd dT hc
          go_upto_region 14 with (at_builtin;refine x5J _ rfl _ _ 22 rfl W0.heap.size 27 i1 (.agg #[.slice none 0 0, .slice none 0 0, .int .i64 0, .int .i64 0, .int .i64 0, .bool false, .string ⟨#[]⟩, .bool false]) 8 104 Tryz.underlying22 cy ce cg bW rfl (by decide) _ 0 [] rfl ho a1 n1 c1 xs1 rfl q1 q2 q3 q4 (by unfold maxLen;omega) (by omega) bD ?_;intro v' w6 bJ aw kD)
          go_wp2
          go_roundw
          case rel=>exact ⟨1,_,n1,xs1,rfl,rfl,by simpa using bJ,x2H ho (Nat.le_refl _) aD bD aw,(show Hid _ from .inr (.inl ⟨rfl,rfl,rfl⟩))⟩
          case measure=>simp [intOf]
        . obtain ⟨d0,d1⟩:=aZ _ aD;obtain ⟨q1,q2,q3,q4⟩:=dT _ aD;clear aZ dd dT hc
          go_upto_region 14 with (at_builtin;refine x5J _ rfl _ _ 22 rfl W0.heap.size 27 i1 (.agg #[.slice none 0 0, .slice none 0 0, .int .i64 0, .int .i64 0, .int .i64 0, .bool false, .string ⟨#[]⟩, .bool false]) 8 104 Tryz.underlying22 cy ce cg bW rfl (by decide) _ _ _ rfl ho a2 n2 c2 xs2 rfl q1 q2 q3 q4 (by unfold maxLen;omega) (by omega) bD ?_;intro v' w6 bJ aw kD)
          go_wp2
          go_roundw
          case rel=>exact ⟨2,_,_,_,rfl,rfl,bJ,x2H ho (Nat.le_refl _) aD bD aw,(show Hid _ from .inr (.inr ⟨rfl,rfl,rfl⟩))⟩
          case measure=>simp [intOf]
        . clear aZ dd dT hc;go_wp2;go_ret;exact ⟨⟨_,rfl,ho⟩,aD⟩
set_option maxHeartbeats 4000000 in
theorem concat_38 (w:World)(b o cap:Nat)(a1 a2:Option Addr)(n1 n2 c1 c2:Nat)(xs1 xs2:List Value)(h0:w.cell? ⟨b,o,none⟩=some (.slice a1 n1 c1))(h1:w.cell? ⟨b,o+1,none⟩=some (.slice a2 n2 c2))(aK:SrcS w a1 n1 c1 3 xs1)(aW:SrcS w a2 n2 c2 3 xs2)(hn:n1+n2 <= 1000000) :
    Calls Tryz.prog 38 #[.slice (some ⟨b,o,none⟩) 2 cap] w fun e w'=>(∃ v,e = .returned v/\w'.ownsRow w.heap.size 54 3 v (n1+n2) (xs1++xs2))/\Below w.heap.size w w':=by
  have aM:=World.block_lt_of_cell? _ _ h0;have aZ:∀ w',Below w.heap.size w w'->w'.cell? ⟨b,o,none⟩=some (.slice a1 n1 c1)/\w'.cell? ⟨b,o+1,none⟩=some (.slice a2 n2 c2):=fun w' hb=>⟨(hb.cell (p:=⟨b,o,none⟩) aM).trans h0,(hb.cell (p:=⟨b,o+1,none⟩) aM).trans h1⟩;have dd:=fun w' hb=>aK.below (w':=w') hb;have dT:=fun w' hb=>aW.below (w':=w') hb;obtain ⟨i1,cy,ce,cg,bW⟩:=x6T v5P;clear aK aW;go_enter Tryz.func38,Tryz.ntmps38;go_wp2
  go_loopw [3, 11] (fun v3 v11 wr=> ∃ x s:Int,v3 = .int .i64 s/\v11 = .int .i64 x/\wr=w/\((x=0/\s=0)\/(x=1/\s=n1)\/(x=2/\s=n1+n2))) (fun _ vx _=>(2-intOf vx).toNat)
  case atStart=>exact ⟨0, 0,rfl,rfl,rfl, .inl ⟨rfl,rfl⟩⟩
  case round =>
    obtain ⟨x,s,rfl,rfl,hw,h | h | h⟩:=hrel
    . obtain ⟨rfl,rfl⟩:=h;subst hw;clear aZ dd dT;go_wp2
      go_roundw
      case rel=>exact ⟨1,_,rfl,rfl,trivial, .inr (.inl ⟨rfl,rfl⟩)⟩
      case measure=>simp [intOf]
    . obtain ⟨rfl,rfl⟩:=h;subst hw;clear aZ dd dT;go_wp2
      go_roundw
      case rel=>exact ⟨2,_,rfl,rfl,trivial, .inr (.inr ⟨rfl,rfl⟩)⟩
      case measure=>simp [intOf]
    . obtain ⟨rfl,hs⟩:=h;subst hw;obtain ⟨W0,sE⟩:∃ W0,W0=wr:=⟨_,rfl⟩;subst sE;have hg:=grow_105 (n1+n2) W0 hn;rw [Int.natCast_add] at hg;clear h0 h1
      go_wp2_with (go_at_call 105;fail)
      refine hg.mono ?_;rintro e w2 ⟨⟨v,rfl,hv⟩,hb⟩;clear hg;go_wp2
      go_loopw [6, 27] (fun v6 v27 wx=> ∃ (x:Int) (ov:Value) (m:Nat) (xs:List Value),v6=ov/\v27 = .int .i64 x/\wx.ownsRow W0.heap.size 54 3 ov m xs/\Below W0.heap.size W0 wx/\Hid ((x=0/\m=0/\xs=[])\/(x=1/\m=n1/\xs=xs1)\/(x=2/\m=n1+n2/\xs=xs1++xs2))) (fun _ vx _=>(2-intOf vx).toNat)
      case atStart=>exact ⟨0,v, 0,[],rfl,rfl,hv,hb,(show Hid _ from .inl ⟨rfl,rfl,rfl⟩)⟩
      case round =>
        clear hv hb;obtain ⟨x,ov,m,xs,qw,rfl,ho,aD,hc⟩:=hrel;obtain rfl:=qw.symm;have bD:=aD.size;rcases hc.out with ⟨rfl,rfl,rfl⟩ | ⟨rfl,rfl,rfl⟩ | ⟨rfl,rfl,rfl⟩
        . obtain ⟨d0,d1⟩:=aZ _ aD;obtain ⟨q1,q2,q3,q4⟩:=dd _ aD;clear aZ dd dT hc
          go_upto_region 14 with (at_builtin;refine x5J _ rfl _ _ 48 rfl W0.heap.size 54 i1 (.agg #[.int .i64 0, .int .i64 0, .int .i64 0]) 3 24 Tryz.underlying48 cy ce cg bW rfl (by decide) _ 0 [] rfl ho a1 n1 c1 xs1 rfl q1 q2 q3 q4 (by unfold maxLen;omega) (by omega) bD ?_;intro v' w6 bJ aw kD)
          go_wp2
          go_roundw
          case rel=>exact ⟨1,_,n1,xs1,rfl,rfl,by simpa using bJ,x2H ho (Nat.le_refl _) aD bD aw,(show Hid _ from .inr (.inl ⟨rfl,rfl,rfl⟩))⟩
          case measure=>simp [intOf]
        . obtain ⟨d0,d1⟩:=aZ _ aD;obtain ⟨q1,q2,q3,q4⟩:=dT _ aD;clear aZ dd dT hc
          go_upto_region 14 with (at_builtin;refine x5J _ rfl _ _ 48 rfl W0.heap.size 54 i1 (.agg #[.int .i64 0, .int .i64 0, .int .i64 0]) 3 24 Tryz.underlying48 cy ce cg bW rfl (by decide) _ _ _ rfl ho a2 n2 c2 xs2 rfl q1 q2 q3 q4 (by unfold maxLen;omega) (by omega) bD ?_;intro v' w6 bJ aw kD)
          go_wp2
          go_roundw
          case rel=>exact ⟨2,_,_,_,rfl,rfl,bJ,x2H ho (Nat.le_refl _) aD bD aw,(show Hid _ from .inr (.inr ⟨rfl,rfl,rfl⟩))⟩
          case measure=>simp [intOf]
        . clear aZ dd dT hc;go_wp2;go_ret;exact ⟨⟨_,rfl,ho⟩,aD⟩
open Go.Xec (Glob)
theorem PlS.zero (S:Nat->Prop)(w:World):PlS S w (plV (.slice none 0 0) (.slice none 0 0) 0 0 ty00) pl00 :=
  ⟨_,_,rfl,⟨none, 0,rfl,⟨fun _=>rfl,Nat.le_refl _⟩,fun h=>absurd rfl h,fun _ _ h=>by cases h⟩,StepsS.nil S w⟩
theorem PlS.parts {S:Nat->Prop}{w:World}{x:Value}{p:Pl}(h:PlS S w x p):∃ a c a' c',x=plV (.slice a p.path.length c) (.slice a' p.st.length c') p.off p.b p.t/\x3J S w (.slice a p.path.length c) p.path/\StepsS S w (.slice a' p.st.length c') p.st:=by
  obtain ⟨pv,sv,rfl,h1,h2⟩:=h;obtain ⟨a,c,rfl, -⟩:=id h1;obtain ⟨a',c',rfl⟩:=h2.form;exact ⟨a,c,a',c',rfl,h1,h2⟩
set_option maxHeartbeats 8000000 in
theorem ownFind_any (s:Sh)(W w:World)(dv pv qv:Value)(path:List Int)(hG:Glob W)(hs:ShAt W dv pv s)(hB:Below W.heap.size W w)(aC:okS s)(dW:scnt s <= 100)(hP:IntsAt w qv path)(hL:path.length <= 200) :
    Calls Tryz.prog 36 #[shV dv pv s.t s.g,qv] w fun e w'=>(∃ x,e = .returned (.tuple #[x, .int .i64 (fndR s path).2])/\PlS (fun b=>w.heap.size <= b/\b<w'.heap.size) w' x (fndR s path).1)/\Below w.heap.size w w':=by
  have hn:=fun w hB=>y5N s W w dv pv hG hs hB aC dW;obtain ⟨a1,c1,a2,c2,rfl,rfl⟩:=hs.slices;obtain ⟨qa,qc,rfl⟩:=hP.form;obtain ⟨FR,jC⟩:∃ FR,fndR s path=FR:=⟨_,rfl⟩;rw [jC];have ph:Hid (fndR s path=FR):=jC;clear jC;go_enter Tryz.func36,Tryz.ntmps36
  go_wp2_with (go_at_call 97;fail)
  generalize bx:(w.alloc (.cells #[.slice a1 s.D.length c1, .slice a2 s.P.length c2, .int .i64 s.t.k, .int .i64 s.t.p, .int .i64 s.t.q, .bool s.t.v, .string s.t.pic, .bool s.g] 27)).alloc (.cells #[.slice none 0 0, .int .i64 0, .slice none 0 0, .int .i64 0, .int .i64 0, .int .i64 0, .int .i64 0, .bool false, .string ⟨#[]⟩] 50)=w1;have au:Below w.heap.size w w1:=by
    rw [<- bx];exact ((Below.refl _ w).alloc (Nat.le_refl _) _).alloc (by simp) _
  have bX:NB w1 (w.heap.size+1) (plC (.slice none 0 0) (.slice none 0 0) 0 0 ty00) 50:=by
    rw [<- bx]
    have:=NB.here (w.alloc (.cells #[.slice a1 s.D.length c1, .slice a2 s.P.length c2, .int .i64 s.t.k, .int .i64 s.t.p, .int .i64 s.t.q, .bool s.t.v, .string s.t.pic, .bool s.g] 27)) (plC (.slice none 0 0) (.slice none 0 0) 0 0 ty00) 50
    simp only [World.size_alloc] at this;exact this
  clear bx;refine (hn _ (hB.trans (au.mono hB.size))).mono ?_;rintro e w2 ⟨cf,hb⟩;have bv:=bX.below hb;have aB:=au.trans (hb.mono au.size);have qd:=hP.below aB;have dY:=aB.size;have jn:=bv.lt;clear hb hn bX;have key:(∃ er,e = .returned (.tuple #[.pointer none, .int .i64 er])/\er≠0/\FR=(pl00,er))\/(∃ B n,e = .returned (.tuple #[.pointer (some ⟨B, 0,none⟩), .int .i64 0])/\x1T (fun b=>b<w2.heap.size) w2 B s n/\mpS s=some n/\valS s 0 1=true/\FR=(match fnd path s n n.u.s (stpN s n) with | some (s',n',off,st)=>(plc s' n' path off st, 0) | none=>(pl00, 91))):=by
    have h1:=ph.out;unfold WhOk at cf;unfold fndR at h1;cases hv:valS s 0 1
    . rw [hv,if_neg (by simp)] at cf
      rw [hv] at h1;exact .inl ⟨_,cf,by decide,h1.symm⟩
    . rw [hv,if_pos rfl] at cf;rw [hv] at h1;cases hm:mpS s with
      | none =>
        rw [hm] at cf h1;exact .inl ⟨_,cf,by decide,h1.symm⟩
      | some n =>
        rw [hm] at cf h1;obtain ⟨B,h,u0,u1,u2,bM⟩:=cf;exact .inr ⟨B,n,h,bM,rfl,rfl,h1.symm⟩
  clear cf ph;obtain ⟨z0,z1,z2,z3,z4,z5,z6,z7,z8,zf⟩:=x3V bv;rcases key with ⟨er,rfl,ui,rfl⟩ | ⟨B,n,rfl,hN,hm,hv,jC⟩
  . go_wp2;refine bodyPost_ret (v:= .tuple #[plV (.slice none 0 0) (.slice none 0 0) 0 0 ty00, .int .i64 er]) (by rw [results_cell_tmp rfl];go_simp;exact ⟨rfl,rfl,rfl,rfl,rfl⟩) rfl ⟨⟨_,rfl,PlS.zero _ _⟩,x2J aB (by omega)⟩
  . have oJ:=find_any s n B w2 w2 (.slice qa path.length qc) path hN hm hv aC (Below.refl _ _) qd hL;generalize fnd path s n n.u.s (stpN s n)=F at oJ jC;clear hN hm hv
    go_wp2_with (go_at_call 104;fail)
    refine oJ.mono ?_;rintro e w3 ⟨ug,hb⟩;have cD:=bv.below hb;have b9:=aB.trans (hb.mono aB.size);have kJ:=hb.size;have we:w.heap.size+1<w3.heap.size:=cD.lt;have rp:¬ w.heap.size+1=w3.heap.size:=by omega
    have rm:¬ w3.heap.size=w.heap.size+1:=by omega
    clear hb oJ z0 z1 z2 z3 z4 z5 z6 z7 z8 zf;have gl:=cD.alloc (.cells (plC (.slice none 0 0) (.slice none 0 0) 0 0 ty00) 50);obtain ⟨z0,z1,z2,z3,z4,z5,z6,z7,z8,zf⟩:=x3V cD;cases F with
    | none =>
      obtain rfl:=ug;subst jC;go_wp2;refine bodyPost_ret (v:= .tuple #[plV (.slice none 0 0) (.slice none 0 0) 0 0 ty00, .int .i64 91]) (by rw [results_cell_tmp rfl];go_simp;exact ⟨rfl,rfl,rfl,rfl,rfl⟩) rfl ⟨⟨_,rfl,PlS.zero _ _⟩,(x2J b9 (by omega)).alloc (x2J b9 (by omega)).size _⟩
    | some R =>
      obtain ⟨s',n',off,st⟩:=R;obtain ⟨x,rfl,hx⟩:=ug;simp only at jC;obtain ⟨p,hp⟩:∃ p,plc s' n' path off st=p:=⟨_,rfl⟩;rw [hp] at hx jC;subst jC;clear hp;obtain ⟨a,c,a',c',rfl,hi,aN⟩:=hx.parts;obtain ⟨pp,po,ps,pb,pt⟩:=p;simp only at hi aN;clear hx;go_wp2;refine bodyPost_ret (v:= .tuple #[plV (.slice a pp.length c) (.slice a' ps.length c') po pb pt, .int .i64 0]) (by rw [results_cell_tmp rfl];go_simp) rfl ⟨⟨_,rfl, ?_⟩,(x2J b9 (by omega)).alloc (x2J b9 (by omega)).size _⟩
      have t8:=x8U (B:=w.heap.size+1) (y0:= .slice a pp.length c) (y1:= .int .i64 po) (y2:= .slice a' ps.length c') (y3:= .int .i64 pb) (y4:= .int .i64 pt.k) (y5:= .int .i64 pt.p) (y6:= .int .i64 pt.q) (y7:= .bool pt.v) (y8:= .string pt.pic) (KeepS.refl (fun b=>w2.heap.size <= b/\b<w3.heap.size) w3) (fun h=>by omega)
      have ly:=t8.alloc (fun b h=>Nat.lt_of_lt_of_le h.2 t8.1) (.cells #[.slice a pp.length c, .int .i64 po, .slice a' ps.length c', .int .i64 pb, .int .i64 pt.k, .int .i64 pt.p, .int .i64 pt.q, .bool pt.v, .string pt.pic] 50);have h9:=ly.1;exact ⟨_,_,rfl,x0P (fun b h=>by omega) ly hi,x0R (fun b h=>by omega) ly aN⟩
end Go.Proofs
namespace Go.Proofs
open Go.RowKit Go.Yec Go.Shp Go.Deep
end Go.Proofs
