/-
  steps of a node of the layout, walked.;place of a node of the layout, walked.;RANGES OVER FUNCTIONS, where no round leaves the loop: what an iterator keeps of its caller's memory, what a round keeps of the iterator's.;A list of places in memory.
-/
import Derived.Test.YtadehgdfijjikaaGreatDoorS6
import Derived.Test.YtadehgdfijjikaaGreatDoorZ5
import Derived.RangeFuncRecord
import Derived.RangeFuncSeq
import Derived.RangeFuncNested
import Derived.Below
set_option linter.all false
set_option maxRecDepth 100000
namespace Go.Proofs
open Go.RowKit Go.Yec Go.Shp Go.Deep
open Go.Xec (Glob)
def stC3 (x:Stp):List Value:=[.int .i64 x.1, .int .i64 x.2.1, .int .i64 x.2.2]
theorem u4C (L:List Stp):(L.flatMap stC3).length=L.length*3:=by
  induction L with
  | nil=>rfl
  | cons x L ih=>simp [stC3,ih];omega
theorem u4D:∀ (L:List Stp) (i:Nat) (x:Stp),L[i]? = some x->(L.flatMap stC3)[i*3]? = some (.int .i64 x.1)/\(L.flatMap stC3)[i*3+1]? = some (.int .i64 x.2.1)/\(L.flatMap stC3)[i*3+2]? = some (.int .i64 x.2.2)
  | [],i,x,h=>by simp at h
  | y::L, 0,x,h=>by
    simp at h;subst h;simp [stC3]
  | y::L,i+1,x,h=>by
    have:=u4D L i x (by simpa using h)
    rw [List.flatMap_cons,show (i+1)*3=3+i*3 by omega,List.getElem?_append_right (by simp [stC3]),List.getElem?_append_right (by simp [stC3];omega),List.getElem?_append_right (by simp [stC3];omega)]
    simp only [stC3,List.length_cons,List.length_nil];rw [show 3+i*3-(0+1+1+1)=i*3 by omega,show 3+i*3+1-(0+1+1+1)=i*3+1 by omega,show 3+i*3+2-(0+1+1+1)=i*3+2 by omega]
    exact this
theorem stC3_one (L:List Stp):∀ u∈L.flatMap stC3,u.oneCell'=true:=by
  intro u hu;obtain ⟨x, -, hx⟩:=List.mem_flatMap.1 hu;simp [stC3] at hx;rcases hx with rfl | rfl | rfl <;> rfl
theorem z1V (b o j:Nat):(⟨b,o,none⟩:Addr).add j=⟨b,o+j,none⟩:=by
  unfold Addr.add;split <;> simp_all
def StepsS (S:Nat->Prop)(w:World)(v:Value)(L:List Stp):Prop :=
  ∃ a cap,v = .slice a L.length cap/\((a=none->cap=0)/\L.length <= cap)/\(L≠[]->∃ b o,a=some ⟨b,o,none⟩/\S b)/\∀ b o,a=some ⟨b,o,none⟩->∀ j u,(L.flatMap stC3)[j]? = some u->w.cell? ⟨b,o+j,none⟩=some u
abbrev x9C (w:World)(v:Value)(L:List Stp):Prop:=StepsS (fun b=>b<w.heap.size) w v L
theorem StepsS.nil (S:Nat->Prop)(w:World):StepsS S w (.slice none 0 0) []:=⟨none, 0,rfl,⟨fun _=>rfl,Nat.le_refl _⟩,fun h=>absurd rfl h,fun _ _ h=>by cases h⟩
theorem x0R {S S':Nat->Prop}{w w':World}(hS:∀ b,S b->S' b)(hk:KeepS S w w'){v:Value}{L:List Stp}(h:StepsS S w v L):StepsS S' w' v L:=by
  obtain ⟨a,cap,hv,hn,h0,hc⟩:=h;refine ⟨a,cap,hv,hn,fun ac=>?_,fun b o ha j u hj=>?_⟩
  . obtain ⟨b,o,ha,aM⟩:=h0 ac;exact ⟨b,o,ha,hS b aM⟩
  . obtain ⟨b',o',bw,aM⟩:=h0 (by intro hn;subst hn;simp at hj)
    rw [ha] at bw;cases bw;rw [hk.cell aM];exact hc b o ha j u hj
theorem StepsS.below {w w':World}{v:Value}{L:List Stp}(h:x9C w v L)(hb:Below w.heap.size w w'):x9C w' v L:=x0R (fun _ h=>Nat.lt_of_lt_of_le h hb.size) (KeepS.below hb fun _ h=>h) h
theorem StepsS.news {S:Nat->Prop}{w:World}{v:Value}{L:List Stp}(h:StepsS S w v L):∃ ao cap,v = .slice ao L.length cap/\(ao=none->L.length=0/\cap=0)/\∀ ad,ao=some ad->∀ j u,(L.flatMap stC3)[j]? = some u->w.cell? (ad.add j)=some u:=by
  obtain ⟨a,cap,hv,hn,h0,hc⟩:=h;refine ⟨a,cap,hv,fun ha=>⟨?_,hn.1 ha⟩,fun ad ha j u hj=>?_⟩
  . cases L with
    | nil=>rfl
    | cons x L =>
      obtain ⟨b,o,bw, -⟩:=h0 (by simp)
      rw [ha] at bw;cases bw
  . obtain ⟨b',o',bw,aM⟩:=h0 (by intro hn;subst hn;simp at hj)
    rw [ha] at bw;cases bw;rw [z1V];exact hc b' o' ha j u hj
theorem v1U {S:Nat->Prop}{w:World}{base n:Nat}{v:Value}{L:List Stp}(h:w.ownsRow base 54 3 v n (L.flatMap stC3))(hn:n=L.length)(hS:∀ b,base <= b->b<w.heap.size->S b):StepsS S w v L:=by
  subst hn;rcases h.2 with ⟨rfl,h0⟩ | ⟨g,cap,cur,rfl,hb,hg,aV, -⟩
  . have:L=[]:=List.eq_nil_of_length_eq_zero h0;subst this;exact StepsS.nil S w
  . refine ⟨_,cap,rfl,⟨fun h=>(by cases h),aV⟩,fun _=>⟨g, 0,rfl,hS g hb (Array.getElem?_eq_some_iff.1 hg).1⟩,fun b o ha j u hj=>?_⟩
    cases ha;have ai:=(List.getElem?_eq_some_iff.1 hj).1;rw [u4C] at ai;rw [Nat.zero_add,h.cellAt j ai];exact hj
theorem StepsS.form {S:Nat->Prop}{w:World}{v:Value}{L:List Stp}(h:StepsS S w v L):∃ a cap,v = .slice a L.length cap:=by
  obtain ⟨a,cap,hv, -⟩:=h;exact ⟨a,cap,hv⟩
theorem StepsS.at {S:Nat->Prop}{w:World}{v:Value}{L:List Stp}(h:StepsS S w v L){i:Nat}(hi:i<L.length):∃ b o cap x,v = .slice (some ⟨b,o,none⟩) L.length cap/\S b/\L[i]? = some x/\w.cell? ⟨b,o+i*3,none⟩=some (.int .i64 x.1)/\w.cell? ⟨b,o+i*3+1,none⟩=some (.int .i64 x.2.1)/\w.cell? ⟨b,o+i*3+2,none⟩=some (.int .i64 x.2.2):=by
  obtain ⟨a,cap,hv, -, h0,hc⟩:=h;obtain ⟨b,o,ha,hb⟩:=h0 (by intro hn;subst hn;simp at hi)
  subst ha;obtain ⟨k0,k1,k2⟩:=u4D L i L[i] (List.getElem?_eq_getElem hi);exact ⟨b,o,cap,L[i],hv,hb,List.getElem?_eq_getElem hi,hc b o rfl _ _ k0,hc b o rfl _ _ k1,hc b o rfl _ _ k2⟩
theorem info54:(Tryz.prog.info? 54).map (fun i=>(i.zero,i.size,i.bytes))=some (some (.agg #[.int .i64 0, .int .i64 0, .int .i64 0]), 3, 24):=by kernel_rfl
theorem y9W (w:World)(a b c:Value)(t:Nat):∀ j u,[a,b,c][j]? = some u->(w.alloc (.cells #[a,b,c] t)).cell? ((⟨w.heap.size, 0,none⟩:Addr).add j)=some u:=by
  intro j u hu
  match j,hu with
  | 0,hu=>simp at hu;subst hu;simp [Addr.add]
  | 1,hu=>simp at hu;subst hu;simp [Addr.add]
  | 2,hu=>simp at hu;subst hu;simp [Addr.add]
theorem z3Z {w:World}{a b c:Value}{t g:Nat}(hg:g=w.heap.size):∀ j u,[a,b,c][j]? = some u->(w.alloc (.cells #[a,b,c] t)).cell? ((⟨g, 0,none⟩:Addr).add j)=some u:=by
  subst hg;exact y9W w a b c t
theorem z3F {S:Nat->Prop}{w:World}{v:Value}{L:List Int}(h:x3J S w v L){i:Nat}(hi:i<L.length):∃ b o cap,v = .slice (some ⟨b,o,none⟩) L.length cap/\S b/\w.cell? ⟨b,o+i,none⟩=some (.int .i64 (L.getD i 0)):=by
  obtain ⟨a,cap,hv, -, h0,hc⟩:=h;obtain ⟨b,o,ha,hb⟩:=h0 (by intro hn;subst hn;simp at hi)
  subst ha;exact ⟨b,o,cap,hv,hb,hc b o rfl i hi⟩
theorem dmS_at {S:Nat->Prop}{w:World}{v:Value}{D:List (Int×Int)}(h:DmS S w v D){i:Nat}(hi:i<D.length):∃ b o cap,v = .slice (some ⟨b,o,none⟩) D.length cap/\S b/\w.cell? ⟨b,o+i*2,none⟩=some (.int .i64 (D.getD i (0, 0)).1)/\w.cell? ⟨b,o+i*2+1,none⟩=some (.int .i64 (D.getD i (0, 0)).2):=by
  obtain ⟨a,cap,hv,h0,hc⟩:=h;obtain ⟨b,o,ha,hb⟩:=h0 (by intro hn;subst hn;simp at hi)
  subst ha;obtain ⟨h1,h2⟩:=hc b o rfl i hi;exact ⟨b,o,cap,hv,hb,h1,h2⟩
theorem stpN_get {D:List (Int×Int)}{P:List Sh}{t:Ty}{g:Bool}{u e:Un}{st at':List Int}{ps:List Nd}(hl:st.length=D.length){i:Nat}(hi:i<D.length):(stpN (.node D P t g) (.mk u e st at' ps)).take (i+1)=(stpN (.node D P t g) (.mk u e st at' ps)).take i++[((D.getD i (0, 0)).1,(D.getD i (0, 0)).2,st.getD i 0)]:=by
  rw [List.take_add_one];congr 1;have h1:st[i]? = some st[i]:=List.getElem?_eq_getElem (by omega)
  have h2:D[i]? = some D[i]:=List.getElem?_eq_getElem hi;simp [stpN,Sh.D,Nd.st,List.getElem?_zipWith,h1,h2]
set_option maxHeartbeats 8000000 in
theorem y0T (s:Sh)(n:Nd)(B:Nat)(W w:World)(sv:Value)(L:List Stp)(hN:x1T (fun b=>b<W.heap.size) W B s n)(hm:mpS s=some n)(hB:Below W.heap.size W w)(hS:x9C w sv L)(hL:L.length <= 1000)(xX:s.D.length <= 100) :
    Calls Tryz.prog 151 #[.pointer (some ⟨B, 0,none⟩),sv] w fun e w'=>(∃ ov,e = .returned ov/\StepsS (fun b=>w.heap.size <= b/\b<w'.heap.size) w' ov (L++stpN s n))/\Below w.heap.size w w':=by
  have am:=(y6T hm).1;have dA:=x6D hm;obtain ⟨D,P,t,g⟩:=s;obtain ⟨u,e,st,at0,ps⟩:=n;simp only [Sh.D,Nd.st] at am xX dA;have hget:=fun {i} hi=>stpN_get (P:=P) (t:=t) (g:=g) (u:=u) (e:=e) (at':=at0) (ps:=ps) am (i:=i) hi;generalize hq:stpN (.node D P t g) (.mk u e st at0 ps)=Q at *;clear hm hq;unfold x1T at hN;obtain ⟨cW,dv,pv,stv,av,qv,hc,qj, -, aN, -, -⟩:=hN;obtain ⟨da,dcap,rfl, -⟩:=id qj;obtain ⟨sa,scap,rfl, -⟩:=id aN;obtain ⟨ao,acap,rfl,eR,aP⟩:=hS.news;have aZ:∀ w',Below W.heap.size W w'->w'.cell? ⟨B, 0,none⟩=some (.slice da D.length dcap)/\w'.cell? ⟨B, 14,none⟩=some (.slice sa st.length scap):=fun w' hb=>⟨(hb.cell (p:=⟨B, 0,none⟩) cW).trans (hc 0 (by omega)),(hb.cell (p:=⟨B, 14,none⟩) cW).trans (hc 14 (by omega))⟩
  obtain ⟨i1,cy,ce,aK,bW⟩:=x6T info54;have fa:=fun w' (hb:Below w.heap.size w w')=>((hS.below hb).news);obtain ⟨c0,c14⟩:=aZ w hB;have uV:∀ o,Below w.heap.size w (w.alloc o):=fun o=>(Below.refl _ w).alloc (Nat.le_refl _) o;have ig:∀ o ad,ao=some ad->∀ j u,(L.flatMap stC3)[j]? = some u->(w.alloc o).cell? (ad.add j)=some u:=fun o ad ha j u hj=>by
    obtain ⟨ao',cap',he, -, h2⟩:=fa _ (uV o);cases he;exact h2 ad ha j u hj
  have wi:(L.flatMap stC3).length=L.length*3:=u4C L;have aR:=stC3_one L;clear fa aP hc hS;go_enter Tryz.func151,Tryz.ntmps151
  go_upto_region 2 with (at_builtin;refine x5J _ rfl _ _ 48 rfl w.heap.size 54 i1 (.agg #[.int .i64 0, .int .i64 0, .int .i64 0]) 3 24 Tryz.underlying48 cy ce aK bW rfl (by decide) _ 0 [] rfl (World.ownsRow_lit w #[] 0 (Nat.le_refl _) (by decide) rfl) ao L.length acap (L.flatMap stC3) rfl eR wi (ig _) aR (by unfold maxLen;omega) (by omega) (by simp) ?_;intro v' w1 gu oD qt)
  simp only [Nat.zero_add,List.nil_append] at gu;have au:Below w.heap.size w w1:=x2H (k:=w.heap.size) (base:=w.heap.size) (sz:= 3) (World.ownsRow_lit w #[] 0 (Nat.le_refl _) (by decide) rfl) (Nat.le_refl _) (uV _) (by simp) oD
  obtain ⟨k0,k14⟩:=aZ w1 (hB.trans (au.mono hB.size));clear c0 c14 oD qt ig aR;go_wp2
  go_loopw [5, 17] (fun v5 v17 wr=> ∃ (x:Int) (ov:Value) (xs:List Value),v5=ov/\v17 = .int .i64 x/\0 <= x/\x <= D.length/\wr.ownsRow w.heap.size 54 3 ov (L.length+x.toNat) xs/\Hid (xs=(L++Q.take x.toNat).flatMap stC3)/\Below w.heap.size w wr) (fun _ vx _=>(D.length-intOf vx).toNat)
  case atStart=>exact ⟨0,v',_,rfl,rfl,by omega,by omega,by simpa using gu,(show Hid _ from by show L.flatMap stC3=_;simp),au⟩
  case round =>
    clear k0 k14 gu au;obtain ⟨x,ov,xs,vu,rfl,x0,x1,ho,fH,aD⟩:=hrel;obtain rfl:=vu.symm;have aL:Below W.heap.size W wr:=hB.trans (aD.mono hB.size);obtain ⟨k0,k14⟩:=aZ wr aL;have bD:=aD.size
    by_cases ai:x<(D.length:Int)
    . obtain ⟨b,o,cap,hv,aM,d0,d1⟩:=dmS_at (y7W (fun _ h=>h) (KeepS.below aL fun _ h=>h) qj) (i:=x.toNat) (by omega)
      obtain ⟨b2,o2,cap2,qx,lR,e0⟩:=z3F (x0P (fun _ h=>h) (KeepS.below aL fun _ h=>h) aN) (i:=x.toNat) (by omega)
      cases hv;cases qx;have iN:Hid (Q.take (x.toNat+1)=Q.take x.toNat++[((D.getD x.toNat (0, 0)).1,(D.getD x.toNat (0, 0)).2,st.getD x.toNat 0)]):=hget (by omega)
      generalize (D.getD x.toNat (0, 0)).1=lo at *;generalize (D.getD x.toNat (0, 0)).2=hi at *;generalize st.getD x.toNat 0=sd at *;have uG:=aL.size;have aG:B<wr.heap.size:=Nat.lt_of_lt_of_le cW uG;have xi:b2<wr.heap.size:=Nat.lt_of_lt_of_le lR uG;have dP:∀ o,Below wr.heap.size wr (wr.alloc o):=fun o=>(Below.refl _ wr).alloc (Nat.le_refl _) o;have l9:∀ o o',Below wr.heap.size wr ((wr.alloc o).drew.alloc o'):=fun o o'=>(dP o).drew.alloc (by show _ <= (wr.alloc o).heap.size;simp) o'
      clear qj aN aZ hget
      go_upto_region 5 with fail
      go_region_law (first | (refine y0U _ rfl (.tmp 22) (.tmp 35) 48 rfl w.heap.size 54 i1 (.agg #[.int .i64 0, .int .i64 0, .int .i64 0]) 3 24 Tryz.underlying48 cy ce aK bW rfl (by decide) ov (L.length+x.toNat) xs (by simp [Act.eval,Act.put]) (x2Z ho (l9 _ _)) ⟨wr.heap.size+1, 0,none⟩ 1 1 [.int .i64 lo, .int .i64 hi, .int .i64 sd] (by simp [Act.eval,Act.put]) rfl (fun j u hu=>z3Z (w:=(wr.alloc (.cells #[.int .i64 lo, .int .i64 hi] 78)).drew) (by show _=(wr.alloc (.cells #[.int .i64 lo, .int .i64 hi] 78)).heap.size;simp) j u hu) (fun x hx=>by simp at hx;rcases hx with rfl | rfl | rfl <;> rfl) (by unfold maxLen;omega) (by omega) (by simp;omega) ?_;intro v' w6 bJ aw ca))
      all_goals
        have aT:Below w.heap.size w w6:=x2H (x2Z ho (l9 _ _)) (Nat.le_refl _) (aD.trans ((l9 _ _).mono bD)) (by simp;omega) aw
        go_wp2
        go_roundw
        case rel=>exact ⟨_,_,_,rfl,rfl,by omega,by omega,by rw [show L.length+(x+1).toNat=L.length+x.toNat+1 by omega];exact bJ,(show Hid _ from by show _=_;rw [show (x+1).toNat=x.toNat+1 by omega,iN.out,fH.out];simp [stC3]),aT⟩
        case measure=>simp [intOf];omega
    . have dy:x=D.length:=by omega
      subst dy;have kz:=fH.out;rw [show ((D.length:Int)).toNat=D.length by omega,List.take_of_length_le (by omega)] at kz
      rw [show ((D.length:Int)).toNat=D.length by omega] at ho
      rw [kz] at ho;have jv:=v1U (S:=fun b=>w.heap.size <= b/\b<wr.heap.size) ho (by simp [dA]) (fun b h1 h2=>⟨h1,h2⟩)
      clear ho kz fH qj aN aZ;go_wp2;go_ret;exact ⟨⟨_,rfl,jv⟩,aD⟩
abbrev plC (pv sv:Value)(off b:Int)(t:Ty):Array Value:= #[pv, .int .i64 off,sv, .int .i64 b, .int .i64 t.k, .int .i64 t.p, .int .i64 t.q, .bool t.v, .string t.pic]
abbrev plV (pv sv:Value)(off b:Int)(t:Ty):Value:= .agg (plC pv sv off b t)
def PlS (S:Nat->Prop)(w:World)(x:Value)(p:Pl):Prop:= ∃ pv sv,x=plV pv sv p.off p.b p.t/\x3J S w pv p.path/\StepsS S w sv p.st
theorem v2T {S S':Nat->Prop}{w w':World}(hS:∀ b,S b->S' b)(hk:KeepS S w w'){x:Value}{p:Pl}(h:PlS S w x p):PlS S' w' x p:=by
  obtain ⟨pv,sv,hx,h1,h2⟩:=h;exact ⟨pv,sv,hx,x0P hS hk h1,x0R hS hk h2⟩
theorem IntsAt.news {w:World}{v:Value}{L:List Int}(h:IntsAt w v L):∃ ao cap,v = .slice ao L.length cap/\(ao=none->L.length=0/\cap=0)/\∀ ad,ao=some ad->∀ j u,(L.map fun y=>Value.int .i64 y)[j]? = some u->w.cell? (ad.add j)=some u:=by
  obtain ⟨a,cap,hv,hn,h0,hc⟩:=h;refine ⟨a,cap,hv,fun ha=>⟨?_,hn.1 ha⟩,fun ad ha j u hj=>?_⟩
  . cases L with
    | nil=>rfl
    | cons x L =>
      obtain ⟨b,o,bw, -⟩:=h0 (by simp)
      rw [ha] at bw;cases bw
  . obtain ⟨b',o',bw,aM⟩:=h0 (by intro hn;subst hn;simp at hj)
    rw [ha] at bw;cases bw;rw [z1V];have ai:=(List.getElem?_eq_some_iff.1 hj).1;simp at ai;rw [hc b' o' ha j ai];rw [<- hj];simp [ai]
theorem y6V (L:List Int):∀ u∈L.map fun y=>Value.int .i64 y,u.oneCell'=true:=by
  intro u hu;obtain ⟨x, -, rfl⟩:=List.mem_map.1 hu;rfl
section
variable {k B:Nat} {a w:World} {y0 y1 y2 y3 y4 y5 y6 y7 y8:Value}
theorem x2J (h:Below k a w)(hB:k <= B):Below k a (((((((((w.setCell ⟨B, 0,none⟩ y0).setCell ⟨B, 1,none⟩ y1).setCell ⟨B, 2,none⟩ y2).setCell ⟨B, 3,none⟩ y3).setCell ⟨B, 4,none⟩ y4).setCell ⟨B, 5,none⟩ y5).setCell ⟨B, 6,none⟩ y6).setCell ⟨B, 7,none⟩ y7).setCell ⟨B, 8,none⟩ y8) :=
  (((((((((h.setCell (p:=⟨B, 0,none⟩) hB _).setCell (p:=⟨B, 1,none⟩) hB _).setCell (p:=⟨B, 2,none⟩) hB _).setCell (p:=⟨B, 3,none⟩) hB _).setCell (p:=⟨B, 4,none⟩) hB _).setCell (p:=⟨B, 5,none⟩) hB _).setCell (p:=⟨B, 6,none⟩) hB _).setCell (p:=⟨B, 7,none⟩) hB _).setCell (p:=⟨B, 8,none⟩) hB _)
theorem v0N (h:Below k a w)(hB:k <= B):Below k a (((((w.setCell ⟨B, 4,none⟩ y0).setCell ⟨B, 5,none⟩ y1).setCell ⟨B, 6,none⟩ y2).setCell ⟨B, 7,none⟩ y3).setCell ⟨B, 8,none⟩ y4) :=
  ((((h.setCell (p:=⟨B, 4,none⟩) hB _).setCell (p:=⟨B, 5,none⟩) hB _).setCell (p:=⟨B, 6,none⟩) hB _).setCell (p:=⟨B, 7,none⟩) hB _).setCell (p:=⟨B, 8,none⟩) hB _
theorem x8U {S:Nat->Prop}(h:KeepS S a w)(hB:¬ S B):KeepS S a (((((((((w.setCell ⟨B, 0,none⟩ y0).setCell ⟨B, 1,none⟩ y1).setCell ⟨B, 2,none⟩ y2).setCell ⟨B, 3,none⟩ y3).setCell ⟨B, 4,none⟩ y4).setCell ⟨B, 5,none⟩ y5).setCell ⟨B, 6,none⟩ y6).setCell ⟨B, 7,none⟩ y7).setCell ⟨B, 8,none⟩ y8) :=
  (((((((((h.set (p:=⟨B, 0,none⟩) hB _).set (p:=⟨B, 1,none⟩) hB _).set (p:=⟨B, 2,none⟩) hB _).set (p:=⟨B, 3,none⟩) hB _).set (p:=⟨B, 4,none⟩) hB _).set (p:=⟨B, 5,none⟩) hB _).set (p:=⟨B, 6,none⟩) hB _).set (p:=⟨B, 7,none⟩) hB _).set (p:=⟨B, 8,none⟩) hB _)
theorem v5C {S:Nat->Prop}(h:KeepS S a w)(hB:¬ S B):KeepS S a (((((w.setCell ⟨B, 4,none⟩ y0).setCell ⟨B, 5,none⟩ y1).setCell ⟨B, 6,none⟩ y2).setCell ⟨B, 7,none⟩ y3).setCell ⟨B, 8,none⟩ y4) :=
  ((((h.set (p:=⟨B, 4,none⟩) hB _).set (p:=⟨B, 5,none⟩) hB _).set (p:=⟨B, 6,none⟩) hB _).set (p:=⟨B, 7,none⟩) hB _).set (p:=⟨B, 8,none⟩) hB _
end
theorem NB.cast {w:World}{B t:Nat}{c c':Array Value}(h:NB w B c t)(e:c=c'):NB w B c' t:=e▸h
theorem pl_all {w:World}{B:Nat}{pv0 sv0 pv sv:Value}{off0 b0 off b:Int}{t0 t:Ty}(h:NB w B (plC pv0 sv0 off0 b0 t0) 50):NB (((((((((w.setCell ⟨B, 0,none⟩ pv).setCell ⟨B, 1,none⟩ (.int .i64 off)).setCell ⟨B, 2,none⟩ sv).setCell ⟨B, 3,none⟩ (.int .i64 b)).setCell ⟨B, 4,none⟩ (.int .i64 t.k)).setCell ⟨B, 5,none⟩ (.int .i64 t.p)).setCell ⟨B, 6,none⟩ (.int .i64 t.q)).setCell ⟨B, 7,none⟩ (.bool t.v)).setCell ⟨B, 8,none⟩ (.string t.pic)) B (plC pv sv off b t) 50 :=
  NB.cast (((((((((h.set 0 pv).set 1 (.int .i64 off)).set 2 sv).set 3 (.int .i64 b)).set 4 (.int .i64 t.k)).set 5 (.int .i64 t.p)).set 6 (.int .i64 t.q)).set 7 (.bool t.v)).set 8 (.string t.pic)) (by simp)
theorem z2Z {w w':World}{B t:Nat}{c:Array Value}{row:Option Nat}(hn:NB w B c t)(hg:w.grownBy w' row)(ac:some B≠row):NB w' B c t:=(hg.block B hn.lt ac).trans hn
theorem z3E {S:Nat->Prop}{w w6:World}{base n g0:Nat}{v v':Value}{path:List Int}{xs:List Value}(fH:path.map (fun y=>Value.int .i64 y)=xs)(ho:w6.ownsRow base 3 1 v' n ([]++xs))(hv:v.ownBlock=some g0)(iJ:∀ g,v'.ownBlock=some g->v.ownBlock=some g\/w.heap.size <= g)(h0:S g0)(h1:∀ g,w.heap.size <= g->g<w6.heap.size->S g):x3J S w6 v' path:=by
  subst fH;rw [List.nil_append] at ho;refine y7F ho fun g hg=>?_;rcases iJ g hg with h | h
  . rw [hv] at h;cases h;exact h0
  . exact h1 g h (z6J ho hg)
theorem pl_all0 {w:World}{B:Nat}{pv0 sv0 pv sv:Value}{off0 b0 off b:Int}{t0:Ty}(h:NB w B (plC pv0 sv0 off0 b0 t0) 50):NB (((((((((w.setCell ⟨B, 0,none⟩ pv).setCell ⟨B, 1,none⟩ (.int .i64 off)).setCell ⟨B, 2,none⟩ sv).setCell ⟨B, 3,none⟩ (.int .i64 b)).setCell ⟨B, 4,none⟩ (.int .i64 0)).setCell ⟨B, 5,none⟩ (.int .i64 0)).setCell ⟨B, 6,none⟩ (.int .i64 0)).setCell ⟨B, 7,none⟩ (.bool false)).setCell ⟨B, 8,none⟩ (.string ⟨#[]⟩)) B (plC pv sv off b ty00) 50:=pl_all (t:=ty00) h
theorem y0Y {fn:Func}{p:Tmp}{ty:TypeId}(h:fn.results=#[.cell p ty])(tmps:Array Value)(P:Program)(w:World) :
    (results fn tmps).run P w=((asAddr (tmps.getD p undef)).run P w).andThen fun a w₁ =>(loadVar ty a).run P w₁ :=by
  simp only [results,h];simp [Sem.run_bind,Result.andThen]
theorem x3V {w:World}{B:Nat}{pv sv:Value}{off b:Int}{t:Ty}(h:NB w B (plC pv sv off b t) 50):w.cell? ⟨B, 0,none⟩=some pv/\w.cell? ⟨B, 1,none⟩=some (.int .i64 off)/\w.cell? ⟨B, 2,none⟩=some sv/\w.cell? ⟨B, 3,none⟩=some (.int .i64 b)/\w.cell? ⟨B, 4,none⟩=some (.int .i64 t.k)/\w.cell? ⟨B, 5,none⟩=some (.int .i64 t.p)/\w.cell? ⟨B, 6,none⟩=some (.int .i64 t.q)/\w.cell? ⟨B, 7,none⟩=some (.bool t.v)/\w.cell? ⟨B, 8,none⟩=some (.string t.pic)/\(∀ i,w.frozen? ⟨B,i,none⟩=false) :=
  ⟨h.cell 0,h.cell 1,h.cell 2,h.cell 3,h.cell 4,h.cell 5,h.cell 6,h.cell 7,h.cell 8,h.frozen⟩
theorem plc_a {k:Nat}{w1 w6:World}{pv sv:Value}{off eb:Int}{path:List Int}(mI:x3J (fun x=>k<x/\x<w6.heap.size) w6 pv path)(aT:Below w1.heap.size w1 w6)(hk:k<w6.heap.size) :
    ∃ B9 pv',Value.pointer (some ⟨w6.heap.size, 0,none⟩) = .pointer (some ⟨B9, 0,none⟩)/\NB (w6.alloc (.cells #[pv, .int .i64 off,sv, .int .i64 eb, .int .i64 0, .int .i64 0, .int .i64 0, .bool false, .string ⟨#[]⟩] 50)) B9 (plC pv' sv off eb ty00) 50/\k<B9 /\
      x3J (fun x=>k<x/\x<(w6.alloc (.cells #[pv, .int .i64 off,sv, .int .i64 eb, .int .i64 0, .int .i64 0, .int .i64 0, .bool false, .string ⟨#[]⟩] 50)).heap.size/\x≠B9) (w6.alloc (.cells #[pv, .int .i64 off,sv, .int .i64 eb, .int .i64 0, .int .i64 0, .int .i64 0, .bool false, .string ⟨#[]⟩] 50)) pv' path /\
      Below w1.heap.size w1 (w6.alloc (.cells #[pv, .int .i64 off,sv, .int .i64 eb, .int .i64 0, .int .i64 0, .int .i64 0, .bool false, .string ⟨#[]⟩] 50)) :=
  ⟨w6.heap.size,pv,rfl,NB.here w6 _ 50,hk,x0P (fun x h=>⟨h.1,by have:=h.2;simp;omega,by have:=h.2;omega⟩) ((KeepS.refl _ w6).alloc (fun x h=>h.2) _) mI,aT.alloc aT.size _⟩
theorem plc_b {k B:Nat}{w1 w6:World}{pv0 sv0 pv sv:Value}{off0 b0 off eb:Int}{path:List Int}(hz:NB w6 B (plC pv0 sv0 off0 b0 ty00) 50)(mI:x3J (fun x=>k<x/\x<w6.heap.size/\x≠B) w6 pv path)(aT:Below w1.heap.size w1 w6)(hk:k<B/\w1.heap.size <= B) :
    ∃ B9 pv',Value.pointer (some ⟨B, 0,none⟩) = .pointer (some ⟨B9, 0,none⟩)/\NB (((((((((w6.setCell ⟨B, 0,none⟩ pv).setCell ⟨B, 1,none⟩ (.int .i64 off)).setCell ⟨B, 2,none⟩ sv).setCell ⟨B, 3,none⟩ (.int .i64 eb)).setCell ⟨B, 4,none⟩ (.int .i64 0)).setCell ⟨B, 5,none⟩ (.int .i64 0)).setCell ⟨B, 6,none⟩ (.int .i64 0)).setCell ⟨B, 7,none⟩ (.bool false)).setCell ⟨B, 8,none⟩ (.string ⟨#[]⟩)) B9 (plC pv' sv off eb ty00) 50/\k<B9 /\
      x3J (fun x=>k<x/\x<(((((((((w6.setCell ⟨B, 0,none⟩ pv).setCell ⟨B, 1,none⟩ (.int .i64 off)).setCell ⟨B, 2,none⟩ sv).setCell ⟨B, 3,none⟩ (.int .i64 eb)).setCell ⟨B, 4,none⟩ (.int .i64 0)).setCell ⟨B, 5,none⟩ (.int .i64 0)).setCell ⟨B, 6,none⟩ (.int .i64 0)).setCell ⟨B, 7,none⟩ (.bool false)).setCell ⟨B, 8,none⟩ (.string ⟨#[]⟩)).heap.size/\x≠B9) (((((((((w6.setCell ⟨B, 0,none⟩ pv).setCell ⟨B, 1,none⟩ (.int .i64 off)).setCell ⟨B, 2,none⟩ sv).setCell ⟨B, 3,none⟩ (.int .i64 eb)).setCell ⟨B, 4,none⟩ (.int .i64 0)).setCell ⟨B, 5,none⟩ (.int .i64 0)).setCell ⟨B, 6,none⟩ (.int .i64 0)).setCell ⟨B, 7,none⟩ (.bool false)).setCell ⟨B, 8,none⟩ (.string ⟨#[]⟩)) pv' path /\
      Below w1.heap.size w1 (((((((((w6.setCell ⟨B, 0,none⟩ pv).setCell ⟨B, 1,none⟩ (.int .i64 off)).setCell ⟨B, 2,none⟩ sv).setCell ⟨B, 3,none⟩ (.int .i64 eb)).setCell ⟨B, 4,none⟩ (.int .i64 0)).setCell ⟨B, 5,none⟩ (.int .i64 0)).setCell ⟨B, 6,none⟩ (.int .i64 0)).setCell ⟨B, 7,none⟩ (.bool false)).setCell ⟨B, 8,none⟩ (.string ⟨#[]⟩)) :=
  ⟨B,pv,rfl,pl_all0 hz,hk.1,x0P (fun x h=>⟨h.1,by have:=h.2.1;simpa using this,h.2.2⟩) (x8U (KeepS.refl _ w6) (fun h=>h.2.2 rfl)) mI,x2J aT hk.2⟩
theorem hb_of {a w w':World}{base e n sz:Nat}{v:Value}{xs:List Value}(h:w.ownsRow base e sz v n xs)(hk:a.heap.size <= base)(hb:Below a.heap.size a w)(hg:w.grownBy w' v.ownBlock):Below a.heap.size a w':=x2H h hk hb hb.size hg
set_option maxHeartbeats 8000000 in
theorem z6E (s:Sh)(n:Nd)(B:Nat)(W w:World)(pv sv:Value)(path:List Int)(off:Int)(hN:x1T (fun b=>b<W.heap.size) W B s n)(hB:Below W.heap.size W w)(hP:IntsAt w pv path)(hS:∃ a k c,sv = .slice a k c)(hL:path.length <= 1000) :
    Calls Tryz.prog 152 #[.pointer (some ⟨B, 0,none⟩),pv, .int .i64 off,sv] w fun e w'=>(∃ pv',e = .returned (plV pv' sv off n.e.b (cond s.P.isEmpty s.t ty00))/\x3J (fun x=>w.heap.size <= x/\x<w'.heap.size) w' pv' path)/\Below w.heap.size w w':=by
  obtain ⟨D,P,t,g⟩:=s;obtain ⟨u,e,st,at0,ps⟩:=n;obtain ⟨es,eb,ea⟩:=e;unfold x1T at hN;obtain ⟨cW,dv,pv0,stv,av,qv,hc, -, -, -, -, qa,qcap,rfl, -, -⟩:=hN;have cW:B<W.heap.size:=cW;obtain ⟨ao,acap,rfl,eR, -⟩:=id hP.news;obtain ⟨sa,sk,scap,rfl⟩:=hS;have aZ:∀ w',Below W.heap.size W w'->w'.cell? ⟨B, 12,none⟩=some (.int .i64 eb)/\w'.cell? ⟨B, 16,none⟩=some (.slice qa P.length qcap)/\w'.cell? ⟨B, 2,none⟩=some (.int .i64 t.k)/\w'.cell? ⟨B, 3,none⟩=some (.int .i64 t.p)/\w'.cell? ⟨B, 4,none⟩=some (.int .i64 t.q)/\w'.cell? ⟨B, 5,none⟩=some (.bool t.v)/\w'.cell? ⟨B, 6,none⟩=some (.string t.pic):=fun w' hb =>
    ⟨(hb.cell (p:=⟨B, 12,none⟩) cW).trans (hc 12 (by omega)),(hb.cell (p:=⟨B, 16,none⟩) cW).trans (hc 16 (by omega)),(hb.cell (p:=⟨B, 2,none⟩) cW).trans (hc 2 (by omega)),(hb.cell (p:=⟨B, 3,none⟩) cW).trans (hc 3 (by omega)),(hb.cell (p:=⟨B, 4,none⟩) cW).trans (hc 4 (by omega)),(hb.cell (p:=⟨B, 5,none⟩) cW).trans (hc 5 (by omega)),(hb.cell (p:=⟨B, 6,none⟩) cW).trans (hc 6 (by omega))⟩
  obtain ⟨i1,cy,ce,aK,bW⟩:=x6T v5R;have fa:∀ w',Below w.heap.size w w'->∀ ad,ao=some ad->∀ j u,(path.map fun y=>Value.int .i64 y)[j]? = some u->w'.cell? (ad.add j)=some u:=fun w' hb=>by
    obtain ⟨ao',cap',he, -, h2⟩:=(hP.below hb).news;cases he;exact h2
  have gy:(path.map fun y=>Value.int .i64 y).length=path.length*1:=by simp
  have aR:=y6V path;have aL:=hB.size;have aG:B<w.heap.size:=Nat.lt_of_lt_of_le cW aL;have dG:=NB.here w (plC (.slice none 0 0) (.slice none 0 0) 0 0 ty00) 50;generalize fH:(path.map fun y=>Value.int .i64 y)=xs at fa gy aR;have dX:Hid (path.map (fun y=>Value.int .i64 y)=xs):=fH;clear fH;go_enter Tryz.func152,Tryz.ntmps152
  go_upto_region 1 with fail
  generalize bx:w.alloc (.cells #[.slice none 0 0, .int .i64 0, .slice none 0 0, .int .i64 0, .int .i64 0, .int .i64 0, .int .i64 0, .bool false, .string ⟨#[]⟩] 50)=w1;have au:Below w.heap.size w w1:=by
    rw [<- bx];exact (Below.refl _ w).alloc (Nat.le_refl _) _
  have cg:w1.heap.size=w.heap.size+1:=by rw [<- bx];simp
  have bX:NB w1 w.heap.size (plC (.slice none 0 0) (.slice none 0 0) 0 0 ty00) 50:=by
    rw [<- bx];exact dG
  clear dG bx;obtain ⟨c12,c16,c2,c3,c4,c5,c6⟩:=aZ w1 (hB.trans (au.mono aL));have ac:¬ B=w.heap.size:=by omega
  have lP:B<w1.heap.size:=by omega
  have lO:B<w.heap.size+1:=by omega
  have xc:B<w.heap.size+1+1:=by omega
  have nM:¬ B=w.heap.size+1:=by omega
  have nL:¬ B=w.heap.size+1+1:=by omega
  have eS:Below w1.heap.size w1 w1:=Below.refl _ _
  go_cut [9] (fun v9 wc=> ∃ B9 pv',v9 = .pointer (some ⟨B9, 0,none⟩)/\NB wc B9 (plC pv' (.slice sa sk scap) off eb ty00) 50/\w.heap.size<B9/\x3J (fun x=>w.heap.size<x/\x<wc.heap.size/\x≠B9) wc pv' path/\Below w1.heap.size w1 wc)
  case first =>
    go_region_law (first
      | (refine x6Y _ rfl (.tmp 10) (.tmp 11) 32 rfl (w.heap.size+1) 3 i1 (.int .i64 0) 1 8 Tryz.underlying32 cy ce aK bW rfl (by decide) _ 0 [] (by simp [Act.eval,Act.put]) (x2Z (World.ownsRow_lit (size:= 1) w1 #[] 0 (by omega) (by decide) rfl) (Below.refl _ _).drew) ao path.length acap xs (by simp [Act.eval,Act.put]) eR gy (fa _ (au.trans (((eS.alloc (Nat.le_refl _) (.cells #[] 3)).drew).mono (show w.heap.size <= w1.heap.size by omega)))) aR (by unfold maxLen;omega) (by omega) (by simp;omega) ?_;intro v' w6 bJ aw ca;obtain ⟨vg,vcap,rfl⟩:=x5Q bJ;have aT:Below w1.heap.size w1 w6:=hb_of (x2Z (World.ownsRow_lit (size:= 1) w1 #[] 0 (by omega) (by decide) rfl) (Below.refl _ _).drew) (show w1.heap.size <= w.heap.size+1 by omega) ((eS.alloc (Nat.le_refl _) (.cells #[] 3)).drew) aw;have tI:B<w6.heap.size:=Nat.lt_of_lt_of_le lP aT.size;obtain ⟨d12,d16,d2,d3,d4,d5,d6⟩:=aZ w6 (hB.trans ((au.trans (aT.mono (show w.heap.size <= w1.heap.size by omega))).mono aL));have nb:=aw.size;have yi:=z3E (S:=fun x=>w.heap.size<x/\x<w6.heap.size) (g0:=w.heap.size+1) dX.out bJ (by simp [Value.ownBlock,cg]) ca (by simp at nb;omega) (fun g h1 h2=>by simp at h1;omega))
      | (refine x6Y _ rfl (.tmp 10) (.tmp 11) 32 rfl (w.heap.size+1) 3 i1 (.int .i64 0) 1 8 Tryz.underlying32 cy ce aK bW rfl (by decide) _ 0 [] (by simp [Act.eval,Act.put]) (x2Z (World.ownsRow_lit (size:= 1) (w1.alloc (.cells (plC (.slice none 0 0) (.slice none 0 0) 0 0 ty00) 50)) #[] 0 (by simp;omega) (by decide) rfl) (Below.refl _ _).drew) ao path.length acap xs (by simp [Act.eval,Act.put]) eR gy (fa _ (au.trans ((((eS.alloc (Nat.le_refl _) (.cells (plC (.slice none 0 0) (.slice none 0 0) 0 0 ty00) 50)).alloc (by simp) (.cells #[] 3)).drew).mono (show w.heap.size <= w1.heap.size by omega)))) aR (by unfold maxLen;omega) (by omega) (by simp;omega) ?_;intro v' w6 bJ aw ca;obtain ⟨vg,vcap,rfl⟩:=x5Q bJ;have aT:Below w1.heap.size w1 w6:=hb_of (x2Z (World.ownsRow_lit (size:= 1) (w1.alloc (.cells (plC (.slice none 0 0) (.slice none 0 0) 0 0 ty00) 50)) #[] 0 (by simp;omega) (by decide) rfl) (Below.refl _ _).drew) (show w1.heap.size <= w.heap.size+1 by omega) (((eS.alloc (Nat.le_refl _) (.cells (plC (.slice none 0 0) (.slice none 0 0) 0 0 ty00) 50)).alloc (by simp) (.cells #[] 3)).drew) aw;have tI:B<w6.heap.size:=Nat.lt_of_lt_of_le lP aT.size;obtain ⟨d12,d16,d2,d3,d4,d5,d6⟩:=aZ w6 (hB.trans ((au.trans (aT.mono (show w.heap.size <= w1.heap.size by omega))).mono aL));have qo:=z2Z (((NB.here w1 (plC (.slice none 0 0) (.slice none 0 0) 0 0 ty00) 50).alloc (.cells #[] 3)).drew) aw (by simp [Value.ownBlock]);have pI:NB w6 (w.heap.size+1) (plC (.slice none 0 0) (.slice none 0 0) 0 0 ty00) 50:=(show w1.heap.size=w.heap.size+1 from cg)▸qo;have nb:=aw.size;have mI:=z3E (S:=fun x=>w.heap.size<x/\x<w6.heap.size/\x≠w.heap.size+1) (g0:=w.heap.size+1+1) dX.out bJ (by simp [Value.ownBlock,cg]) ca (by simp at nb;omega) (fun g h1 h2=>by simp at h1;omega);obtain ⟨z0,z1,z2,z3,z4,z5,z6,z7,z8,zf⟩:=x3V pI)
      | (refine x6Y _ rfl (.tmp 10) (.tmp 11) 32 rfl (w.heap.size+1) 3 i1 (.int .i64 0) 1 8 Tryz.underlying32 cy ce aK bW rfl (by decide) _ 0 [] (by simp [Act.eval,Act.put]) (x2Z (World.ownsRow_lit (size:= 1) w1 #[] 0 (by omega) (by decide) rfl) ((Below.refl _ (w1.alloc (.cells #[] 3))).alloc (Nat.le_refl _) (.cells (plC (.slice none 0 0) (.slice none 0 0) 0 0 ty00) 50)).drew) ao path.length acap xs (by simp [Act.eval,Act.put]) eR gy (fa _ (au.trans ((((eS.alloc (Nat.le_refl _) (.cells #[] 3)).alloc (by simp) (.cells (plC (.slice none 0 0) (.slice none 0 0) 0 0 ty00) 50)).drew).mono (show w.heap.size <= w1.heap.size by omega)))) aR (by unfold maxLen;omega) (by omega) (by simp;omega) ?_;intro v' w6 bJ aw ca;obtain ⟨vg,vcap,rfl⟩:=x5Q bJ;have aT:Below w1.heap.size w1 w6:=hb_of (x2Z (World.ownsRow_lit (size:= 1) w1 #[] 0 (by omega) (by decide) rfl) ((Below.refl _ (w1.alloc (.cells #[] 3))).alloc (Nat.le_refl _) (.cells (plC (.slice none 0 0) (.slice none 0 0) 0 0 ty00) 50)).drew) (show w1.heap.size <= w.heap.size+1 by omega) (((eS.alloc (Nat.le_refl _) (.cells #[] 3)).alloc (by simp) (.cells (plC (.slice none 0 0) (.slice none 0 0) 0 0 ty00) 50)).drew) aw;have tI:B<w6.heap.size:=Nat.lt_of_lt_of_le lP aT.size;obtain ⟨d12,d16,d2,d3,d4,d5,d6⟩:=aZ w6 (hB.trans ((au.trans (aT.mono (show w.heap.size <= w1.heap.size by omega))).mono aL));have qo:=z2Z ((NB.here (w1.alloc (.cells #[] 3)) (plC (.slice none 0 0) (.slice none 0 0) 0 0 ty00) 50).drew) aw (by simp [Value.ownBlock]);have pI:NB w6 (w.heap.size+1+1) (plC (.slice none 0 0) (.slice none 0 0) 0 0 ty00) 50:=(show (w1.alloc (.cells #[] 3)).heap.size=w.heap.size+1+1 by simp [cg])▸qo;have nb:=aw.size;have mI:=z3E (S:=fun x=>w.heap.size<x/\x<w6.heap.size/\x≠w.heap.size+1+1) (g0:=w.heap.size+1) dX.out bJ (by simp [Value.ownBlock,cg]) ca (by simp at nb;omega) (fun g h1 h2=>by simp at h1;omega);obtain ⟨z0,z1,z2,z3,z4,z5,z6,z7,z8,zf⟩:=x3V pI))
    all_goals
      have vF:=aT.size
      go_wp2_with fail
      go_meet
      case rel =>
        clear fa aZ hc aR gy dX hP
        first
          | (have h6:=yi;rw [Nat.zero_add] at h6;exact plc_a h6 aT (by omega))
          | (have h7:=pI;have h8:=mI;rw [Nat.zero_add] at h8;exact plc_b h7 h8 aT (by omega))
  case rest =>
    obtain ⟨B9,pv',rfl,fQ,yd,qi,lV⟩:=hcut;have xh:Below (w.heap.size+1) w1 _:=lV.mono (by omega)
    have vl:NB _ w.heap.size (plC (.slice none 0 0) (.slice none 0 0) 0 0 ty00) 50:=bX.keep lV (by omega)
    obtain ⟨c12,c16,c2,c3,c4,c5,c6⟩:=aZ _ (hB.trans ((au.trans (lV.mono (show w.heap.size <= w1.heap.size by omega))).mono aL))
    rename_i wc _ _ _;have iU:=lV.size;have ur:Below w.heap.size w wc:=au.trans (lV.mono (by omega))
    have xb:B<wc.heap.size:=by omega
    have rp:¬ B=B9:=by omega
    have rm:¬ w.heap.size=B9:=by omega
    obtain ⟨va,vcap,rfl, -⟩:=id qi;obtain ⟨k0,k1,k2,k3,k4,k5,k6,k7,k8,kf⟩:=x3V fQ;obtain ⟨z0,z1,z2,z3,z4,z5,z6,z7,z8,zf⟩:=x3V vl;have jv:∀ (w':World),KeepS (fun x=>w.heap.size<x/\x<wc.heap.size/\x≠B9) wc w'->x3J (fun x=>w.heap.size <= x/\x<w'.heap.size) w' (.slice va path.length vcap) path:=fun w' hk=>by
      have h1:=hk.1;exact x0P (fun x h=>by omega) hk qi
    by_cases uK:P=[]
    . subst uK;clear hc fa aR gy dX qi;go_wp2;refine bodyPost_ret (v:=plV (.slice va path.length vcap) (.slice sa sk scap) off eb t) (by rw [y0Y rfl];go_simp) rfl ⟨⟨_,rfl,jv _ ?_⟩, ?_⟩
      . exact x8U (v5C (KeepS.refl _ _) (fun h=>h.2.2 rfl)) (fun h=>by omega)
      . exact x2J (v0N ur (by omega)) (Nat.le_refl _)
    . have rG:((P.length:Int)==0)=false := by
        have:=List.length_pos_iff.2 uK
        simp;omega
      have wz:P.isEmpty=false:=by cases P <;> simp_all
      clear hc fa aR gy dX qi;go_wp2;refine bodyPost_ret (v:=plV (.slice va path.length vcap) (.slice sa sk scap) off eb ty00) (by rw [y0Y rfl];go_simp) rfl ⟨⟨_,by simp only [Sh.P,wz,cond_false];rfl,jv _ ?_⟩, ?_⟩
      . exact x8U (KeepS.refl _ _) (fun h=>by omega)
      . exact x2J ur (Nat.le_refl _)
end Go.Proofs
namespace Go.Proofs
open Go Go.RowKit
structure Itk (k:Nat) (C:Nat->Prop) (A B:World):Prop where
  below:Below 0 A B
  same:∀ b o,A.heap[b]? = some o->(C b\/b<k\/o.isCells=true)->B.heap[b]? = some o
structure Abd (k:Nat) (J:Nat->(Nat->Prop)->World->Prop):Prop where
  itk:∀ i C A B,J i C A->Itk k C A B->J i C B
  lt:∀ i C W,J i C W->∀ b,C b->b<W.heap.size
structure Kpc (C:Nat->Prop) (W:World) (C':Nat->Prop) (W':World):Prop where
  below:Below 0 W W'
  same:∀ b,b<W.heap.size->¬ C b->W'.heap[b]? = W.heap[b]?/\¬ C' b
theorem x2F {W:World}{b:Nat}{o:Obj}(h:W.heap[b]? = some o):b<W.heap.size:=(Array.getElem?_eq_some_iff.1 h).1
theorem Kpc.refl (C:Nat->Prop)(W:World):Kpc C W C W:=⟨Below.refl _ _,fun _ _ h=>⟨rfl,h⟩⟩
theorem Kpc.trans {C C1 C2:Nat->Prop}{W W1 W2:World}(h:Kpc C W C1 W1)(h':Kpc C1 W1 C2 W2):Kpc C W C2 W2 :=
  ⟨h.below.trans h'.below,fun b hb hc=>by
    obtain ⟨h1,h2⟩:=h.same b hb hc;obtain ⟨h3,h4⟩:=h'.same b (Nat.lt_of_lt_of_le hb h.below.size) h2;exact ⟨h3.trans h1,h4⟩⟩
theorem y8V {k:Nat}{A B:World}(h:Below k A B):Below 0 A B:=h.mono (Nat.zero_le _)
theorem Kpc.of_below {C:Nat->Prop}{W W1:World}(h:Below W.heap.size W W1):Kpc C W C W1:=⟨y8V h,fun b hb hc=>⟨h.block b hb,hc⟩⟩
theorem Itk.of_below {k:Nat}{C:Nat->Prop}{W W1:World}(h:Below W.heap.size W W1):Itk k C W W1:=⟨y8V h,fun b o ho _=>(h.block b (x2F ho)).trans ho⟩
theorem x1N (W:World)(l:Nat)(o:Obj):Below 0 W (W.putObj l o):=⟨rfl,rfl,rfl,by simp,fun k hk=>by omega⟩
theorem Itk.putObj {k:Nat}{C:Nat->Prop}{W:World}{l:Nat}{o o':Obj}(hl:W.heap[l]? = some o)(hc:¬ C l)(hk:k <= l)(ho:o.isCells=false):Itk k C W (W.putObj l o') :=
  ⟨x1N W l o',fun b x hx h=>by
    rw [World.putObj_heap_other]
    . exact hx
    . rintro rfl;rw [hl] at hx;cases hx;rcases h with h | h | h
      . exact hc h
      . omega
      . rw [ho] at h;cases h⟩
theorem Kpc.putObj {C:Nat->Prop}{W0 W:World}{C0:Nat->Prop}{l:Nat}{o':Obj}(h:Kpc C0 W0 C W)(hl:W0.heap.size <= l):Kpc C0 W0 C (W.putObj l o') :=
  ⟨h.below.trans (x1N W l o'),fun b hb hc=>by
    rw [World.putObj_heap_other (by omega)]
    exact h.same b hb hc⟩
def Yld (P:Program)(l:Nat)(v:Value)(W:World)(R:World->Prop):Prop:= ∀ m,YieldAt Fence.wide m P l #[v] W fun e W'=>e = .returned (.bool true)/\R W'
variable {P:Program}
def rndPost (L:Nat)(rec:Loop)(R:World->Prop):Exit->Act->World->Prop
  | .normal,_,w=>w.heap[L]? = some (.loop { rec with state:= .busy })/\R (w.putObj L (.loop { rec with state:= .ready,pending:=none }))
  | _,_,_=>False
theorem yld_of {L:Nat}{rec:Loop}{x:Value}{W:World}{R:World->Prop}(hl:W.heap[L]? = some (.loop rec))(hr:rec.state = .ready)(hp:rec.params.size=1)
    (h:∀ m,rec.assign.wpIn (Fence.wide.inRound L) m P (Exit.then (fun a₁ w₁ =>w₁.heap[L]? = some (.loop rec)/\rec.body.wpIn (Fence.wide.inRound L) m P (rndPost L rec R) a₁ (w₁.putObj L (.loop { rec with state:= .busy }))) (fun _ _ _=>False))
      { tmps:=(rec.params.zip #[x]).foldl (fun t (p,v)=>t.setIfInBounds p v) rec.tmps,defers:=[] } W):Yld P L x W R:=fun m=>by
  refine ⟨rec.fn,_,rec.assign,rec.body,run_yield hl (by rw [hp];rfl),roundIn_of_wpIn trivial (wpIn_mono (h m) ?_)⟩
  rintro e a₁ w₁ hq;cases e with
  | normal =>
    obtain ⟨h1,h2⟩:=hq;refine ⟨_,run_beginRound h1 hr,wpIn_mono h2 ?_⟩;rintro e a₂ w₂ hq;cases e with
    | normal=>exact ⟨_,_,run_endRound none hq.1,rfl,hq.2⟩
    | ret=>exact hq.elim
    | exit id=>exact hq.elim
    | goto t=>exact hq.elim
    | panic c=>exact hq.elim
    | outgrown=>exact hq.elim
  | ret=>exact hq.elim
  | exit id=>exact hq.elim
  | goto t=>exact hq.elim
  | panic c=>exact hq.elim
  | outgrown=>exact hq.elim
abbrev y1E (a:Act)(fn:FuncId)(ps:Array Tmp)(assign body:Code)(D:Nat)(st:LoopState):Loop:= { state:=st,pending:=none,fn,tmps:=a.tmps,params:=ps,assign,body,defers:=D }
theorem u3S {g:Operand}{ps:Array Tmp}{assign body:Code}{Q:Exit->Act->World->Prop}{a:Act}{w:World}{gf:Nat}{lb:Array Value}(hg:a.eval g = .func (.func gf) #[] lb)(eg:∀ args w,(callFunc gf args).run P w = .ok (.enter gf args) w)
    (h:∀ fn,Calls P gf (#[.func (.yield (w.heap.size+1)) #[] #[]]++lb) ((w.alloc (.deferred (some []))).alloc (.loop (y1E a fn ps assign body w.heap.size .ready))) fun e W'=>(∃ v,e = .returned v)/\W'.heap[w.heap.size+1]? = some (.loop (y1E a fn ps assign body w.heap.size .ready)) /\
      Q .normal { a with defers:= { target:= .collected w.heap.size,args:= #[] }::a.defers } (W'.putObj (w.heap.size+1) (.loop (y1E a fn ps assign body w.heap.size .exhausted)))) :
    (Code.rangeFunc g ps assign body).wp P Q a w:=by
  refine (wpIn_wide (n:= 0)).1 (wpIn_rangeFunc fun fn _=>?_);refine ⟨w.heap.size+1,[{ target:= .collected w.heap.size,args:= #[] }],(w.alloc (.deferred (some []))).alloc (.loop (y1E a fn ps assign body w.heap.size .ready)), { target:= .fn (.func gf) lb,args:= #[.func (.yield (w.heap.size+1)) #[] #[]] }, (w.alloc (.deferred (some []))).alloc (.loop (y1E a fn ps assign body w.heap.size .ready)),gf,
    #[.func (.yield (w.heap.size+1)) #[] #[]]++lb,(w.alloc (.deferred (some []))).alloc (.loop (y1E a fn ps assign body w.heap.size .ready)), ?_, ?_, ?_, ?_, ?_, ?_⟩
  . exact run_enterLoop_outer _ _ _ _ _
  . simp only [resolve,hg];simp [go_sem]
  . intro _ _;trivial
  . simp [invoke,go_sem,eg]
  . intro h;cases h
  . refine callsIn_wide.2 ((h fn).mono ?_);rintro e W' ⟨⟨v,rfl⟩,hl,hq⟩;refine ⟨none,_,run_endLoop hl ?_,hq⟩;intro hc;cases hc
theorem x5E {F:Fence}{n:Nat}{fn:Func}{tmps:Array Value}{R:Ending->World->Prop}:∀ (Ds:List Nat) (W:World),Ds.Nodup->(∀ D∈Ds,W.heap[D]? = some (.deferred (some []))) ->
    (∀ W',Below 0 W W'->(∀ b,b∉Ds->W'.heap[b]? = W.heap[b]?)->LeavesIn F n P fn tmps R [] .returning W')->LeavesInM F n P fn tmps R (Ds.map fun D=> { target:= .collected D,args:= #[] }) .returning W
  | [],W,_,_,h=>h W (Below.refl _ _) fun _ _=>rfl
  | D::Ds,W,hn,hd,h=>by
    have hD:=hd D (by simp)
    refine ⟨by simp, .inl ⟨D,_,rfl,run_takeDeferred hD, ?_⟩⟩
    refine x5E Ds _ (List.nodup_cons.1 hn).2 (fun E hE=>?_) fun W' hb hs=>h W' ((x1N W D _).trans hb) fun b cz=>?_
    . rw [World.putObj_heap_other (by rintro rfl;exact (List.nodup_cons.1 hn).1 hE)]
      exact hd E (by simp [hE])
    . simp only [List.mem_cons,not_or] at cz;rw [hs b cz.2,World.putObj_heap_other cz.1]
end Go.Proofs
namespace Go.Proofs
open Go.RowKit Go.Yec Go.Shp Go.Deep
def PlsS (S:Nat->Prop)(w:World)(v:Value)(L:List Pl):Prop :=
  ∃ a cap,v = .slice a L.length cap/\L.length <= cap/\(L≠[]->∃ b o,a=some ⟨b,o,none⟩/\S b)/\∀ b o,a=some ⟨b,o,none⟩->∀ i p,L[i]? = some p->∃ pv sv,(∀ j,j<9->w.cell? ⟨b,o+i*9+j,none⟩=(plC pv sv p.off p.b p.t)[j]?)/\x3J S w pv p.path/\StepsS S w sv p.st
abbrev v7W (w:World)(v:Value)(L:List Pl):Prop:=PlsS (fun b=>b<w.heap.size) w v L
theorem x5T {S S':Nat->Prop}{w w':World}(hS:∀ b,S b->S' b)(hc:∀ p v,w.cell? p=some v->w'.cell? p=some v){v:Value}{L:List Int}(h:x3J S w v L):x3J S' w' v L:=by
  obtain ⟨a,cap,hv,hn,h0,hx⟩:=h;refine ⟨a,cap,hv,hn,fun ac=>?_,fun b o ha i hi=>hc _ _ (hx b o ha i hi)⟩;obtain ⟨b,o,ha,hb⟩:=h0 ac;exact ⟨b,o,ha,hS b hb⟩
theorem x6E {S S':Nat->Prop}{w w':World}(hS:∀ b,S b->S' b)(hc:∀ p v,w.cell? p=some v->w'.cell? p=some v){v:Value}{L:List Stp}(h:StepsS S w v L):StepsS S' w' v L:=by
  obtain ⟨a,cap,hv,hn,h0,hx⟩:=h;refine ⟨a,cap,hv,hn,fun ac=>?_,fun b o ha j u hj=>hc _ _ (hx b o ha j u hj)⟩;obtain ⟨b,o,ha,hb⟩:=h0 ac;exact ⟨b,o,ha,hS b hb⟩
theorem z0K {S S':Nat->Prop}{w w':World}(hS:∀ b,S b->S' b)(hc:∀ p v,w.cell? p=some v->w'.cell? p=some v){v:Value}{L:List Pl}(h:PlsS S w v L):PlsS S' w' v L:=by
  obtain ⟨a,cap,hv,aV,h0,hx⟩:=h;refine ⟨a,cap,hv,aV,fun ac=>?_,fun b o ha i p hp=>?_⟩
  . obtain ⟨b,o,ha,hb⟩:=h0 ac;exact ⟨b,o,ha,hS b hb⟩
  . obtain ⟨pv,sv,h1,h2,h3⟩:=hx b o ha i p hp;refine ⟨pv,sv,fun j hj=>?_,x5T hS hc h2,x6E hS hc h3⟩;have hl:∃ u,(plC pv sv p.off p.b p.t)[j]? = some u:=⟨_,Array.getElem?_eq_getElem (by simpa using hj)⟩
    obtain ⟨u,hu⟩:=hl;rw [hu];exact hc _ _ ((h1 j hj).trans hu)
theorem y8D {w w':World}(hb:Below w.heap.size w w'):∀ p v,w.cell? p=some v->w'.cell? p=some v:=fun p v h=>(hb.cell (World.block_lt_of_cell? _ _ h)).trans h
theorem PlsS.below {w w':World}{v:Value}{L:List Pl}(h:v7W w v L)(hb:Below w.heap.size w w'):v7W w' v L:=z0K (fun b h=>Nat.lt_of_lt_of_le h hb.size) (y8D hb) h
theorem plc_one (pv sv:Value)(ho:pv.oneCell'=true)(cB:sv.oneCell'=true)(off b:Int)(t:Ty):∀ u∈(plC pv sv off b t).toList,u.oneCell'=true:=by
  intro u hu;simp at hu;rcases hu with rfl | rfl | rfl | rfl | rfl | rfl | rfl | rfl | rfl <;> first | assumption | rfl
theorem y1S {w:World}{p:Addr}{v:Value}(h:w.cell? p=some v):∃ o:Obj,w.heap[p.block]? = some o/\o.isCells=true:=by
  unfold World.cell? at h;cases ho:w.heap[p.block]? with
  | none=>simp [ho] at h
  | some o=>exact ⟨o,rfl,by cases o <;> simp_all [Obj.isCells]⟩
theorem Itk.cell {k:Nat}{C:Nat->Prop}{A B:World}(h:Itk k C A B){p:Addr}{v:Value}(hp:A.cell? p=some v):B.cell? p=some v:=by
  obtain ⟨o,ho,hc⟩:=y1S hp;rw [World.cell?_of_block (w:=A) ((h.same _ o ho (.inr (.inr hc))).trans ho.symm)];exact hp
theorem Itk.mono {k k':Nat}{C C':Nat->Prop}{A B:World}(h:Itk k' C' A B)(hk:k <= k')(hc:∀ b,C b->C' b):Itk k C A B :=
  ⟨h.below,fun b o ho hx=>h.same b o ho (hx.imp (hc b) (Or.imp (fun hb=>by omega) id))⟩
theorem Itk.trans {k:Nat}{C:Nat->Prop}{A B D:World}(h:Itk k C A B)(h':Itk k C B D):Itk k C A D :=
  ⟨h.below.trans h'.below,fun b o ho hx=>h'.same b o (h.same b o ho hx) hx⟩
end Go.Proofs
