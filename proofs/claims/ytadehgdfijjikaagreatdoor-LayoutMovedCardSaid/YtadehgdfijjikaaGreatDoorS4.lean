/-
  nodes of the reference, walked: pQ many nodes a valid shape has, -1 of another one.;strides of the reference, walked.;Units of valid shapes are units.;Boxes of cells: kept, stored into.;element and unit of the reference, walked.;element and unit of the reference, walked: all shapes.;element of a structure, unit: all shapes.
-/
import Derived.Test.YtadehgdfijjikaaGreatDoorS3
import Derived.Test.YtadehgdfijjikaaGreatDoorT2
import Derived.Test.YtadehgdfijjikaaGreatDoorS2
import Derived.Deep.OwnRows
import Derived.Deep.QuietTactic
import Derived.BigQuiet
import Derived.Deep.DeepCutAuto
set_option linter.all false
set_option maxRecDepth 100000
namespace Go.Proofs
open Go.RowKit Go.Yec Go.Shp
open Go.Xec (Glob)
theorem z1M {D:List (Int×Int)}{i:Nat}{d:Int×Int}(hd:D[i]? = some d)(h:x4C (D.take i)=true):x4C (D.take (i+1))=dimB d:=by
  rw [List.take_add_one,hd,y3W,h];simp [x4C]
theorem z8L {D:List (Int×Int)}{i:Nat}{d:Int×Int}(hd:D[i]? = some d)(h:dimB d=false):x4C D=false:=by
  cases e:x4C D with
  | false=>rfl
  | true =>
    have:=x7F e d (List.mem_of_getElem? hd)
    have h2:dimB d=true:=by
      unfold dimB;rw [decide_eq_true this.1,decide_eq_true this.2.1,decide_eq_true this.2.2];rfl
    rw [h] at h2;cases h2
theorem y5Q:∀ (A B:List Sh) (dm lv:Int),valL (A++B) dm lv=(valL A dm lv&&valL B dm lv)
  | [],B,dm,lv=>by simp [valL]
  | p::A,B,dm,lv=>by simp [valL,y5Q A B,Bool.and_assoc]
theorem z5J {P:List Sh}{i:Nat}{p:Sh}{dm lv:Int}(hp:P[i]? = some p)(h:valL (P.take i) dm lv=true):valL (P.take (i+1)) dm lv=valS p dm lv:=by
  rw [List.take_add_one,hp,y5Q,h];simp [valL]
theorem u3Y {P:List Sh}{p:Sh}{dm lv:Int}(hp:p∈P)(h:valS p dm lv=false):valL P dm lv=false:=by
  cases e:valL P dm lv with
  | false=>rfl
  | true=>rw [u3X e p hp] at h;cases h
theorem z8U {p:ByteArray}(h:p.toList=[]):p=⟨#[]⟩:=by
  rw [ByteArray.toList_eq] at h;obtain ⟨⟨l⟩⟩:=p;simp at h;subst h;rfl
theorem ty0_iff {k p q:Int}{v:Bool}{pic:ByteArray}:ty0 ⟨k,p,q,v,pic⟩=true↔(k=0/\p=0/\q=0/\v=false/\pic=⟨#[]⟩):=by
  unfold ty0;simp
theorem z8M {W w:World}{v:Value}{D:List (Int×Int)}(hB:Below W.heap.size W w)(h:DmAt W v D){i:Nat}(hi:i<D.length) :
    ∃ b o cap d,v = .slice (some ⟨b,o,none⟩) D.length cap/\b<W.heap.size/\D[i]? = some d/\w.cell? ⟨b,o+i*2,none⟩=some (.int .i64 d.1)/\w.cell? ⟨b,o+i*2+1,none⟩=some (.int .i64 d.2):=by
  obtain ⟨a,cap,hv,h0,hc⟩:=h;obtain ⟨b,o,ha,hb⟩:=h0 (by intro h;subst h;simp at hi)
  obtain ⟨k0,k1⟩:=hc b o ha i hi;have e:D.getD i (0, 0)=D[i]:=by simp [List.getD,hi]
  rw [e] at k0 k1;exact ⟨b,o,cap,D[i],by rw [hv,ha],hb,List.getElem?_eq_getElem hi,(hB.cell hb).trans k0,(hB.cell hb).trans k1⟩
set_option maxHeartbeats 2000000 in
theorem v3K:∀ (s:Sh) (W w:World) (dv pv:Value) (dm lv:Int),Glob W->ShAt W dv pv s->Below W.heap.size W w->okS s->scnt s <= 100->0 <= dm->dm <= 1000->0 <= lv->lv <= 1000 ->
    Calls Tryz.prog 96 #[shV dv pv s.t s.g, .int .i64 dm, .int .i64 lv] w fun e w'=>e = .returned (.int .i64 (cond (valS s dm lv) (scnt s) (-1)))/\Below w.heap.size w w':=by
  intro s
  induction s using Sh.ind with
  | h D P t g ih =>
  intro W w dv pv dm lv hG hs hB aC dW d0 d1 l0 l1;unfold ShAt at hs;obtain ⟨hD,pa,pcap,rfl,bF,ba⟩:=hs;obtain ⟨da,dcap,rfl,co,cI⟩:=id hD;obtain ⟨k,p,q,v,pic⟩:=t;simp only [Sh.t,Sh.g];obtain ⟨lu,eJ,bA,bH⟩:=aC;have hx:=ShBox.here w (.slice da D.length dcap) (.slice pa P.length pcap) ⟨k,p,q,v,pic⟩ g;generalize hV:valS (.node D P ⟨k,p,q,v,pic⟩ g) dm lv=V
  by_cases h3:3<dm+(D.length:Int)
  . obtain rfl:V=false := by
      rw [<- hV];cases P <;> (unfold valS;rw [decide_eq_false (by omega)];rfl)
    go_enter Tryz.func96,Tryz.ntmps96;go_wp2;go_ret;exact ⟨rfl,(Below.refl _ w).alloc (Nat.le_refl _) _⟩
  by_cases jZ:100<lv
  . obtain rfl:V=false := by
      rw [<- hV];cases P <;> (unfold valS;rw [decide_eq_false (show ¬ lv <= 100 by omega)];simp)
    go_enter Tryz.func96,Tryz.ntmps96;go_wp2;go_ret;exact ⟨rfl,(Below.refl _ w).alloc (Nat.le_refl _) _⟩
  go_enter Tryz.func96,Tryz.ntmps96;go_wp2
  go_loopw [7] (fun vx wr=> ∃ x:Int,vx = .int .i64 x/\0 <= x/\x <= D.length/\x4C (D.take x.toNat)=true/\Below (w.heap.size+1) (w.alloc (.cells #[.slice da D.length dcap, .slice pa P.length pcap, .int .i64 k, .int .i64 p, .int .i64 q, .bool v, .string pic, .bool g] 27)) wr) (fun vx _=>(D.length-intOf vx).toNat)
  case atStart=>exact ⟨0,rfl,by omega,by omega,rfl,Below.refl _ _⟩
  case round =>
    obtain ⟨x,rfl,x0,x1,oM,aG⟩:=hrel;have cA:=hx.keep aG (Nat.lt_succ_self _);obtain ⟨cC,c0,c1,c2,c3,c4,c5,c6,c7⟩:=cA;have ak:Below w.heap.size w wr:=((Below.refl _ w).alloc (Nat.le_refl _) _).trans (aG.mono (by omega))
    have aL:Below W.heap.size W wr:=hB.trans (ak.mono hB.size);have lI:Hid (x4C (D.take x.toNat)=true):=oM;clear oM
    by_cases ai:x<(D.length:Int)
    . obtain ⟨b,o,cap,d,hv,hb,hd,e0,e1⟩:=z8M (i:=x.toNat) aL hD (by omega)
      obtain ⟨lo,hi⟩:=d;cases hv;have bad:dimB (lo,hi)=false->V=false:=fun h=>by
        have:=z8L hd h
        rw [<- hV];cases P <;> (unfold valS;rw [this];simp)
      by_cases q0:lo < -32768
      . obtain rfl:=bad (by unfold dimB;rw [decide_eq_false (by simp;omega)];rfl)
        go_wp2;go_ret
        exact ⟨rfl,ak.alloc ak.size _⟩
      by_cases q1:hi<lo
      . obtain rfl:=bad (by unfold dimB;rw [decide_eq_false (show ¬ lo <= hi by omega)];simp)
        go_wp2;go_ret
        exact ⟨rfl,ak.alloc ak.size _⟩
      by_cases q2:32767<hi
      . obtain rfl:=bad (by unfold dimB;rw [decide_eq_false (show ¬ hi <= 32767 by omega)];simp)
        go_wp2;go_ret
        exact ⟨rfl,ak.alloc ak.size _⟩
      have ki:dimB (lo,hi)=true:=by unfold dimB;rw [decide_eq_true (show -32768 <= lo by omega),decide_eq_true (show lo <= hi by omega),decide_eq_true (show hi <= 32767 by omega)];rfl
      have eu:Hid (x4C (D.take (x.toNat+1))=true):=(z1M hd lI.out).trans ki;clear bad ki;go_wp2
      go_roundw
      case rel =>
        refine ⟨_,rfl,by omega,by omega, ?_,aG.alloc (by omega) _⟩
        rw [show (x+1).toNat=x.toNat+1 by omega]
        exact eu.out
      case measure=>simp [intOf];omega
    . have dy:x=D.length:=by omega
      subst dy;have eQ:x4C D=true:=by
        have:=lI.out
        rwa [show ((D.length:Int)).toNat=D.length by omega,List.take_length] at this
      clear lI;cases P with
      | nil =>
        have du:V=(tyS k p q v pic.data.toList&&(!g || decide (k=4))):=by
          rw [<- hV];unfold valS tyB;rw [decide_eq_true (show dm+(D.length:Int) <= 3 by omega),decide_eq_true (show lv <= 100 by omega),eQ]
          rfl
        clear hV;have pg:=x1C aL hG;clear ih bF ba co cI hD
        go_wp2_with (go_at_call 147;fail)
        refine (c16 bA _ pg).mono ?_;rintro e w2 ⟨rfl,hb⟩;have aB:=ak.trans (hb.mono ak.size);have bv:=(hx.keep aG (Nat.lt_succ_self _)).below hb;clear hb c0 c1 c2 c3 c4 c5 c6 c7 cC hx;obtain ⟨cC,c0,c1,c2,c3,c4,c5,c6,c7⟩:=bv;cases hT:tyS k p q v pic.data.toList
        . obtain rfl:V=false:=by rw [du,hT];rfl
          clear du hT;go_wp2;go_ret;exact ⟨rfl,aB⟩
        . cases g
          . obtain rfl:V=true:=by rw [du,hT];rfl
            clear du hT;go_wp2;go_ret;exact ⟨by simp [scnt,x1L],aB⟩
          . by_cases hk:k=4
            . obtain rfl:V=true:=by rw [du,hT,hk];rfl
              subst hk;clear du hT;go_wp2;go_ret;exact ⟨by simp [scnt,x1L],aB⟩
            . obtain rfl:V=false:=by rw [du,hT,decide_eq_false hk];rfl
              clear du hT;go_wp2;go_ret;exact ⟨rfl,aB⟩
      | cons p0 P0 =>
        have du:V=((ty0 ⟨k,p,q,v,pic⟩&&!g)&&(valS p0 (dm+D.length) (lv+1)&&valL P0 (dm+D.length) (lv+1))):=by
          rw [<- hV];show valS (.node D (p0::P0) ⟨k,p,q,v,pic⟩ g) dm lv=_;rw [valS,decide_eq_true (show dm+(D.length:Int) <= 3 by omega),decide_eq_true (show lv <= 100 by omega),eQ]
          rfl
        clear hV
        by_cases h0:k=0/\p=0/\q=0/\v=false/\pic=⟨#[]⟩/\g=false
        . obtain ⟨rfl,rfl,rfl,rfl,rfl,rfl⟩:=h0;have md:V=valL (p0::P0) (dm+D.length) (lv+1):=by
            rw [du,ty0_iff.2 ⟨rfl,rfl,rfl,rfl,rfl⟩,valL];rfl
          have dD:Hid (valL (p0::P0) (dm+D.length) (lv+1)=true->V=true):=fun h=>md.trans h;have eF:∀ s'∈p0::P0,valS s' (dm+D.length) (lv+1)=false->V=false:=fun s' hm h=>md.trans (u3Y hm h);have bL:0<(p0::P0).length:=by simp
          clear du md;generalize iR:p0::P0=P at *;have ml:Hid (p0::P0=P):=iR;clear iR;have wX:x1L P <= 99:=by unfold scnt at dW;omega
          go_wp2
          go_loopw [9, 10] (fun vn vx wr=> ∃ (nn x:Int),vn = .int .i64 nn/\vx = .int .i64 x/\0 <= x/\x <= P.length/\valL (P.take x.toNat) (dm+D.length) (lv+1)=true/\nn=1+x1L (P.take x.toNat)/\0 <= nn/\nn <= 1000/\Below (w.heap.size+1) (w.alloc (.cells #[.slice da D.length dcap, .slice pa P.length pcap, .int .i64 0, .int .i64 0, .int .i64 0, .bool false, .string ⟨#[]⟩, .bool false] 27)) wr) (fun _ vx _=>(P.length-intOf vx).toNat)
          case atStart=>exact ⟨1, 0,rfl,rfl,by omega,by omega,rfl,by simp [x1L],by omega,by omega,aG⟩
          case round =>
            clear c0 c1 c2 c3 c4 c5 c6 c7 cC aG ak aL x1 x0;obtain ⟨nn,x,rfl,rfl,x0,x1,tA,iJ,n0,n1,aG⟩:=hrel;have cA:=hx.keep aG (Nat.lt_succ_self _);obtain ⟨cC,c0,c1,c2,c3,c4,c5,c6,c7⟩:=cA;have ak:Below w.heap.size w wr:=((Below.refl _ w).alloc (Nat.le_refl _) _).trans (aG.mono (by omega))
            have aL:Below W.heap.size W wr:=hB.trans (ak.mono hB.size);have ji:Hid (nn=1+x1L (P.take x.toNat)):=iJ;have fq:Hid (valL (P.take x.toNat) (dm+D.length) (lv+1)=true):=tA;clear iJ tA
            by_cases ai:x<(P.length:Int)
            . obtain ⟨b,o,rfl,aM⟩:=bF (by intro h;subst h;simp at ai;omega)
              obtain ⟨a1,c1',a2,c2',s',aK,aW,e0,e1,e2,e3,e4,e5,e6,e7⟩:=part_at (i:=x.toNat) aL aM (ba b o rfl) (by omega)
              have aY:s'∈P:=List.mem_of_getElem? aK;have f9:=y5Y s' aY;have rW:=x7P s';have cK:=fun w hB=>ih s' aY W w _ _ (dm+D.length) (lv+1) hG aW hB (y0V bH s' aY) (by omega) (by omega) (by omega) (by omega) (by omega)
              have cL:=eF s' aY;have gK:x1L (P.take (x.toNat+1)) <= 99:=by
                have h1:=x6F (P.take (x.toNat+1)) (P.drop (x.toNat+1));rw [List.take_append_drop] at h1
                have:=x9H (P.drop (x.toNat+1))
                omega
              have aN:=y2B aK;have m9:Hid (x1L (P.take (x.toNat+1)) <= 99/\x1L (P.take (x.toNat+1))=x1L (P.take x.toNat)+scnt s'):=⟨gK,aN⟩;clear ih aY eF gK aN bH co cI hD
              go_wp2_with (go_at_call 96;fail)
              refine (cK _ aL).mono ?_;rintro e w2 ⟨rfl,hb⟩;have bv:=(hx.keep aG (Nat.lt_succ_self _)).below hb;have aB:=aG.trans (hb.mono (by have:=aG.size;simp at this;omega))
              have b9:=ak.trans (hb.mono ak.size);clear hb c0 c1 c2 c3 c4 c5 c6 c7 cC e0 e1 e2 e3 e4 e5 e6 e7 cK;obtain ⟨cC,c0,c1,c2,c3,c4,c5,c6,c7⟩:=bv;cases gq:valS s' (dm+D.length) (lv+1)
              . obtain rfl:=cL gq;clear gq cL;go_wp2;go_ret;exact ⟨rfl,b9⟩
              . have mQ:=(z5J aK fq.out).trans gq;have kF:Hid (valL (P.take (x.toNat+1)) (dm+D.length) (lv+1)=true):=mQ;clear gq cL mQ;have vE:nn+scnt s' <= 100:=by have:=m9.out;have:=ji.out;omega
                go_wp2
                go_roundw
                case rel =>
                  have:=m9.out
                  have:=ji.out
                  refine ⟨_,_,rfl,rfl,by omega,by omega, ?_, ?_,by omega,by omega,aB⟩
                  . rw [show (x+1).toNat=x.toNat+1 by omega]
                    exact kF.out
                  . rw [show (x+1).toNat=x.toNat+1 by omega]
                    omega
                case measure=>simp [intOf];omega
            . have dy:x=P.length:=by omega
              subst dy;have hn:=ji.out;have hv:=fq.out;rw [show ((P.length:Int)).toNat=P.length by omega,List.take_length] at hn hv
              obtain rfl:V=true:=dD.out hv;clear ji fq hv ih eF dD;have ji:Hid (nn=1+x1L P):=hn;clear hn;go_wp2;go_ret
              have:=ji.out
              subst this;exact ⟨by simp [scnt,ml.out],ak⟩
        . obtain rfl:V=false := by
            rw [du];cases e:ty0 ⟨k,p,q,v,pic⟩ with
            | false=>rfl
            | true =>
              cases g
              . have:=ty0_iff.1 e
                exact absurd ⟨this.1,this.2.1,this.2.2.1,this.2.2.2.1,this.2.2.2.2,rfl⟩ h0
              . rfl
          clear du ih bF ba co cI hD bH hx;have jG:=h0;have hH:Hid (¬ (k=0/\p=0/\q=0/\v=false/\pic=⟨#[]⟩/\g=false)):=h0;clear h0 jG;go_wp2
          all_goals first
            | (go_ret;exact ⟨rfl,ak⟩)
            | (exfalso
               refine hH.out ⟨‹_›, ‹_›, ‹_›, by simp_all,z8U ‹_›, by simp_all⟩)
end Go.Proofs
namespace Go.Proofs
open Go.RowKit Go.Yec Go.Shp Go.Deep
theorem v5R:(Tryz.prog.info? 3).map (fun i=>(i.zero,i.size,i.bytes))=some (some (.int .i64 0), 1, 8):=by kernel_rfl
theorem wrap_id {x:Int}(h:-9223372036854775808 <= x/\x <= 9223372036854775807):wrap64 x=x:=by
  unfold wrap64;omega
theorem u4A {D:List (Int×Int)}{i:Nat}{d:Int×Int}(h:D[i]? = some d):(D.take (i+1)).reverse=d::(D.take i).reverse:=by
  rw [List.take_add_one,h];simp
def stC (k:Nat)(l:List Int)(i:Nat):Value:=if i<k then .int .i64 0 else .int .i64 (l.getD (i-k) 0)
theorem u4B {k:Nat}{nx:Int}{l:List Int}(i:Nat):(if i=k then Value.int .i64 nx else stC (k+1) l i)=stC k (nx::l) i:=by
  unfold stC;rcases Nat.lt_trichotomy i k with h | h | h
  . rw [if_neg (by omega),if_pos (by omega),if_pos h]
  . subst h;simp
  . rw [if_neg (by omega),if_neg (by omega),if_neg (by omega)]
    obtain ⟨j,rfl⟩:∃ j,i=k+1+j:=⟨i-(k+1),by omega⟩
    rw [show k+1+j-(k+1)=j by omega,show k+1+j-k=j+1 by omega]
    rfl
def StrOk (w w':World)(n:Nat)(e:Ending):Option (Int×List Int)->Prop
  | none=>e = .returned (.tuple #[.slice none 0 0, .int .i64 0, .bool false])
  | some (all,l)=>l.length=n/\0 <= all/\all <= 524288/\∃ b,w.heap.size <= b/\e = .returned (.tuple #[.slice (some ⟨b, 0,none⟩) n n, .int .i64 all, .bool true])/\w'.rowIs b 3 n (stC 0 l)
theorem x8A {B:Nat}{a w:World}(h:Below B a w)(n:Nat):Below B a (w.drewN n):=h.trans ⟨rfl,rfl,rfl,Nat.le_refl _,fun _ _=>rfl⟩
theorem u4M {w:World}{b t n:Nat}{f:Nat->Value}(h:w.rowIs b t n f)(k:Nat):(w.drewN k).rowIs b t n f:=h
theorem z9S {n nx:Int}(h0:0 <= n)(h1:n <= 65536)(x0:1 <= nx)(x1:nx <= 1048576):0 <= n*nx/\n*nx <= 68719476736:=by
  have a1:=Int.mul_nonneg h0 (show 0 <= nx by omega)
  have a2:=Int.mul_le_mul h1 x1 (by omega) (by omega)
  exact ⟨a1,by omega⟩
theorem z2F {n nx:Int}(h0:1 <= n)(x0:1 <= nx)(x1:nx <= 1048576)(aV:(n-1)*nx <= 524288):1 <= nx*n/\nx*n <= 1048576:=by
  have e:nx*n=(n-1)*nx+nx:=by rw [Int.sub_mul,Int.one_mul,Int.mul_comm];omega
  rcases Int.lt_or_le 1 n with h | h
  . have a1:=Int.mul_le_mul_of_nonneg_right (show (1:Int) <= n-1 by omega) (show 0 <= nx by omega)
    omega
  . have:n=1:=by omega
    subst this;omega
set_option maxHeartbeats 4000000 in
theorem z9R (D:List (Int×Int))(pa:Option Addr)(pn pcap:Nat)(t:Ty)(g:Bool)(u:Un)(W w:World)(dv:Value)(hD:DmAt W dv D)(hB:Below W.heap.size W w)(hd:x4C D=true)(h3:D.length <= 3)(ha:1 <= u.a/\u.a <= 64)(hb:0 <= u.b/\u.b <= 524288) :
    Calls Tryz.prog 145 #[shV dv (.slice pa pn pcap) t g,unV u] w fun e w'=>StrOk w w' D.length e (stR D.reverse (str0 u) u.b [])/\Below w.heap.size w w':=by
  obtain ⟨da,dcap,rfl,co,cI⟩:=id hD;obtain ⟨k,p,q,v,pic⟩:=t;obtain ⟨s,bb,a⟩:=u;simp only at ha hb;have tB:=z5K (n:=bb) ha.1;generalize hR:stR D.reverse (str0 ⟨s,bb,a⟩) bb []=R;have jm:=run_make_row' (P:=Tryz.prog) 32 3 (.int .i64 0) 8 Tryz.underlying32 v5R rfl .i64 .i64 D.length (by omega) (by omega)
  have cM:Hid (stR D.reverse (str0 ⟨s,bb,a⟩) bb []=R):=hR;clear hR;go_enter Tryz.func145,Tryz.ntmps145;go_wp2
  go_quiet (first | (go_at_call 95;exact Calls.quiet_of_same (Up_any _ _ _ ha (by omega))))
  go_wp2;generalize fp:(((w.alloc (.cells #[.slice da D.length dcap, .slice pa pn pcap, .int .i64 k, .int .i64 p, .int .i64 q, .bool v, .string pic, .bool g] 27)).alloc (.cells #[.int .i64 s, .int .i64 bb, .int .i64 a] 42)).alloc (.cells (madeCells #[.int .i64 0] D.length) 3)).drewN nq=w2
  have bd:w2.heap.size=w.heap.size+3:=by rw [<- fp];simp [World.drewN]
  have kR:w2.rowIs (w.heap.size+1+1) 3 D.length (stC D.length []):=by
    rw [<- fp]
    have:=u4M (World.rowIs_made ((w.alloc (.cells #[.slice da D.length dcap, .slice pa pn pcap, .int .i64 k, .int .i64 p, .int .i64 q, .bool v, .string pic, .bool g] 27)).alloc (.cells #[.int .i64 s, .int .i64 bb, .int .i64 a] 42)) (.int .i64 0) D.length 3) nq
    simp only [World.size_alloc] at this;exact this.congr fun i hi=>by unfold stC;rw [if_pos hi]
  have iP:ShBox w2 w.heap.size (.slice da D.length dcap) (.slice pa pn pcap) ⟨k,p,q,v,pic⟩ g:=by
    rw [<- fp];exact (((ShBox.here w _ _ _ _).alloc _).alloc _).below (x8A (Below.refl _ _) _)
  have aB:Below w.heap.size w w2:=by
    rw [<- fp];exact x8A ((((Below.refl _ w).alloc (Nat.le_refl _) _).alloc (by simp) _).alloc (by simp;omega) _) _
  clear fp jm;have kI:Hid (max a (upS bb a)=str0 ⟨s,bb,a⟩):=rfl;have bR:1 <= max a (upS bb a)/\max a (upS bb a) <= 1048576:=by omega
  go_loopw [8, 9, 10] (fun v8 v9 v10 wr=> ∃ (nx all x:Int) (l:List Int),v8 = .int .i64 nx/\v9 = .int .i64 all/\v10 = .int .i64 x/\-1 <= x/\x<D.length/\1 <= nx/\nx <= 1048576/\0 <= all/\all <= 524288/\stR (D.take (x+1).toNat).reverse nx all l=R/\l.length=D.length-(x+1).toNat/\wr.rowIs (w.heap.size+1+1) 3 D.length (stC (x+1).toNat l)/\Below (w.heap.size+2) w2 wr) (fun _ _ v10 _=>(intOf v10+1).toNat)
  case atStart =>
    refine ⟨_,bb,_,[],rfl,rfl,rfl,by omega,by omega,bR.1,bR.2,by omega,by omega, ?_,by simp, ?_,Below.refl _ _⟩
    . rw [show ((D.length:Int)-1+1).toNat=D.length by omega,List.take_length,kI.out]
      exact cM.out
    . rw [show ((D.length:Int)-1+1).toNat=D.length by omega]
      exact kR
  case round =>
    obtain ⟨nx,all,x,l,rfl,rfl,rfl,x0,x1,n0,n1,a0,a1,aN,im,dB,aG⟩:=hrel;have cA:=iP.keep aG (by omega)
    obtain ⟨cC,c0,c1,c2,c3,c4,c5,c6,c7⟩:=cA;have ak:Below w.heap.size w wr:=aB.trans (aG.mono (by omega))
    have aL:Below W.heap.size W wr:=hB.trans (ak.mono hB.size);have bQ:Hid (stR (D.take (x+1).toNat).reverse nx all l=R):=aN;clear aN
    by_cases nK:x<0
    . have:x=-1:=by omega
      subst this;have eI:R=some (all,l):=by rw [<- bQ.out];rfl
      subst eI;clear bQ cM kI;go_wp2
      go_ret3
      exact ⟨⟨by simpa using im,a0,a1,w.heap.size+1+1,by omega,rfl,by simpa using dB⟩,ak⟩
    . obtain ⟨b,o,cap,d,hv,bI,gE,e0,e1⟩:=z8M (i:=x.toNat) aL hD (by omega)
      obtain ⟨lo,hi⟩:=d;cases hv;have oN:=x7F hd _ (List.mem_of_getElem? gE);simp only at oN e0 e1;have bE:=bQ.out;rw [show (x+1).toNat=x.toNat+1 by omega,u4A gE,Shp.stR] at bE
      simp only at bE;obtain ⟨n,hn⟩:∃ n,hi-lo+1=n:=⟨_,rfl⟩;have cY:hi-lo=n-1:=by omega
      rw [cY,show n-1+1=n by omega] at bE
      have hm:=z9S (n:=n-1) (by omega) (by omega) n0 n1
      have bO:=dB.cell (i:=x.toNat) (by omega)
      have uf:=dB.frozen x.toNat;generalize fM:(n-1)*nx=pr at *;have bp:Hid ((if 524288<all+pr then none else stR (D.take x.toNat).reverse (nx*n) (all+pr) (nx::l))=R):=bE
      have wS:Hid (D[x.toNat]? = some (lo,hi)):=gE;clear bE bQ gE cM kI cY;have eu:=z2F (n:=n) (by omega) n0 n1
      rw [fM] at eu;have cR:Hid (pr <= 524288->1 <= nx*n/\nx*n <= 1048576):=eu;clear eu;go_wp2
      go_quiet (fail)
      by_cases cJ:524288<all+pr
      . have pY:R=none := by
          have:=bp.out
          rw [if_pos cJ] at this;exact this.symm
        subst pY;clear bp cR;go_wp2
        go_ret3
        exact ⟨rfl,(x8A ak _).setCell (by show w.heap.size <= w.heap.size+1+1;omega) _⟩
      . have cO:=bp.out;rw [if_neg cJ] at cO;have fQ:=cR.out (by omega)
        have d9:Hid (stR (D.take x.toNat).reverse (nx*n) (all+pr) (nx::l)=R):=cO;clear bp cO cR;go_wp2
        go_roundw
        case rel =>
          refine ⟨_,_,_,nx::l,rfl,rfl,rfl,by omega,by omega,fQ.1,fQ.2,by omega,by omega, ?_, ?_, ?_,(x8A aG _).setCell (by show w.heap.size+2 <= w.heap.size+1+1;omega) _⟩
          . rw [show x-1+1=x by omega]
            exact d9.out
          . rw [show x-1+1=x by omega,List.length_cons,im]
            omega
          . rw [show x-1+1=x by omega]
            exact ((u4M dB nq).set x.toNat (.int .i64 nx)).congr fun i hi=>by
              rw [show (x+1).toNat=x.toNat+1 by omega]
              exact u4B i
        case measure=>simp [intOf];omega
end Go.Proofs
namespace Go.Proofs
open Go.RowKit Go.Yec Go.Shp
theorem pic_w (s:List UInt8):0 <= (picS s).1.2.2.1/\(picS s).1.2.2.1 <= 32:=by
  unfold picS;cases h:mch s 0 0 [] with
  | none=>exact ⟨by decide,by decide⟩
  | some o =>
    have hl:=(y3N s 0 0 [] o h (by simp) (by simp)).1
    show 0 <= (u7W o).1.2.2.1/\(u7W o).1.2.2.1 <= 32;unfold u7W;split
    . exact ⟨by show (0:Int) <= (o.length:Int);omega,by show (o.length:Int) <= 32;omega⟩
    . split
      . have:=List.count_le_length (a:=(86:UInt8)) (l:=o)
        exact ⟨by show (0:Int) <= (o.length:Int)-((o.count 86:Nat):Int);omega,by show (o.length:Int)-((o.count 86:Nat):Int) <= 32;omega⟩
      . exact ⟨by decide,by decide⟩
theorem w64i {x:Int}(h:-9223372036854775808 <= x/\x <= 9223372036854775807):IntKind.wrap .i64 x=x:=by
  rw [IntKind.wrap_i64];omega
theorem sz_in {k p q:Int}{v:Bool}{pic:List UInt8}(h:tyS k p q v pic=true):0 <= szS k p q v pic/\szS k p q v pic <= 100000/\(k=2->szS k p q v pic=16\/szS k p q v pic=32)/\(k=6->szS k p q v pic=32):=by
  have hw:=pic_w pic;unfold szS;rw [h];unfold tyS at h;rcases kinds k with e | e | e | e | e | e | e | ⟨h1,h2,h3,h4,h5,h6,h7⟩
  . subst e;simp only [decide_true,cond_true,Bool.not_true,cond_false,Bool.and_eq_true,decide_eq_true_eq] at h |-
    have hq:p.tdiv 2=p/2:=Int.tdiv_eq_ediv_of_nonneg (by omega)
    rw [hq,w64i (x:=p/2) (by omega),w64i (x:=p/2+1) (by omega),w64i (by omega)]
    omega
  . subst e;simp only [decide_true,cond_true,Bool.not_true,cond_false,show decide ((2:Int)=1)=false from rfl]
    cases decide (p <= 15) <;> simp
  . subst e;simp only [decide_true,cond_true,Bool.not_true,cond_false,show decide ((3:Int)=1)=false from rfl,show decide ((3:Int)=2)=false from rfl,Bool.and_eq_true,decide_eq_true_eq] at h |-
    rw [w64i (x:= 8*p) (by omega),w64i (by omega)]
    cases v <;> simp only [cond_true,cond_false] <;> omega
  . subst e;simp only [decide_true,cond_true,Bool.not_true,cond_false,show decide ((4:Int)=1)=false from rfl,show decide ((4:Int)=2)=false from rfl,show decide ((4:Int)=3)=false from rfl,Bool.and_eq_true,decide_eq_true_eq] at h |-
    omega
  . subst e;simp only [decide_true,cond_true,Bool.not_true,cond_false,show decide ((5:Int)=1)=false from rfl,show decide ((5:Int)=2)=false from rfl,show decide ((5:Int)=3)=false from rfl,show decide ((5:Int)=4)=false from rfl]
    rw [w64i (by omega)]
    omega
  . subst e;simp only [decide_true,cond_true,Bool.not_true,cond_false,show decide ((6:Int)=1)=false from rfl,show decide ((6:Int)=2)=false from rfl,show decide ((6:Int)=3)=false from rfl,show decide ((6:Int)=4)=false from rfl,show decide ((6:Int)=5)=false from rfl]
    simp
  . subst e;simp only [decide_true,cond_true,Bool.not_true,cond_false,show decide ((7:Int)=1)=false from rfl,show decide ((7:Int)=2)=false from rfl,show decide ((7:Int)=3)=false from rfl,show decide ((7:Int)=4)=false from rfl,show decide ((7:Int)=5)=false from rfl,show decide ((7:Int)=6)=false from rfl,Bool.and_eq_true,decide_eq_true_eq] at h |-
    rw [w64i (by omega)]
    omega
  . exfalso;rw [decide_eq_false h1,decide_eq_false h2,decide_eq_false h3,decide_eq_false h4,decide_eq_false h5,decide_eq_false h6,decide_eq_false h7] at h
    cases h
theorem al_in {k p q:Int}{v:Bool}{pic:List UInt8}(h:tyS k p q v pic=true):al (alS k p q v pic):=by
  have hs:=sz_in h;unfold alS;rw [h];simp only [Bool.not_true,cond_false]
  by_cases h2:k=2
  . have:=hs.2.2.1 h2
    rw [decide_eq_true h2];simp only [Bool.true_or,cond_true];unfold al;omega
  . by_cases h6:k=6
    . have:=hs.2.2.2 h6
      rw [decide_eq_true h6];simp only [Bool.or_true,cond_true];unfold al;omega
    . rw [decide_eq_false h2,decide_eq_false h6];simp only [Bool.or_false,cond_false];cases decide (k=4) <;> cases decide (k=7) <;> simp [al]
theorem z7A {t:Ty}{g:Bool}(h:tyB t=true):x2S (y4E t g):=by
  have hs:=sz_in h;have ha:=al_in h;have hp:=x3L ha;unfold y4E x2S good;refine ⟨?_,by simp, ?_,hs.1,by have:=hs.2.1;simp only;omega⟩
  . cases (decide (t.k=4)&&!g)
    . exact ha
    . simp [al]
  . cases (decide (t.k=4)&&!g)
    . simp only [cond_false];omega
    . simp
theorem y1F {u v:Un}(h1:x2S u)(h2:x2S v)(hb:(x1Q u v).b <= 524288):x2S (x1Q u v):=by
  obtain ⟨m1,p1,p2,p3,p4⟩:=h1;obtain ⟨m2,q1,q2,q3,q4⟩:=h2;have r1:=x3L m1;have r2:=x3L m2;have hg:0 <= gapU u v:=by
    unfold gapU;split
    . exact Int.emod_nonneg _ (by omega)
    . exact Int.emod_nonneg _ (by omega)
  refine ⟨?_, ?_, ?_,by show 0 <= u.b+gapU u v+v.b;omega,hb⟩
  . show al (if v.a <= u.a then u.a else v.a)
    split
    . exact m1
    . exact m2
  . show 0 <= (if v.a <= u.a then u.s else (v.s-gapU u v-u.b)%v.a)
    split
    . exact p1
    . exact Int.emod_nonneg _ (by omega)
  . show (if v.a <= u.a then u.s else (v.s-gapU u v-u.b)%v.a)<(if v.a <= u.a then u.a else v.a)
    split
    . exact p2
    . exact Int.emod_lt_of_pos _ (by omega)
theorem u5Y {u v:Un}(h1:x2S u)(h2:x2S v):0 <= gapU u v/\gapU u v<64:=by
  have r1:=x3L h1.1;have r2:=x3L h2.1;unfold gapU;split
  . have a:=Int.emod_nonneg (v.s-u.s-u.b) (show v.a≠0 by omega)
    have b:=Int.emod_lt_of_pos (v.s-u.s-u.b) (show 0<v.a by omega)
    omega
  . have a:=Int.emod_nonneg (v.s-u.s-u.b) (show u.a≠0 by omega)
    have b:=Int.emod_lt_of_pos (v.s-u.s-u.b) (show 0<u.a by omega)
    omega
theorem stR_in:∀ {D:List (Int×Int)} {nx all:Int} {l:List Int} {r:Int} {m:List Int}, (∀ d∈D,d.1 <= d.2)->1 <= nx->0 <= all->all <= 524288->Shp.stR D nx all l=some (r,m)->all <= r/\r <= 524288
  | [],nx,all,l,r,m,_,_,h0,h1,h=>by
    unfold Shp.stR at h;cases h;exact ⟨by omega,h1⟩
  | d::D,nx,all,l,r,m,hd,hn,h0,h1,h=>by
    unfold Shp.stR at h;split at h
    . cases h
    . have lJ:=hd d (by simp)
      have h2:=Int.mul_nonneg (show 0 <= d.2-d.1 by omega) (show 0 <= nx by omega)
      have h3:1 <= nx*(d.2-d.1+1):=by
        have:=Int.mul_nonneg (show 0 <= nx by omega) (show 0 <= d.2-d.1 by omega)
        rw [Int.mul_add,Int.mul_one];omega
      have:=stR_in (fun e he=>hd e (by simp [he])) h3 (by omega) (by omega) h
      omega
theorem y5A {P:List Sh}{t:Ty}{g:Bool}(ih:∀ p∈P, ∀ n,mpS p=some n->x2S n.u)(ht:P=[]->tyB t=true){e:Un}{a:List Int}{ns:List Nd}(h:elL P t g=some (e,a,ns)):x2S e:=by
  have go:∀ (P:List Sh),(∀ p∈P, ∀ n,mpS p=some n->x2S n.u)->∀ (u:Un) (a0:List Int) (n0:List Nd),x2S u->∀ e a ns,goL P u a0 n0=some (e,a,ns)->x2S e:=by
    intro P
    induction P with
    | nil =>
      intro _ u a0 n0 hu e a ns h;unfold goL at h;cases h;exact hu
    | cons p P ihP =>
      intro hP u a0 n0 hu e a ns h;unfold goL at h;obtain ⟨n,hn,h2⟩:=Option.bind_eq_some_iff.1 h;split at h2
      . cases h2
      . exact ihP (fun q hq=>hP q (by simp [hq])) _ _ _ (y1F hu (hP p (by simp) n hn) (by omega)) _ _ _ h2
  cases P with
  | nil =>
    unfold elL at h;cases h;exact z7A (ht rfl)
  | cons p P =>
    unfold elL at h;obtain ⟨n,hn,h2⟩:=Option.bind_eq_some_iff.1 h;exact go P (fun q hq=>ih q (by simp [hq])) _ _ _ (ih p (by simp) n hn) _ _ _ h2
theorem x3C {D:List (Int×Int)}{P:List Sh}{t:Ty}{g:Bool}{dm lv:Int}(h:valS (.node D P t g) dm lv=true):dm+(D.length:Int) <= 3/\lv <= 100/\x4C D=true/\(P=[]->tyB t=true/\(g=true->t.k=4))/\∀ p∈P,valS p (dm+D.length) (lv+1)=true:=by
  cases P with
  | nil =>
    unfold valS at h;simp only [Bool.and_eq_true,decide_eq_true_eq] at h;refine ⟨h.1,h.2.1,h.2.2.1,fun _=>⟨h.2.2.2.1,fun hg=>?_⟩,fun p hp=>by cases hp⟩
    have:=h.2.2.2.2
    rw [hg] at this
    simpa using this
  | cons p P =>
    unfold valS at h;simp only [Bool.and_eq_true,decide_eq_true_eq] at h;refine ⟨h.1,h.2.1,h.2.2.1,fun hn=>by simp at hn,fun q hq=>?_⟩
    rcases List.mem_cons.1 hq with rfl | hq
    . exact h.2.2.2.2.1
    . exact u3X h.2.2.2.2.2 q hq
theorem v1T {e:Un}(h:x2S e):1 <= str0 e/\str0 e <= 1048576:=by
  have r:=x3L h.1;have u:=z5K (n:=e.b) (m:=e.a) r.1;have b:=h.2.2.2;unfold str0;omega
theorem x5S:∀ (s:Sh) (dm lv:Int),valS s dm lv=true->∀ n,mpS s=some n->x2S n.u:=by
  intro s
  induction s using Sh.ind with
  | h D P t g ih =>
    intro dm lv hv n hn;obtain ⟨h3,jZ,hd,ht,hP⟩:=x3C hv;unfold mpS at hn;obtain ⟨⟨e,a,ns⟩,he,h2⟩:=Option.bind_eq_some_iff.1 hn;obtain ⟨⟨r,m⟩,hr,rfl⟩:=Option.map_eq_some_iff.1 h2;have ge:=y5A (fun p hp n' gx=>ih p hp _ _ (hP p hp) n' gx) (fun h=>(ht h).1) he;have dE:=stR_in (fun d rU=>(x7F hd d (by simpa using rU)).2.1) (v1T ge).1 ge.2.2.2.1 ge.2.2.2.2 hr
    exact ⟨ge.1,ge.2.1,ge.2.2.1,by have:=ge.2.2.2.1;show 0 <= r;omega,dE.2⟩
open Go.Deep
open Go.Xec (Glob)
structure UBox (w:World) (B:Nat) (x0 x1 x2:Value):Prop where
  lt:B<w.heap.size
  c0:w.cell? ⟨B, 0,none⟩=some x0
  c1:w.cell? ⟨B, 1,none⟩=some x1
  c2:w.cell? ⟨B, 2,none⟩=some x2
  f0:w.frozen? ⟨B, 0,none⟩=false
  f1:w.frozen? ⟨B, 1,none⟩=false
  f2:w.frozen? ⟨B, 2,none⟩=false
theorem UBox.keep {w w':World}{B:Nat}{x0 x1 x2:Value}(h:UBox w B x0 x1 x2){k:Nat}(hb:Below k w w')(hk:B<k):UBox w' B x0 x1 x2 :=
  ⟨Nat.lt_of_lt_of_le h.lt hb.size,(hb.cell hk).trans h.c0,(hb.cell hk).trans h.c1,(hb.cell hk).trans h.c2,(hb.frozen hk).trans h.f0,(hb.frozen hk).trans h.f1,(hb.frozen hk).trans h.f2⟩
theorem UBox.below {w w':World}{B:Nat}{x0 x1 x2:Value}(h:UBox w B x0 x1 x2)(hb:Below w.heap.size w w'):UBox w' B x0 x1 x2:=h.keep hb h.lt
theorem UBox.here (w:World)(x0 x1 x2:Value)(t:Nat):UBox (w.alloc (.cells #[x0,x1,x2] t)) w.heap.size x0 x1 x2:=by
  constructor <;> simp
theorem UBox.top {w w':World}{x0 x1 x2:Value}{t:Nat}(hb:Below (w.alloc (.cells #[x0,x1,x2] t)).heap.size (w.alloc (.cells #[x0,x1,x2] t)) w'):UBox w' w.heap.size x0 x1 x2:=(UBox.here w x0 x1 x2 t).below hb
theorem UBox.drew {w:World}{B:Nat}{x0 x1 x2:Value}(h:UBox w B x0 x1 x2):UBox w.drew B x0 x1 x2:=⟨h.lt,h.c0,h.c1,h.c2,h.f0,h.f1,h.f2⟩
theorem UBox.topd {w w':World}{x0 x1 x2:Value}{t:Nat}(hb:Below (w.alloc (.cells #[x0,x1,x2] t)).drew.heap.size (w.alloc (.cells #[x0,x1,x2] t)).drew w'):UBox w' w.heap.size x0 x1 x2:=(UBox.here w x0 x1 x2 t).drew.below hb
theorem y8U {B:Nat}{a w w':World}{o:Obj}(h:Below B a w)(hB:B <= w.heap.size)(hb:Below (w.alloc o).drew.heap.size (w.alloc o).drew w'):Below B a w':=((h.alloc hB o).drew).trans (hb.mono (by show B <= (w.alloc o).heap.size;simp;omega))
theorem y5H {B:Nat}{a w w':World}{o:Obj}(h:Below B a w)(hB:B <= w.heap.size)(hb:Below (w.alloc o).heap.size (w.alloc o) w'):Below B a w':=(h.alloc hB o).trans (hb.mono (by simp;omega))
theorem x2V {w:World}{A B j i:Nat}{y:Value}(ac:A≠B):(w.setCell ⟨B,j,none⟩ y).cell? ⟨A,i,none⟩=w.cell? ⟨A,i,none⟩:=World.cell?_setCell_far _ _ _ _ (fun h=>ac h.symm)
theorem x1V (w:World)(a b:Addr)(y:Value):(w.setCell a y).frozen? b=w.frozen? b:=World.frozen?_setCell _ _ _ _
theorem ShBox.other {w:World}{A B j:Nat}{y dv pv:Value}{t:Ty}{g:Bool}(h:ShBox w A dv pv t g)(ac:A≠B):ShBox (w.setCell ⟨B,j,none⟩ y) A dv pv t g :=
  ⟨by have:=h.lt;simpa using this,(x2V ac).trans h.c0,(x2V ac).trans h.c1,(x2V ac).trans h.c2,(x2V ac).trans h.c3,(x2V ac).trans h.c4,(x2V ac).trans h.c5,(x2V ac).trans h.c6,(x2V ac).trans h.c7⟩
theorem UBox.other {w:World}{A B j:Nat}{y x0 x1 x2:Value}(h:UBox w A x0 x1 x2)(ac:A≠B):UBox (w.setCell ⟨B,j,none⟩ y) A x0 x1 x2 :=
  ⟨by have:=h.lt;simpa using this,(x2V ac).trans h.c0,(x2V ac).trans h.c1,(x2V ac).trans h.c2,(x1V _ _ _ _).trans h.f0,(x1V _ _ _ _).trans h.f1,(x1V _ _ _ _).trans h.f2⟩
theorem x7H {w:World}{B i j:Nat}{y:Value}(ac:i≠j):(w.setCell ⟨B,j,none⟩ y).cell? ⟨B,i,none⟩=w.cell? ⟨B,i,none⟩ :=
  World.cell?_setCell_other _ _ _ _ (fun h=>by cases h;exact ac rfl)
theorem UBox.set3 {w:World}{B:Nat}{x0 x1 x2:Value}(h:UBox w B x0 x1 x2)(y0 y1 y2:Value):UBox (((w.setCell ⟨B, 0,none⟩ y0).setCell ⟨B, 1,none⟩ y1).setCell ⟨B, 2,none⟩ y2) B y0 y1 y2:=by
  refine ⟨by have:=h.lt;simpa using this, ?_, ?_, ?_, ?_, ?_, ?_⟩
  . rw [x7H (by decide),x7H (by decide)]
    exact World.cell?_setCell_same _ _ _ h.c0
  . rw [x7H (by decide)]
    exact World.cell?_setCell_same _ _ _ ((x7H (by decide)).trans h.c1)
  . exact World.cell?_setCell_same _ _ _ ((x7H (by decide)).trans ((x7H (by decide)).trans h.c2))
  . exact (x1V _ _ _ _).trans ((x1V _ _ _ _).trans ((x1V _ _ _ _).trans h.f0))
  . exact (x1V _ _ _ _).trans ((x1V _ _ _ _).trans ((x1V _ _ _ _).trans h.f1))
  . exact (x1V _ _ _ _).trans ((x1V _ _ _ _).trans ((x1V _ _ _ _).trans h.f2))
def ElOk (e:Ending):Option (Un×List Int×List Nd)->Prop
  | some (u,_,_)=>e = .returned (.tuple #[unV u, .bool true])
  | none=> ∃ u,e = .returned (.tuple #[unV u, .bool false])
def UnOk (e:Ending):Option Nd->Prop
  | some n=>e = .returned (.tuple #[unV n.u, .bool true])
  | none=> ∃ u,e = .returned (.tuple #[unV u, .bool false])
theorem ShBox.other3 {w:World}{A B:Nat}{y0 y1 y2 dv pv:Value}{t:Ty}{g:Bool}(h:ShBox w A dv pv t g)(ac:A≠B):ShBox (((w.setCell ⟨B, 0,none⟩ y0).setCell ⟨B, 1,none⟩ y1).setCell ⟨B, 2,none⟩ y2) A dv pv t g:=((h.other ac).other ac).other ac
theorem UBox.other3 {w:World}{A B:Nat}{y0 y1 y2 x0 x1 x2:Value}(h:UBox w A x0 x1 x2)(ac:A≠B):UBox (((w.setCell ⟨B, 0,none⟩ y0).setCell ⟨B, 1,none⟩ y1).setCell ⟨B, 2,none⟩ y2) A x0 x1 x2:=((h.other ac).other ac).other ac
theorem x1W {k B:Nat}{a w:World}{y0 y1 y2:Value}(h:Below k a w)(hB:k <= B):Below k a (((w.setCell ⟨B, 0,none⟩ y0).setCell ⟨B, 1,none⟩ y1).setCell ⟨B, 2,none⟩ y2):=((h.setCell (p:=⟨B, 0,none⟩) hB _).setCell (p:=⟨B, 1,none⟩) hB _).setCell (p:=⟨B, 2,none⟩) hB _
set_option maxHeartbeats 4000000 in
theorem v6Q (D:List (Int×Int))(t:Ty)(g:Bool)(da:Option Addr)(dcap:Nat)(pa:Option Addr)(pcap:Nat)(w:World)(hG:Glob w)(bA:t.pic.data.toList.length <= 200) :
    Calls Tryz.prog 115 #[shV (.slice da D.length dcap) (.slice pa 0 pcap) t g] w fun e w'=>e = .returned (.tuple #[unV (y4E t g), .bool true])/\Below w.heap.size w w':=by
  obtain ⟨k,p,q,v,pic⟩:=t;simp only at bA;have hx:=(ShBox.here w (.slice da D.length dcap) (.slice pa 0 pcap) ⟨k,p,q,v,pic⟩ g).alloc (.cells #[.int .i64 0, .int .i64 0, .int .i64 0] 42);have lq:y4E ⟨k,p,q,v,pic⟩ g=⟨0,szS k p q v pic.data.toList,cond (decide (k=4)&&!g) 8 (alS k p q v pic.data.toList)⟩:=rfl;have eT:=fun w hg=>c20 (k:=k) (p:=p) (q:=q) (v:=v) bA w hg;have pA:=fun w hg=>c22 (k:=k) (p:=p) (q:=q) (v:=v) bA w hg;generalize szS k p q v pic.data.toList=sz at *;generalize alS k p q v pic.data.toList=al0 at *;go_enter Tryz.func115,Tryz.ntmps115;go_wp2;generalize bx:(w.alloc (.cells #[.slice da D.length dcap, .slice pa 0 pcap, .int .i64 k, .int .i64 p, .int .i64 q, .bool v, .string pic, .bool g] 27)).alloc (.cells #[.int .i64 0, .int .i64 0, .int .i64 0] 42)=w1 at *;have eU:UBox w1 (w.heap.size+1) (.int .i64 0) (.int .i64 0) (.int .i64 0):=by
    rw [<- bx]
    have:=UBox.here (w.alloc (.cells #[.slice da D.length dcap, .slice pa 0 pcap, .int .i64 k, .int .i64 p, .int .i64 q, .bool v, .string pic, .bool g] 27)) (.int .i64 0) (.int .i64 0) (.int .i64 0) 42
    simpa using this
  have au:Below w.heap.size w w1:=by
    rw [<- bx];exact ((Below.refl _ w).alloc (Nat.le_refl _) _).alloc (by simp) _
  have jB:=x1C au hG;have iO:Below w1.heap.size w1 w1.drew:=(Below.refl _ _).drew;clear bx
  go_cut [4] (fun v4 wc=> ∃ B,v4 = .pointer (some ⟨B, 0,none⟩)/\UBox wc B (.int .i64 0) (.int .i64 sz) (.int .i64 al0)/\w.heap.size+1<B/\ShBox wc w.heap.size (.slice da D.length dcap) (.slice pa 0 pcap) ⟨k,p,q,v,pic⟩ g/\UBox wc (w.heap.size+1) (.int .i64 0) (.int .i64 0) (.int .i64 0)/\Below w.heap.size w wc)
  case first =>
    obtain ⟨ai,c0,c1,c2,c3,c4,c5,c6,c7⟩:=id hx
    go_region_with (first
      | (go_at_call 156;refine (eT w1.drew (x1C iO jB)).mono ?_;rintro e w2 ⟨rfl,bq⟩;have aO:Below w1.heap.size w1 w2:=iO.trans bq;have dM:=aO.size;obtain ⟨ka,d0,d1,d2,d3,d4,d5,d6,d7⟩:=hx.below aO;have cN:=eU.below aO)
      | (go_at_call 156;refine (eT (w1.alloc _).drew (x1C ((Below.refl _ w1).alloc (Nat.le_refl _) _).drew jB)).mono ?_;rintro e w2 ⟨rfl,bq⟩;have aO:Below w1.heap.size w1 w2:=y8U (Below.refl _ w1) (Nat.le_refl _) bq;have dM:=aO.size;have bZ:UBox w2 w1.heap.size _ _ _:=UBox.topd bq;obtain ⟨ka,d0,d1,d2,d3,d4,d5,d6,d7⟩:=hx.below aO;have cN:=eU.below aO)
      | (go_at_call 157;refine (pA w2 (x1C aO jB)).mono ?_;rintro e w3 ⟨rfl,dp⟩;have jr:=bZ.below dp;have cb:Below w1.heap.size w1 w3:=aO.trans (dp.mono dM);have lX:=cb.size;have cD:=hx.below cb;have dH:=eU.below cb;obtain ⟨i0,i1,i2,i3,i4,i5,i6⟩:=id jr)
      | (go_at_call 157;refine (pA w2 (x1C aO jB)).mono ?_;rintro e w3 ⟨rfl,dp⟩;have cb:Below w1.heap.size w1 w3:=aO.trans (dp.mono dM);have lX:=cb.size;have cD:=hx.below cb;have dH:=eU.below cb)
      | (go_at_call 157;refine (pA (w2.alloc _) (x1C (aO.alloc dM _) jB)).mono ?_;rintro e w3 ⟨rfl,dp⟩;have jr:UBox w3 w2.heap.size _ _ _:=UBox.top dp;have cb:Below w1.heap.size w1 w3:=y5H aO dM dp;have lX:=cb.size;have cD:=hx.below cb;have dH:=eU.below cb;obtain ⟨i0,i1,i2,i3,i4,i5,i6⟩:=id jr))
    all_goals
      have yI:=hx.lt;have wa:=eU.lt
      go_wp2_with fail
      go_meet
      case rel =>
        first
          | exact ⟨_,rfl,UBox.here w3 _ _ _ 42,by omega,cD.alloc _,dH.below ((Below.refl _ w3).alloc (Nat.le_refl _) _),au.trans ((cb.mono au.size).alloc (by omega) _)⟩
          | exact ⟨_,rfl,jr.set3 _ _ _,by omega,cD.other3 (by omega),dH.other3 (by omega),x1W (au.trans (cb.mono au.size)) (by omega)⟩
  case rest =>
    obtain ⟨B,rfl,gG,wb,vG,vC,aM⟩:=hcut;obtain ⟨l0,c0,c1,c2,c3,c4,c5,c6,c7⟩:=vG;obtain ⟨l1,m0,m1,m2,m3,m4,m5⟩:=vC;obtain ⟨l2,n0,n1,n2,n3,n4,n5⟩:=id gG;have ne1:¬ w.heap.size=B:=by omega
    have ne2:¬ w.heap.size+1=B:=by omega
    have ne3:¬ B=w.heap.size+1:=by omega
    have fe:Hid (y4E ⟨k,p,q,v,pic⟩ g=⟨0,sz,cond (decide (k=4)&&!g) 8 al0⟩):=lq;clear lq;have hset:∀ (x y z:Value) (w4:World),Below w.heap.size w w4->Below w.heap.size w (((w4.setCell ⟨w.heap.size+1, 0,none⟩ x).setCell ⟨w.heap.size+1, 1,none⟩ y).setCell ⟨w.heap.size+1, 2,none⟩ z):=fun x y z w4 h =>
      ((h.setCell (by show w.heap.size <= w.heap.size+1;omega) _).setCell (by show w.heap.size <= w.heap.size+1;omega) _).setCell (by show w.heap.size <= w.heap.size+1;omega) _
    by_cases hk:k=4
    . subst hk;cases g
      . go_wp2;refine bodyPost_ret (v:= .tuple #[.agg #[.int .i64 0, .int .i64 sz, .int .i64 8], .bool true]) (by rw [results_cell_tmp rfl];go_simp) rfl ⟨by rw [fe.out];rfl,hset _ _ _ _ (aM.setCell (by show w.heap.size <= B;omega) _)⟩
      . go_wp2;refine bodyPost_ret (v:= .tuple #[.agg #[.int .i64 0, .int .i64 sz, .int .i64 al0], .bool true]) (by rw [results_cell_tmp rfl];go_simp) rfl ⟨by rw [fe.out];rfl,hset _ _ _ _ aM⟩
    . go_wp2;refine bodyPost_ret (v:= .tuple #[.agg #[.int .i64 0, .int .i64 sz, .int .i64 al0], .bool true]) (by rw [results_cell_tmp rfl];go_simp) rfl ⟨by rw [fe.out];first | rfl | (rw [decide_eq_false hk];rfl),hset _ _ _ _ aM⟩
set_option maxHeartbeats 4000000 in
theorem unit_of (D:List (Int×Int))(P:List Sh)(t:Ty)(g:Bool)(W w:World)(dv pv:Value)(hs:ShAt W dv pv (.node D P t g))(hB:Below W.heap.size W w)(hd:x4C D=true)(h3:D.length <= 3)(cn:∀ u a ns,elL P t g=some (u,a,ns)->x2S u)
    (eO:∀ w,Below W.heap.size W w->Calls Tryz.prog 115 #[shV dv pv t g] w fun e w'=>ElOk e (elL P t g)/\Below w.heap.size w w') :
    Calls Tryz.prog 94 #[shV dv pv t g] w fun e w'=>UnOk e (mpS (.node D P t g))/\Below w.heap.size w w':=by
  obtain ⟨a1,c1,a2,c2,rfl,rfl⟩:=hs.slices;have hD:DmAt W (.slice a1 D.length c1) D:=by unfold ShAt at hs;exact hs.1
  simp only [Sh.D,Sh.P] at eO hD |-
  obtain ⟨k,p,q,v,pic⟩:=t;have hx:=(ShBox.here w (.slice a1 D.length c1) (.slice a2 P.length c2) ⟨k,p,q,v,pic⟩ g).alloc (.cells #[.int .i64 0, .int .i64 0, .int .i64 0] 42);have eU:UBox ((w.alloc (.cells #[.slice a1 D.length c1, .slice a2 P.length c2, .int .i64 k, .int .i64 p, .int .i64 q, .bool v, .string pic, .bool g] 27)).alloc (.cells #[.int .i64 0, .int .i64 0, .int .i64 0] 42)) (w.heap.size+1) (.int .i64 0) (.int .i64 0) (.int .i64 0):=by
    simpa using UBox.here (w.alloc (.cells #[.slice a1 D.length c1, .slice a2 P.length c2, .int .i64 k, .int .i64 p, .int .i64 q, .bool v, .string pic, .bool g] 27)) (.int .i64 0) (.int .i64 0) (.int .i64 0) 42
  have au:Below w.heap.size w ((w.alloc (.cells #[.slice a1 D.length c1, .slice a2 P.length c2, .int .i64 k, .int .i64 p, .int .i64 q, .bool v, .string pic, .bool g] 27)).alloc (.cells #[.int .i64 0, .int .i64 0, .int .i64 0] 42)):=((Below.refl _ w).alloc (Nat.le_refl _) _).alloc (by simp) _
  have fT:mpS (.node D P ⟨k,p,q,v,pic⟩ g)=(elL P ⟨k,p,q,v,pic⟩ g).bind fun x=>(Shp.stR D.reverse (str0 x.1) x.1.b []).map fun y=> .mk ⟨x.1.s,y.1,x.1.a⟩ x.1 y.2 x.2.1 x.2.2:=rfl;rw [fT];clear fT;generalize hE:elL P ⟨k,p,q,v,pic⟩ g=E at *;go_enter Tryz.func94,Tryz.ntmps94
  go_wp2_with (go_at_call 115;fail)
  refine (eO _ (hB.trans (au.mono hB.size))).mono ?_;rintro e w2 ⟨uj,hb⟩;have bv:=hx.below hb;have cN:=eU.below hb;have aB:=au.trans (hb.mono au.size);clear hb hx eU au eO hE;have bd:=aB.size;cases E with
  | none =>
    obtain ⟨u,rfl⟩:=uj;obtain ⟨l0,c0,c1',c2',c3,c4,c5,c6,c7⟩:=bv;obtain ⟨l1,m0,m1,m2,m3,m4,m5⟩:=cN;clear cn;go_wp2;refine bodyPost_ret (v:= .tuple #[.agg #[.int .i64 0, .int .i64 0, .int .i64 0], .bool false]) (by rw [results_cell_tmp rfl];go_simp) rfl ⟨⟨⟨0, 0, 0⟩,rfl⟩,(x1W aB (by omega)).alloc (by simp;omega) _⟩
  | some x =>
    obtain ⟨⟨us,ub,ua⟩,at0,ns⟩:=x;have bZ:=cn _ _ _ rfl;have gi:=x3L bZ.1;have bB:=bZ.2.2.2;simp only at gi bB;obtain rfl:=uj;obtain ⟨l0,c0,c1',c2',c3,c4,c5,c6,c7⟩:=id bv;obtain ⟨l1,m0,m1,m2,m3,m4,m5⟩:=id cN;have bP:=fun w hB=>z9R D a2 P.length c2 ⟨k,p,q,v,pic⟩ g ⟨us,ub,ua⟩ W w _ hD hB hd h3 gi bB;generalize hR:Shp.stR D.reverse (str0 ⟨us,ub,ua⟩) ub []=R at bP;have cM:Hid (Shp.stR D.reverse (str0 ⟨us,ub,ua⟩) ub []=R):=hR;clear cn hR
    go_wp2_with (go_at_call 145;fail)
    refine (bP _ ((hB.trans (aB.mono hB.size)).alloc (by have:=hB.size;omega) _)).mono ?_
    rintro e w3 ⟨tE,hb⟩;have cD:=(bv.alloc (.cells #[.int .i64 us, .int .i64 ub, .int .i64 ua] 42)).below hb;have dH:=(cN.below ((Below.refl _ w2).alloc (Nat.le_refl _) (.cells #[.int .i64 us, .int .i64 ub, .int .i64 ua] 42))).below hb;have qy:=UBox.top hb;have b9:Below w.heap.size w w3:=y5H aB bd hb;clear bP c0 c1' c2' c3 c4 c5 c6 c7 m0 m1 m2 m3 m4 m5 bv cN hb;obtain ⟨k0,c0,c1',c2',c3,c4,c5,c6,c7⟩:=cD;obtain ⟨k1,m0,m1,m2,m3,m4,m5⟩:=dH;obtain ⟨k2,n0,n1,n2,n3,n4,n5⟩:=qy;have ne1:¬ w.heap.size+1=w2.heap.size:=by omega
    have ne2:¬ w2.heap.size=w.heap.size+1:=by omega
    cases R with
    | none =>
      obtain rfl:=tE;go_wp2;refine bodyPost_ret (v:= .tuple #[.agg #[.int .i64 us, .int .i64 0, .int .i64 ua], .bool false]) (by rw [results_cell_tmp rfl];go_simp) rfl ⟨by show UnOk _ (Option.map _ (Shp.stR D.reverse (str0 ⟨us,ub,ua⟩) ub []));rw [cM.out];exact ⟨⟨us, 0,ua⟩,rfl⟩,x1W (b9.setCell (p:=⟨w2.heap.size, 1,none⟩) bd _) (by omega)⟩
    | some y =>
      obtain ⟨all,l⟩:=y;obtain ⟨-, -, -, b, -, rfl, -⟩:=tE;go_wp2;refine bodyPost_ret (v:= .tuple #[.agg #[.int .i64 us, .int .i64 all, .int .i64 ua], .bool true]) (by rw [results_cell_tmp rfl];go_simp) rfl ⟨by show UnOk _ (Option.map _ (Shp.stR D.reverse (str0 ⟨us,ub,ua⟩) ub []));rw [cM.out];rfl,x1W (b9.setCell (p:=⟨w2.heap.size, 1,none⟩) bd _) (by omega)⟩
set_option maxHeartbeats 4000000 in
theorem elem_str (D:List (Int×Int))(P:List Sh)(t:Ty)(g:Bool)(W w:World)(dv pv:Value)(hs:ShAt W dv pv (.node D P t g))(hB:Below W.heap.size W w)(ac:P≠[])(am:P.length <= 100)
    (cK:∀ s∈P, ∀ w dv pv,ShAt W dv pv s->Below W.heap.size W w->Calls Tryz.prog 94 #[shV dv pv s.t s.g] w fun e w'=>UnOk e (mpS s)/\Below w.heap.size w w')
    (bS:∀ s∈P, ∀ n,mpS s=some n->x2S n.u) :
    Calls Tryz.prog 115 #[shV dv pv t g] w fun e w'=>ElOk e (elL P t g)/\Below w.heap.size w w':=by
  unfold ShAt at hs;obtain ⟨hD,pa,pcap,rfl,bF,ba⟩:=hs;obtain ⟨da,dcap,rfl,co,cI⟩:=id hD;obtain ⟨k,p,q,v,pic⟩:=t;obtain ⟨b,o,rfl,aM⟩:=bF ac;have bL:=ba b o rfl;have lw:0<P.length:=List.length_pos_iff.2 ac;have rG:(0:Int)<(P.length:Int):=by omega
  have eO:elL P ⟨k,p,q,v,pic⟩ g=(mpS P[0]).bind fun n=>goL (P.drop 1) n.u [0] [n]:=by
    cases P with
    | nil=>exact absurd rfl ac
    | cons p0 P0=>rfl
  generalize hR:elL P ⟨k,p,q,v,pic⟩ g=R;rw [hR] at eO;have cU:Hid (R=(mpS P[0]).bind fun n=>goL (P.drop 1) n.u [0] [n]):=eO;have hx:=(ShBox.here w (.slice da D.length dcap) (.slice (some ⟨b,o,none⟩) P.length pcap) ⟨k,p,q,v,pic⟩ g).alloc (.cells #[.int .i64 0, .int .i64 0, .int .i64 0] 42);have eU:UBox ((w.alloc (.cells #[.slice da D.length dcap, .slice (some ⟨b,o,none⟩) P.length pcap, .int .i64 k, .int .i64 p, .int .i64 q, .bool v, .string pic, .bool g] 27)).alloc (.cells #[.int .i64 0, .int .i64 0, .int .i64 0] 42)) (w.heap.size+1) (.int .i64 0) (.int .i64 0) (.int .i64 0):=by
    simpa using UBox.here (w.alloc (.cells #[.slice da D.length dcap, .slice (some ⟨b,o,none⟩) P.length pcap, .int .i64 k, .int .i64 p, .int .i64 q, .bool v, .string pic, .bool g] 27)) (.int .i64 0) (.int .i64 0) (.int .i64 0) 42
  have au:Below w.heap.size w ((w.alloc (.cells #[.slice da D.length dcap, .slice (some ⟨b,o,none⟩) P.length pcap, .int .i64 k, .int .i64 p, .int .i64 q, .bool v, .string pic, .bool g] 27)).alloc (.cells #[.int .i64 0, .int .i64 0, .int .i64 0] 42)):=((Below.refl _ w).alloc (Nat.le_refl _) _).alloc (by simp) _
  obtain ⟨a1,c1',a2,c2',s0,aK,aW,e0,e1,e2,e3,e4,e5,e6,e7⟩:=part_at (i:= 0) (hB.trans (au.mono hB.size)) aM bL lw;have kP:P[0]=s0:=by
    rw [List.getElem?_eq_getElem lw] at aK;exact Option.some.inj aK
  have rB:s0∈P:=List.mem_of_getElem? aK;have oA:=fun w hB=>cK s0 rB w _ _ aW hB;have oH:=bS s0 rB;simp only [Nat.zero_mul,Nat.add_zero] at e0 e1 e2 e3 e4 e5 e6 e7;clear hR eO aK aW co cI bF ba;go_enter Tryz.func115,Tryz.ntmps115
  go_wp2_with (go_at_call 94;fail)
  refine (oA _ (hB.trans (au.mono hB.size))).mono ?_;rintro e w2 ⟨dz,hb⟩;have bv:=hx.below hb;have cN:=eU.below hb;have aB:=au.trans (hb.mono au.size);have bd:=aB.size;clear hb hx eU au e0 e1 e2 e3 e4 e5 e6 e7 oA;rw [kP] at cU;have key:∃ (u:Un) (fine:Bool),e = .returned (.tuple #[unV u, .bool fine])/\(fine=true->x2S u/\∃ at0 ns,goL (P.drop 1) u at0 ns=R)/\(fine=false->R=none):=by
    have:=cU.out
    cases hm:mpS s0 with
    | none =>
      rw [hm] at dz this;obtain ⟨u,rfl⟩:=dz;exact ⟨u,false,rfl,(fun h=>by cases h),fun _=>this⟩
    | some n =>
      rw [hm] at dz this;obtain rfl:=dz;exact ⟨n.u,true,rfl,(fun _=>⟨oH n hm,_,_,this.symm⟩),fun h=>by cases h⟩
  obtain ⟨⟨us,ub,ua⟩,fine,rfl,fZ,lH⟩:=key;have rP:Hid ((fine=true->x2S ⟨us,ub,ua⟩/\∃ at0 ns,goL (P.drop 1) ⟨us,ub,ua⟩ at0 ns=R)/\(fine=false->R=none)):=⟨fZ,lH⟩;clear fZ lH dz cU oH rB kP;obtain ⟨l0,c0,c1,c2,c3,c4,c5,c6,c7⟩:=id bv;obtain ⟨l1,m0,m1,m2,m3,m4,m5⟩:=id cN;go_wp2
  go_loopw [6, 7] (fun v6 v7 wr=> ∃ (fine:Bool) (x:Int) (u:Un),v6 = .bool fine/\v7 = .int .i64 x/\1 <= x/\x <= P.length/\UBox wr w2.heap.size (.int .i64 u.s) (.int .i64 u.b) (.int .i64 u.a)/\(fine=true->x2S u/\∃ at0 ns,goL (P.drop x.toNat) u at0 ns=R)/\(fine=false->R=none)/\Below w2.heap.size w2 wr) (fun _ v7 _=>(P.length-intOf v7).toNat)
  case atStart=>exact ⟨fine, 1,⟨us,ub,ua⟩,rfl,rfl,by omega,by omega,UBox.here w2 _ _ _ 42,rP.out.1,rP.out.2,(Below.refl _ w2).alloc (Nat.le_refl _) _⟩
  case round =>
    clear c0 c1 c2 c3 c4 c5 c6 c7 m0 m1 m2 m3 m4 m5 rP;obtain ⟨fine,x,⟨us,ub,ua⟩,rfl,rfl,x0,x1,iP,fZ,lH,aG⟩:=hrel;have cD:=bv.below aG;have dH:=cN.below aG;obtain ⟨l0,c0,c1,c2,c3,c4,c5,c6,c7⟩:=id cD;obtain ⟨l1,m0,m1,m2,m3,m4,m5⟩:=id dH;obtain ⟨l2,n0,n1,n2,n3,n4,n5⟩:=id iP;have ak:Below w.heap.size w wr:=aB.trans (aG.mono bd);have aL:Below W.heap.size W wr:=hB.trans (ak.mono hB.size);have fY:Hid (fine=true->x2S ⟨us,ub,ua⟩/\∃ at0 ns,goL (P.drop x.toNat) ⟨us,ub,ua⟩ at0 ns=R):=fZ;have f8:Hid (fine=false->R=none):=lH;clear fZ lH
    by_cases ai:x<(P.length:Int)
    . cases fine
      . obtain rfl:R=none:=f8.out rfl;clear f8 fY cK bS;go_wp2;refine bodyPost_ret (v:= .tuple #[.agg #[.int .i64 us, .int .i64 ub, .int .i64 ua], .bool false]) (by rw [results_cell_tmp rfl];go_simp) rfl ⟨⟨⟨us,ub,ua⟩,rfl⟩,x1W ak (by omega)⟩
      . obtain ⟨bZ,at0,ns,dh⟩:=fY.out rfl;obtain ⟨a1,c1',a2,c2',s',aK,aW,e0,e1,e2,e3,e4,e5,e6,e7⟩:=part_at (i:=x.toNat) aL aM bL (by omega)
        have cF:s'∈P:=List.mem_of_getElem? aK;have iq:=fun w hB=>cK s' cF w _ _ aW hB;have ff:=bS s' cF;have oF:R=(mpS s').bind fun n=>if 524288<(x1Q ⟨us,ub,ua⟩ n.u).b then none else goL (P.drop (x.toNat+1)) (x1Q ⟨us,ub,ua⟩ n.u) (at0++[ub+gapU ⟨us,ub,ua⟩ n.u]) (ns++[n]):=by
          rw [<- dh];obtain ⟨hi,he⟩:=List.getElem?_eq_some_iff.1 aK;rw [List.drop_eq_getElem_cons hi,he,goL]
        have jt:Hid (R=(mpS s').bind fun n=>if 524288<(x1Q ⟨us,ub,ua⟩ n.u).b then none else goL (P.drop (x.toNat+1)) (x1Q ⟨us,ub,ua⟩ n.u) (at0++[ub+gapU ⟨us,ub,ua⟩ n.u]) (ns++[n])):=oF
        clear dh oF aK aW cF f8 fY
        go_wp2_with (go_at_call 94;fail)
        refine (iq _ aL).mono ?_;rintro e w3 ⟨dz,hb⟩;have gl:=cD.below hb;have mU:=dH.below hb;have oQ:=iP.below hb;have gG:Below w2.heap.size w2 w3:=aG.trans (hb.mono aG.size);have x8:=gG.size;clear hb iq c0 c1 c2 c3 c4 c5 c6 c7 m0 m1 m2 m3 m4 m5 n0 n1 n2 n3 n4 n5 l0 l1 l2 e0 e1 e2 e3 e4 e5 e6 e7;obtain ⟨l0,c0,c1,c2,c3,c4,c5,c6,c7⟩:=id gl;obtain ⟨l1,m0,m1,m2,m3,m4,m5⟩:=id mU;obtain ⟨l2,n0,n1,n2,n3,n4,n5⟩:=id oQ;cases hm:mpS s' with
        | none =>
          rw [hm] at dz;obtain ⟨v',rfl⟩:=dz;obtain rfl:R=none:=by rw [jt.out,hm];rfl
          clear jt hm cK bS ff;go_wp2;refine bodyPost_ret (v:= .tuple #[.agg #[.int .i64 v'.s, .int .i64 v'.b, .int .i64 v'.a], .bool false]) (by rw [results_cell_tmp rfl];go_simp) rfl ⟨⟨v',rfl⟩,(x1W (aB.trans (gG.mono bd)) (by omega)).alloc (by simp;omega) _⟩
        | some n =>
          rw [hm] at dz;obtain rfl:=dz;have gB:=ff n hm;have eI:=jt.out;rw [hm] at eI;simp only [Option.bind_some] at eI;have jw:=fun w=>Both_un ⟨us,ub,ua⟩ n.u w bZ gB;have wB:=u5Y bZ gB;have bB:=bZ.2.2.2;have aO:=gB.2.2.2;simp only at bB;have mB:(x1Q ⟨us,ub,ua⟩ n.u).b=ub+gapU ⟨us,ub,ua⟩ n.u+n.u.b:=rfl;have lC:(x1Q ⟨us,ub,ua⟩ n.u).b <= 524288->x2S (x1Q ⟨us,ub,ua⟩ n.u):=y1F bZ gB;generalize x1Q ⟨us,ub,ua⟩ n.u=J at *;obtain ⟨js0,jb,ja0⟩:=J;generalize gapU ⟨us,ub,ua⟩ n.u=G at *;simp only at mB eI lC;have cM:Hid (R=if 524288<jb then none else goL (P.drop (x.toNat+1)) ⟨js0,jb,ja0⟩ (at0++[ub+G]) (ns++[n])):=eI
          have jp:Hid (jb <= 524288->x2S ⟨js0,jb,ja0⟩):=lC;have rJ:0 <= jb/\jb <= 2000000:=by omega
          clear eI lC jt hm ff mB
          go_wp2_with (go_at_call 103;fail)
          refine (jw _).mono ?_;rintro e w4 ⟨rfl,hb⟩;have gI:=(gl.alloc (.cells #[.int .i64 n.u.s, .int .i64 n.u.b, .int .i64 n.u.a] 42)).below hb;have qz:=(mU.below ((Below.refl _ w3).alloc (Nat.le_refl _) (.cells #[.int .i64 n.u.s, .int .i64 n.u.b, .int .i64 n.u.a] 42))).below hb;have oP:=(oQ.below ((Below.refl _ w3).alloc (Nat.le_refl _) (.cells #[.int .i64 n.u.s, .int .i64 n.u.b, .int .i64 n.u.a] 42))).below hb;have ye:Below w2.heap.size w2 w4:=y5H gG x8 hb;clear hb jw c0 c1 c2 c3 c4 c5 c6 c7 m0 m1 m2 m3 m4 m5 n0 n1 n2 n3 n4 n5 l0 l1 l2;obtain ⟨l0,c0,c1,c2,c3,c4,c5,c6,c7⟩:=id gI;obtain ⟨l1,m0,m1,m2,m3,m4,m5⟩:=id qz;obtain ⟨l2,n0,n1,n2,n3,n4,n5⟩:=id oP;go_wp2
          go_roundw
          case rel =>
            refine ⟨_,_,⟨js0,jb,ja0⟩,rfl,rfl,by omega,by omega,oP.set3 _ _ _,fun h=>?_,fun h=>?_,x1W ye (Nat.le_refl _)⟩
            . have aV:=of_decide_eq_true h;refine ⟨jp.out aV,at0++[ub+G],ns++[n], ?_⟩;rw [show (x+1).toNat=x.toNat+1 by omega,cM.out,if_neg (by omega)]
            . have aV:=of_decide_eq_false h;rw [cM.out,if_pos (by omega)]
          case measure=>simp [intOf];omega
    . have dy:x=P.length:=by omega
      subst dy;have gD:P.drop ((P.length:Int)).toNat=[]:=by rw [show ((P.length:Int)).toNat=P.length by omega,List.drop_length]
      cases fine
      . obtain rfl:R=none:=f8.out rfl;clear f8 fY cK bS gD;go_wp2;refine bodyPost_ret (v:= .tuple #[.agg #[.int .i64 us, .int .i64 ub, .int .i64 ua], .bool false]) (by rw [results_cell_tmp rfl];go_simp) rfl ⟨⟨⟨us,ub,ua⟩,rfl⟩,x1W ak (by omega)⟩
      . obtain ⟨-, at0,ns,dh⟩:=fY.out rfl;rw [gD] at dh;have xG:R=some (⟨us,ub,ua⟩,at0,ns):=by rw [<- dh,goL]
        subst xG;clear f8 fY cK bS gD dh;go_wp2;refine bodyPost_ret (v:= .tuple #[.agg #[.int .i64 us, .int .i64 ub, .int .i64 ua], .bool true]) (by rw [results_cell_tmp rfl];go_simp) rfl ⟨rfl,x1W ak (by omega)⟩
theorem v6R:∀ (s:Sh) (W:World) (dm lv:Int),Glob W->okS s->0 <= dm->valS s dm lv=true->∀ (w:World) (dv pv:Value),ShAt W dv pv s->Below W.heap.size W w ->
    (Calls Tryz.prog 115 #[shV dv pv s.t s.g] w fun e w'=>ElOk e (elS s)/\Below w.heap.size w w')/\(Calls Tryz.prog 94 #[shV dv pv s.t s.g] w fun e w'=>UnOk e (mpS s)/\Below w.heap.size w w'):=by
  intro s
  induction s using Sh.ind with
  | h D P t g ih =>
    intro W dm lv hG aC co hv;obtain ⟨h3,jZ,hd,ht,hP⟩:=x3C hv;obtain ⟨lu,eJ,bA,bH⟩:=aC;have wR:(D.length:Int) <= 3-dm:=by omega
    have eO:∀ (w:World) (dv pv:Value),ShAt W dv pv (.node D P t g)->Below W.heap.size W w->Calls Tryz.prog 115 #[shV dv pv t g] w fun e w'=>ElOk e (elL P t g)/\Below w.heap.size w w':=by
      intro w dv pv hs hB
      by_cases ac:P=[]
      . subst ac;unfold ShAt at hs;obtain ⟨⟨da,dcap,rfl, -, -⟩,pa,pcap,rfl, -, -⟩:=hs;exact (v6Q D t g da dcap pa pcap w (x1C hB hG) bA).mono fun e w' h=>⟨h.1,h.2⟩
      . exact elem_str D P t g W w dv pv hs hB ac eJ (fun s bn w dv pv jP aL=>(ih s bn W _ _ hG (y0V bH s bn) (by omega) (hP s bn) w dv pv jP aL).2) (fun s bn n hn=>x5S s _ _ (hP s bn) n hn)
    intro w dv pv hs hB;refine ⟨eO w dv pv hs hB, ?_⟩;exact unit_of D P t g W w dv pv hs hB hd (by omega) (fun u a ns he=>y5A (fun s bn n hn=>x5S s _ _ (hP s bn) n hn) (fun h=>(ht h).1) he) (fun w' yh=>eO w' dv pv hs yh)
end Go.Proofs
