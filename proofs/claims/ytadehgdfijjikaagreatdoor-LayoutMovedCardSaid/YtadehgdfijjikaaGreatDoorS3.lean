/-
  few, count, walked: of a shape that is few nothing is long.
-/
import Derived.Test.YtadehgdfijjikaaGreatDoorS2
import Derived.Test.YtadehgdfijjikaaGreatDoorY10
set_option linter.all false
set_option maxRecDepth 100000
namespace Go.Proofs
open Go.RowKit Go.Yec Go.Shp
theorem v1X {P:List Sh}{i:Nat}{p:Sh}(hp:P[i]? = some p)(h:sokL (P.take i))(h':okS p):sokL (P.take (i+1)):=by
  induction P generalizing i with
  | nil=>simp at hp
  | cons q P ih =>
    cases i with
    | zero =>
      simp at hp;subst hp
      simpa [sokL] using h'
    | succ i =>
      simp only [List.take_succ_cons,sokL] at h |-
      exact ⟨h.1,ih (by simpa using hp) h.2⟩
theorem y2B {P:List Sh}{i:Nat}{p:Sh}(hp:P[i]? = some p):x1L (P.take (i+1))=x1L (P.take i)+scnt p:=by
  induction P generalizing i with
  | nil=>simp at hp
  | cons q P ih =>
    cases i with
    | zero =>
      simp at hp;subst hp;simp [x1L,scnt]
    | succ i =>
      have:=ih (i:=i) (by simpa using hp)
      simp only [List.take_succ_cons,x1L];omega
set_option maxHeartbeats 2000000 in
theorem v6Y:∀ (s:Sh) (W w:World) (dv pv:Value) (n:Int),ShAt W dv pv s->Below W.heap.size W w->0 <= n->n <= 100 ->
    Calls Tryz.prog 91 #[shV dv pv s.t s.g, .int .i64 n] w fun e w'=>(∃ c:Int,e = .returned (.int .i64 c)/\1 <= c/\c <= n+1/\(c <= n->okS s/\c=scnt s))/\Below w.heap.size w w':=by
  intro s
  induction s using Sh.ind with
  | h D P t g ih =>
  intro W w dv pv n hs hB n0 n1;unfold ShAt at hs;obtain ⟨⟨da,dcap,rfl,co,cI⟩,pa,pcap,rfl,bF,ba⟩:=hs;obtain ⟨k,p,q,v,pic⟩:=t;simp only [Sh.t,Sh.g]
  by_cases hD:10<(D.length:Int)
  . go_enter Tryz.func91,Tryz.ntmps91;go_wp2;go_ret;exact ⟨⟨_,rfl,by omega,by omega,fun h=>by omega⟩,(Below.refl _ w).alloc (Nat.le_refl _) _⟩
  by_cases hP:n<(P.length:Int)
  . go_enter Tryz.func91,Tryz.ntmps91;go_wp2;go_ret;exact ⟨⟨_,rfl,by omega,by omega,fun h=>by omega⟩,(Below.refl _ w).alloc (Nat.le_refl _) _⟩
  have fJ:=fun b w hb h0 h1 h2 h3 h4=>small14 k p q v pic b w hb h0 h1 h2 h3 h4;generalize cJ:decide (200<(pic.size:Int))=big at fJ;cases big
  . go_enter Tryz.func91,Tryz.ntmps91
    go_wp2_with (go_at_call 63;fail)
    refine (fJ _ _ (by simp) (by simp) (by simp) (by simp) (by simp) (by simp)).mono ?_
    rintro e w1 ⟨rfl,hb⟩;have au:Below w.heap.size w w1:=(((Below.refl _ w).alloc (Nat.le_refl _) _).alloc (by simp) _).trans (hb.mono (by simp <;> omega))
    have hx:ShBox w1 w.heap.size (.slice da D.length dcap) (.slice pa P.length pcap) ⟨k,p,q,v,pic⟩ g:=((ShBox.here w _ _ _ _).alloc _).below hb;obtain ⟨ai,c0,c1,c2,c3,c4,c5,c6,c7⟩:=hx;clear hb;go_wp2
    go_loopw [5, 31] (fun vk vx wr=> ∃ (k x:Int),vk = .int .i64 k/\vx = .int .i64 x/\0 <= x/\x <= P.length/\sokL (P.take x.toNat)/\k=1+x1L (P.take x.toNat)/\1 <= k/\k <= n+1/\(x<P.length->k <= n)/\Below w.heap.size w wr) (fun _ vx _=>(P.length-intOf vx).toNat)
    case atStart=>exact ⟨1, 0,rfl,rfl,by omega,by omega,trivial,by simp [x1L],by omega,by omega,by omega,au⟩
    case round =>
      obtain ⟨kk,x,rfl,rfl,x0,x1,aC,hk,k1,k2,k3,aG⟩:=hrel;have t7:Hid (kk=1+x1L (P.take x.toNat)):=hk;clear hk
      by_cases ai:x<(P.length:Int)
      . obtain ⟨b,o,rfl,aM⟩:=bF (by intro h;subst h;simp at ai;omega)
        have aL:Below W.heap.size W wr:=hB.trans (aG.mono hB.size);obtain ⟨a1,c1',a2,c2',s',aK,aW,d0,d1,d2,d3,d4,d5,d6,d7⟩:=part_at (i:=x.toNat) aL aM (ba b o rfl) (by omega)
        have k4:=k3 ai;have aY:s'∈P:=List.mem_of_getElem? aK;have cK:=fun w hB=>ih s' aY W w _ _ (n-kk) aW hB (by omega) (by omega)
        clear ih aY
        go_wp2_with (go_at_call 91;fail)
        refine (cK _ (aL.alloc aL.size _)).mono ?_;rintro e w2 ⟨⟨c,rfl,g1,g2,g3⟩,hb⟩;have aB:Below w.heap.size w w2:=(aG.alloc aG.size _).trans (hb.mono (by have:=aG.size;simp <;> omega))
        clear hb
        by_cases hc:n<kk+c
        . clear g3;go_wp2;go_ret;exact ⟨⟨_,rfl,by omega,by omega,fun h=>by omega⟩,aB⟩
        . have hg:=g3 (by omega)
          have wE:Hid (c=scnt s'):=hg.2;have lG:=hg.1;clear hg g3;go_wp2
          go_roundw
          case rel =>
            refine ⟨_,_,rfl,rfl,by omega,by omega, ?_, ?_,by omega,by omega,by omega,aB⟩
            . rw [show (x+1).toNat=x.toNat+1 by omega]
              exact v1X aK aC lG
            . rw [show (x+1).toNat=x.toNat+1 by omega,y2B aK, <- wE.out]
              have:=t7.out
              omega
          case measure=>simp [intOf];omega
      . have:x=P.length:=by omega
        subst this;go_wp2;go_ret;refine ⟨⟨_,rfl,by omega,by omega,fun h=>?_⟩,aG⟩
        have hk:=t7.out;rw [show ((P.length:Int)).toNat=P.length by omega,List.take_length] at aC hk
        have yQ:=of_decide_eq_false cJ;have:pic.data.toList.length <= 200:=by rw [<- x2K];omega
        exact ⟨⟨by omega,by omega,this,aC⟩,by rw [hk];simp [scnt]⟩
  . go_enter Tryz.func91,Tryz.ntmps91
    go_wp2_with (go_at_call 63;fail)
    refine (fJ _ _ (by simp) (by simp) (by simp) (by simp) (by simp) (by simp)).mono ?_
    rintro e w1 ⟨rfl,hb⟩;have au:Below w.heap.size w w1:=(((Below.refl _ w).alloc (Nat.le_refl _) _).alloc (by simp) _).trans (hb.mono (by simp <;> omega))
    clear hb;go_wp2;go_ret;exact ⟨⟨_,rfl,by omega,by omega,fun h=>by omega⟩,au⟩
set_option maxHeartbeats 2000000 in
theorem few_any (s:Sh)(w:World)(dv pv:Value)(n:Int)(hs:ShAt w dv pv s)(n0:0 <= n)(n1:n <= 100) :
    Calls Tryz.prog 15 #[shV dv pv s.t s.g, .int .i64 n] w fun e w'=>(∃ c:Bool,e = .returned (.bool c)/\(c=true->okS s/\scnt s <= n))/\Below w.heap.size w w':=by
  obtain ⟨a,c,a',c',rfl,rfl⟩:=hs.slices;have hc:=fun w1 hB=>v6Y s w w1 _ _ n hs hB n0 n1;go_enter Tryz.func15,Tryz.ntmps15
  go_wp2_with (go_at_call 91;fail)
  refine (hc _ ((Below.refl _ w).alloc (Nat.le_refl _) _)).mono ?_;rintro e w1 ⟨⟨c,rfl,g1,g2,g3⟩,hb⟩;have au:Below w.heap.size w w1:=((Below.refl _ w).alloc (Nat.le_refl _) _).trans (hb.mono (by simp <;> omega))
  clear hb;go_wp2;go_ret;exact ⟨⟨_,rfl,fun h=>by have:=of_decide_eq_true h;have:=g3 (by omega);exact ⟨this.1,by omega⟩⟩,au⟩
end Go.Proofs
