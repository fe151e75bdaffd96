/-
  counted of the layout, walked: sR many nodes a valid shape has, and whether it is valid.;Check and Map of the reference;valid of the layout, walked.
-/
import Derived.Test.YtadehgdfijjikaaGreatDoorS4
set_option linter.all false
set_option maxHeartbeats 8000000
set_option maxRecDepth 100000
namespace Go.Proofs
open Go.RowKit Go.Yec Go.Shp
open Go.Xec (Glob)
theorem u2Q {w2 w w':World}{A:Nat}{v2 v3 v4 v5 v6 v7:Value}(hA:A<w2.heap.size) (h:w.cell? ⟨A,2,none⟩=some v2/\w.cell? ⟨A,3,none⟩=some v3/\w.cell? ⟨A,4,none⟩=some v4/\w.cell? ⟨A,5,none⟩=some v5/\w.cell? ⟨A,6,none⟩=some v6/\w.cell? ⟨A,7,none⟩=some v7/\Below w2.heap.size w2 w) (hb:Below w.heap.size w w'):w'.cell? ⟨A,2,none⟩=some v2/\w'.cell? ⟨A,3,none⟩=some v3/\w'.cell? ⟨A,4,none⟩=some v4/\w'.cell? ⟨A,5,none⟩=some v5/\w'.cell? ⟨A,6,none⟩=some v6/\w'.cell? ⟨A,7,none⟩=some v7/\Below w2.heap.size w2 w':=by{obtain⟨h2,h3,h4,h5,h6,h7,h8⟩:=h;have hs:=h8.size;exact⟨(hb.cell (p:=⟨A,2,none⟩) (by simp only;omega)).trans h2,(hb.cell (p:=⟨A,3,none⟩) (by simp only;omega)).trans h3,(hb.cell (p:=⟨A,4,none⟩) (by simp only;omega)).trans h4,(hb.cell (p:=⟨A,5,none⟩) (by simp only;omega)).trans h5,(hb.cell (p:=⟨A,6,none⟩) (by simp only;omega)).trans h6,(hb.cell (p:=⟨A,7,none⟩) (by simp only;omega)).trans h7,h8.trans (hb.mono hs)⟩}
theorem u2R:∀ (s:Sh) (W w:World) (dv pv:Value) (dm lv:Int),Glob W->ShAt W dv pv s->Below W.heap.size W w->okS s->scnt s <= 100->0 <= dm->dm <= 3->0 <= lv->lv <= 101 ->
    Calls Tryz.prog 179 #[shV dv pv s.t s.g, .int .i64 dm, .int .i64 lv] w fun e w'=>(∃ n l:Int,e = .returned (.tuple #[.int .i64 n, .int .i64 l, .bool (valS s dm lv)])/\1 <= n/\n <= scnt s/\0 <= l/\l <= 101/\(valS s dm lv=true->n=scnt s/\l <= 100))/\Below w.heap.size w w':=by
  intro s
  induction s using Sh.ind with
  | h D P t g ih =>
  intro W w dv pv dm lv hG hs hB ay cC d0 d1 l0 l1;unfold ShAt at hs;obtain ⟨hD,pa,pcap,rfl,bZ,bi⟩:=hs;obtain ⟨da,dcap,rfl,cB,db⟩:=id hD;obtain ⟨k,p,q,v,pic⟩:=t;simp only [Sh.t,Sh.g];obtain ⟨kr,dG,bE,bN⟩:=ay;have hx:=ShBox.here w (.slice da D.length dcap) (.slice pa P.length pcap) ⟨k,p,q,v,pic⟩ g;have tj:1 <= scnt (.node D P ⟨k,p,q,v,pic⟩ g):=x7P _;generalize hC:scnt (.node D P ⟨k,p,q,v,pic⟩ g)=C at cC tj;generalize hV:valS (.node D P ⟨k,p,q,v,pic⟩ g) dm lv=V;have hS:∀ b:Bool,b=(decide (dm+(D.length:Int) <= 3)&&decide (lv <= 100))->(b=true->dm+(D.length:Int) <= 3/\lv <= 100/\x4C (D.take (0:Int).toNat)=true)/\(b=false->V=false):=by
    intro b hb;refine ⟨fun h=>?_,fun h=>?_⟩
    . rw [hb,Bool.and_eq_true,decide_eq_true_eq,decide_eq_true_eq] at h;exact ⟨h.1,h.2,rfl⟩
    . rw [hb,Bool.and_eq_false_iff,decide_eq_false_iff_not,decide_eq_false_iff_not] at h;rw [<- hV];rcases h with h | h
      . cases P <;> (unfold valS;rw [decide_eq_false h];rfl)
      . cases P <;> (unfold valS;rw [decide_eq_false h];simp)
  have lO:∀ {i:Nat} {d:Int×Int}, D[i]? = some d->dimB d=false->V=false:=fun hd h=>by
    have:=z8L hd h
    rw [<- hV];cases P <;> (unfold valS;rw [this];simp)
  have gn:Hid (scnt (.node D P ⟨k,p,q,v,pic⟩ g)=C):=hC;have kN:Hid (valS (.node D P ⟨k,p,q,v,pic⟩ g) dm lv=V):=hV;have nG:Hid (∀ {i:Nat} {d:Int×Int}, D[i]? = some d->dimB d=false->V=false):=lO;have fV:Hid (∀ b:Bool,b=(decide (dm+(D.length:Int) <= 3)&&decide (lv <= 100))->(b=true->dm+(D.length:Int) <= 3/\lv <= 100/\x4C (D.take (0:Int).toNat)=true)/\(b=false->V=false)):=hS;clear hC hV lO hS;rcases Int.lt_or_le 3 (dm+(D.length:Int)) with h3 | h3
  . obtain rfl:V=false:=(fV.out false (by rw [decide_eq_false (show ¬ dm+(D.length:Int) <= 3 by omega)];rfl)).2 rfl
    go_enter Tryz.func179,Tryz.ntmps179;go_wp2
    go_loopw [9, 33] (fun vo vx wr=> ∃ (x:Int),vo = .bool false/\vx = .int .i64 x/\0 <= x/\x <= D.length/\Below (w.heap.size+1) (w.alloc (.cells #[.slice da D.length dcap, .slice pa P.length pcap, .int .i64 k, .int .i64 p, .int .i64 q, .bool v, .string pic, .bool g] 27)) wr) (fun _ vx _=>(D.length-intOf vx).toNat)
    case atStart=>exact ⟨0,rfl,rfl,by omega,by omega,Below.refl _ _⟩
    case round =>
      obtain ⟨x,rfl,rfl,x0,x1,aL⟩:=hrel;have bL:=hx.keep aL (Nat.lt_succ_self _);obtain ⟨cb,c0,c1,c2,c3,c4,c5,c6,c7⟩:=bL;have ak:Below w.heap.size w wr:=((Below.refl _ w).alloc (Nat.le_refl _) _).trans (aL.mono (by omega))
      have aH:Below W.heap.size W wr:=hB.trans (ak.mono hB.size);clear nG fV
      by_cases ai:x<(D.length:Int)
      . obtain ⟨b,o,cap,d,hv,hb,hd,e0,e1⟩:=z8M (i:=x.toNat) aH hD (by omega)
        obtain ⟨lo,hi⟩:=d;cases hv;clear hd ih bZ bi cB db;go_wp2
        go_roundw
        case rel=>exact ⟨_,rfl,rfl,by omega,by omega,aL.alloc (by omega) _⟩
        case measure=>simp [intOf];omega
      . have cz:x=D.length:=by omega
        subst cz;cases P with
        | nil =>
          clear ih bZ bi cB db hD hx kN gn bN;go_wp2
          go_region
          go_wp2
          go_ret3
          exact ⟨⟨_,_,rfl,by omega,by omega,by omega,by omega,fun h=>by cases h⟩,ak.drew⟩
        | cons p0 P0 =>
          obtain ⟨b,o,rfl,aC⟩:=bZ (by simp)
          obtain ⟨a1,c1',a2,c2',s',aF,aS,e0,e1,e2,e3,e4,e5,e6,e7⟩:=part_at (i:= 0) aH aC (bi b o rfl) (by simp)
          clear ih bZ bi cB db bN hx hD kN gn;simp only [Nat.zero_mul,Nat.add_zero] at e0 e1 e2 e3 e4 e5 e6 e7;have cu:(0:Int)<((p0::P0).length:Int):=by simp only [List.length_cons];omega
          generalize jI:p0::P0=P at *;clear jI aF;go_wp2
          (go_loopw [9, 12, 13, 95] (fun v9 v12 v13 vx wr2=>v9 = .bool false/\v12 = .int .i64 1/\v13 = .int .i64 lv/\vx = .int .i64 0/\wr2=wr) (fun _ _ _ _ _=> 0)
           case atStart=>exact ⟨rfl,rfl,rfl,rfl,rfl⟩
           case round =>
             obtain ⟨rfl,rfl,rfl,rfl,rfl⟩:=hrel;go_wp2
             go_ret3
             exact ⟨⟨_,_,rfl,by omega,by omega,by omega,by omega,fun h=>by cases h⟩,ak.alloc ak.size _⟩)
  all_goals
    go_enter Tryz.func179,Tryz.ntmps179;go_wp2
    go_loopw [9, 33] (fun vo vx wr=> ∃ (ok:Bool) (x:Int),vo = .bool ok/\vx = .int .i64 x/\0 <= x/\x <= D.length/\(ok=true->dm+(D.length:Int) <= 3/\lv <= 100/\x4C (D.take x.toNat)=true)/\(ok=false->V=false)/\Below (w.heap.size+1) (w.alloc (.cells #[.slice da D.length dcap, .slice pa P.length pcap, .int .i64 k, .int .i64 p, .int .i64 q, .bool v, .string pic, .bool g] 27)) wr) (fun _ vx _=>(D.length-intOf vx).toNat)
    case atStart =>
      first
        | exact ⟨false, 0,rfl,rfl,by omega,by omega,(fV.out _ (by rw [decide_eq_false (show ¬ dm+(D.length:Int) <= 3 by omega)];rfl)).1,(fV.out _ (by rw [decide_eq_false (show ¬ dm+(D.length:Int) <= 3 by omega)];rfl)).2,Below.refl _ _⟩
        | exact ⟨_, 0,rfl,rfl,by omega,by omega,(fV.out _ (by rw [decide_eq_true h3];rfl)).1,(fV.out _ (by rw [decide_eq_true h3];rfl)).2,Below.refl _ _⟩
    case round =>
      obtain ⟨ok,x,rfl,rfl,x0,x1,qB,qC,aL⟩:=hrel;have bL:=hx.keep aL (Nat.lt_succ_self _);obtain ⟨cb,c0,c1,c2,c3,c4,c5,c6,c7⟩:=bL;have ak:Below w.heap.size w wr:=((Below.refl _ w).alloc (Nat.le_refl _) _).trans (aL.mono (by omega))
      have aH:Below W.heap.size W wr:=hB.trans (ak.mono hB.size);have jq:Hid (ok=true->dm+(D.length:Int) <= 3/\lv <= 100/\x4C (D.take x.toNat)=true):=qB;have kV:Hid (ok=false->V=false):=qC;clear qB qC
      by_cases ai:x<(D.length:Int)
      . obtain ⟨b,o,cap,d,hv,hb,hd,e0,e1⟩:=z8M (i:=x.toNat) aH hD (by omega)
        obtain ⟨lo,hi⟩:=d;cases hv;have ti:Hid (D[x.toNat]? = some (lo,hi)):=hd;clear hd ih bZ bi cB db;have bH:Hid (∀ b:Bool,(b=(ok&&dimB (lo,hi)))->(b=true->dm+(D.length:Int) <= 3/\lv <= 100/\x4C (D.take (x+1).toNat)=true)/\(b=false->V=false)):=by
          intro b hb;refine ⟨fun h=>?_,fun h=>?_⟩
          . subst hb;rw [Bool.and_eq_true] at h;obtain ⟨u1,u2,u3⟩:=jq.out h.1;exact ⟨u1,u2,by rw [show (x+1).toNat=x.toNat+1 by omega];exact (z1M ti.out u3).trans h.2⟩
          . subst hb;cases ok
            . exact kV.out rfl
            . exact nG.out ti.out h
        cases ok
        . clear nG;go_wp2
          go_roundw
          case rel=>exact ⟨false,_,rfl,rfl,by omega,by omega,(bH.out false rfl).1,(bH.out false rfl).2,aL.alloc (by omega) _⟩
          case measure=>simp [intOf];omega
        . by_cases q0:lo < -32768
          . have hz:Hid (dimB (lo,hi)=false):=by show dimB (lo,hi)=false;unfold dimB;rw [decide_eq_false (by simp;omega)];rfl
            clear nG;go_wp2
            go_roundw
            case rel=>exact ⟨false,_,rfl,rfl,by omega,by omega,(bH.out false (by rw [hz.out];rfl)).1,(bH.out false (by rw [hz.out];rfl)).2,aL.alloc (by omega) _⟩
            case measure=>simp [intOf];omega
          by_cases q1:hi<lo
          . have hz:Hid (dimB (lo,hi)=false):=by show dimB (lo,hi)=false;unfold dimB;rw [decide_eq_false (show ¬ lo <= hi by omega)];simp
            clear nG;go_wp2
            go_roundw
            case rel=>exact ⟨false,_,rfl,rfl,by omega,by omega,(bH.out false (by rw [hz.out];rfl)).1,(bH.out false (by rw [hz.out];rfl)).2,aL.alloc (by omega) _⟩
            case measure=>simp [intOf];omega
          have hz:Hid (dimB (lo,hi)=decide (hi <= 32767)):=by show dimB (lo,hi)=_;unfold dimB;rw [decide_eq_true (show -32768 <= lo by omega),decide_eq_true (show lo <= hi by omega)];rfl
          clear nG;go_wp2
          go_roundw
          case rel=>exact ⟨_,_,rfl,rfl,by omega,by omega,(bH.out _ (by rw [hz.out];rfl)).1,(bH.out _ (by rw [hz.out];rfl)).2,aL.alloc (by omega) _⟩
          case measure=>simp [intOf];omega
      . have cz:x=D.length:=by omega
        subst cz;clear nG fV;cases ok
        . obtain rfl:V=false:=kV.out rfl;cases P with
          | nil =>
            clear ih bZ bi cB db hD hx jq kV kN gn bN;go_wp2
            go_region
            go_wp2
            go_ret3
            exact ⟨⟨_,_,rfl,by omega,by omega,by omega,by omega,fun h=>by cases h⟩,ak.drew⟩
          | cons p0 P0 =>
            obtain ⟨b,o,rfl,aC⟩:=bZ (by simp)
            obtain ⟨a1,c1',a2,c2',s',aF,aS,e0,e1,e2,e3,e4,e5,e6,e7⟩:=part_at (i:= 0) aH aC (bi b o rfl) (by simp)
            clear ih bZ bi cB db bN hx jq kV hD kN gn;simp only [Nat.zero_mul,Nat.add_zero] at e0 e1 e2 e3 e4 e5 e6 e7;have cu:(0:Int)<((p0::P0).length:Int):=by simp only [List.length_cons];omega
            generalize jI:p0::P0=P at *;clear jI aF;go_wp2
            (go_loopw [9, 12, 13, 95] (fun v9 v12 v13 vx wr2=>v9 = .bool false/\v12 = .int .i64 1/\v13 = .int .i64 lv/\vx = .int .i64 0/\wr2=wr) (fun _ _ _ _ _=> 0)
             case atStart=>exact ⟨rfl,rfl,rfl,rfl,rfl⟩
             case round =>
               obtain ⟨rfl,rfl,rfl,rfl,rfl⟩:=hrel;go_wp2
               go_ret3
               exact ⟨⟨_,_,rfl,by omega,by omega,by omega,by omega,fun h=>by cases h⟩,ak.alloc ak.size _⟩)
        . obtain ⟨zk,ic,cG⟩:=jq.out rfl;rcases Int.lt_or_le 3 (dm+(D.length:Int)) with dd | -
          . exfalso;omega
          rw [show ((D.length:Int)).toNat=D.length by omega,List.take_length] at cG
          cases P with
          | nil =>
            have dS:V=(tyS k p q v pic.data.toList&&(!g || decide (k=4))):=by
              rw [<- kN.out];unfold valS tyB;rw [decide_eq_true zk,decide_eq_true ic,cG];rfl
            have wZ:C=1:=by rw [<- gn.out];simp [scnt,x1L]
            have kM:Hid (V=(tyS k p q v pic.data.toList&&(!g || decide (k=4)))):=dS
            have rX:=x1C aH hG;clear ih bZ bi cB db hD hx jq kV dS kN gn cG bN;have fO:=fun w hg=>c15 (k:=k) (p:=p) (q:=q) (v:=v) bE w hg;cases hT:tyS k p q v pic.data.toList
            . rw [hT] at fO;simp only [cond_false] at fO;obtain rfl:V=false:=by rw [kM.out,hT];rfl
              clear hT kM;go_wp2;have gZ:(undef:Value) = .tuple #[]:=rfl
              first
                | (go_region_with (first
                | (go_at_call 84;refine (fO _ (x1C ((Below.refl wr.heap.size wr).drew) rX)).mono ?_;rintro e w' ⟨rfl,bR⟩;have dp:Below wr.heap.size wr w':=((Below.refl wr.heap.size wr).drew).trans bR;obtain ⟨z2,z3,z4,z5,z6,z7, -⟩:=u2Q cb ⟨c2,c3,c4,c5,c6,c7,(Below.refl wr.heap.size wr)⟩ dp)))
                | fail "x"
              clear gZ;go_wp2
              go_ret3
              exact ⟨⟨_,_,rfl,by omega,by omega,by omega,by omega,fun h=>by cases h⟩,ak.trans (dp.mono ak.size)⟩
            . rw [hT] at fO;simp only [cond_true] at fO;have rR:V=(!g || decide (k=4)):=by rw [kM.out,hT];rfl
              have gm:Hid (V=(!g || decide (k=4))):=rR
              clear hT kM rR;go_wp2;have gZ:(undef:Value) = .tuple #[]:=rfl;cases g
              . obtain rfl:V=true:=gm.out;clear gm
                first
                  | (go_region_with (first
                  | (go_at_call 84;refine (fO _ (x1C ((Below.refl wr.heap.size wr).drew) rX)).mono ?_;rintro e w' ⟨rfl,bR⟩;have dp:Below wr.heap.size wr w':=((Below.refl wr.heap.size wr).drew).trans bR;obtain ⟨z2,z3,z4,z5,z6,z7, -⟩:=u2Q cb ⟨c2,c3,c4,c5,c6,c7,(Below.refl wr.heap.size wr)⟩ dp)))
                  | fail "x"
                clear gZ;go_wp2
                go_ret3
                exact ⟨⟨_,_,rfl,by omega,by omega,by omega,by omega,by first | exact fun _=>⟨by omega,by omega⟩ | exact ⟨by omega,by omega⟩⟩,ak.trans (dp.mono ak.size)⟩
              . have rQ:V=(k==4):=gm.out;clear gm
                first
                  | (go_region_with (first
                  | (go_at_call 84;refine (fO _ (x1C ((Below.refl wr.heap.size wr).drew) rX)).mono ?_;rintro e w' ⟨rfl,bR⟩;have dp:Below wr.heap.size wr w':=((Below.refl wr.heap.size wr).drew).trans bR;obtain ⟨z2,z3,z4,z5,z6,z7, -⟩:=u2Q cb ⟨c2,c3,c4,c5,c6,c7,(Below.refl wr.heap.size wr)⟩ dp)))
                  | fail "x"
                clear gZ;go_wp2
                go_ret3
                subst rQ;exact ⟨⟨_,_,rfl,by omega,by omega,by omega,by omega,by first | exact fun _=>⟨by omega,by omega⟩ | exact ⟨by omega,by omega⟩⟩,ak.trans (dp.mono ak.size)⟩
          | cons p0 P0 =>
            have dS:V=((ty0 ⟨k,p,q,v,pic⟩&&!g)&&(valS p0 (dm+D.length) (lv+1)&&valL P0 (dm+D.length) (lv+1))):=by
              rw [<- kN.out];show valS (.node D (p0::P0) ⟨k,p,q,v,pic⟩ g) dm lv=_;rw [valS,decide_eq_true zk,decide_eq_true ic,cG];rfl
            by_cases h0:k=0/\p=0/\q=0/\v=false/\pic=⟨#[]⟩/\g=false
            . obtain ⟨rfl,rfl,rfl,rfl,rfl,rfl⟩:=h0;have nN:V=valL (p0::P0) (dm+D.length) (lv+1):=by
                rw [dS,ty0_iff.2 ⟨rfl,rfl,rfl,rfl,rfl⟩,valL];rfl
              have dV:Hid (valL (p0::P0) (dm+D.length) (lv+1)=true->V=true):=fun h=>nN.trans h;have fe:∀ s'∈p0::P0,valS s' (dm+D.length) (lv+1)=false->V=false:=fun s' hm h=>nN.trans (u3Y hm h);have cu:(0:Int)<((p0::P0).length:Int):=by simp only [List.length_cons];omega
              have wZ:C=1+x1L (p0::P0):=by rw [<- gn.out,scnt]
              clear dS nN kN gn jq kV;generalize jI:p0::P0=P at *;clear jI;have jm:Hid (C=1+x1L P):=wZ;clear wZ;go_wp2
              go_loopw [9, 12, 13, 95] (fun v9 v12 v13 vx wr2=> ∃ (ok:Bool) (nn ll x:Int),v9 = .bool ok/\v12 = .int .i64 nn/\v13 = .int .i64 ll/\vx = .int .i64 x/\0 <= x/\x <= P.length/\1 <= nn/\nn <= 1+x1L (P.take x.toNat)/\0 <= ll/\ll <= 101/\(ok=false->V=false/\nn <= C)/\(ok=true->valL (P.take x.toNat) (dm+D.length) (lv+1)=true/\nn=1+x1L (P.take x.toNat)/\ll <= 100)/\Below w.heap.size w wr2) (fun _ _ _ vx _=>(P.length-intOf vx).toNat)
              case atStart=>exact ⟨_, 1,lv, 0,rfl,rfl,rfl,rfl,by omega,by omega,by omega,by simp [x1L],by omega,by omega,(fun h=>by cases h),(fun _=>⟨rfl,by simp [x1L],by omega⟩),ak⟩
              case round =>
                clear aL ak aH;obtain ⟨ok,nn,ll,x,rfl,rfl,rfl,rfl,x0,x1,n1,n2,ll0,ll1,xW,sS,aL⟩:=hrel;have aH:Below W.heap.size W wr:=hB.trans (aL.mono hB.size);have iH:Hid (ok=false->V=false/\nn <= C):=xW;have iD:Hid (ok=true->valL (P.take x.toNat) (dm+D.length) (lv+1)=true/\nn=1+x1L (P.take x.toNat)/\ll <= 100):=sS;have qN:Hid (nn <= 1+x1L (P.take x.toNat)):=n2;clear xW sS n2;have bS:x1L (P.take x.toNat) <= x1L P:=by
                  have h1:=x6F (P.take x.toNat) (P.drop x.toNat);rw [List.take_append_drop] at h1
                  have:=x9H (P.drop x.toNat)
                  omega
                have Ca:nn <= C:=by have:=qN.out;have:=jm.out;omega
                clear bS
                by_cases ai:x<(P.length:Int)
                . obtain ⟨b,o,rfl,aC⟩:=bZ (by intro h;subst h;simp at ai;omega)
                  obtain ⟨a1,c1',a2,c2',s',aF,aS,e0,e1,e2,e3,e4,e5,e6,e7⟩:=part_at (i:=x.toNat) aH aC (bi b o rfl) (by omega)
                  have bg:s'∈P:=List.mem_of_getElem? aF;have df:=fe s' bg;cases ok
                  . obtain ⟨wF, -⟩:=iH.out rfl;subst wF;clear ih fe df iD iH qN dV bZ bi cB db bN hD hx aF aS bg;go_wp2
                    go_ret3
                    exact ⟨⟨_,_,rfl,by omega,by omega,by omega,by omega,fun h=>by cases h⟩,aL.alloc aL.size _⟩
                  . obtain ⟨gu,cg,lG⟩:=iD.out rfl;have eK:=y5Y s' bg;have Bc:=x7P s';have BH:=jm.out;have cj:=fun w hB=>ih s' bg W w _ _ (dm+D.length) (lv+1) hG aS hB (y0V bN s' bg) (by omega) (by omega) (by omega) (by omega) (by omega)
                    have aG:=y2B aF;have fv:x1L (P.take (x.toNat+1)) <= x1L P:=by
                      have h1:=x6F (P.take (x.toNat+1)) (P.drop (x.toNat+1));rw [List.take_append_drop] at h1
                      have:=x9H (P.drop (x.toNat+1))
                      omega
                    have pN:Hid (x1L (P.take (x.toNat+1)) <= x1L P/\x1L (P.take (x.toNat+1))=x1L (P.take x.toNat)+scnt s'):=⟨fv,aG⟩;have eE:Hid (valL (P.take x.toNat) (dm+D.length) (lv+1)=true):=gu;have ki:Hid (nn=1+x1L (P.take x.toNat)):=cg;have uG:Hid (P[x.toNat]? = some s'):=aF;have kh:nn <= 100:=by omega
                    have Co:scnt s' <= 99:=by omega
                    clear ih bg fe fv aG bN cB db hD bZ bi gu cg aF aS BH iH iD
                    go_wp2_with (go_at_call 179;fail)
                    refine (cj _ (aH.alloc aH.size _)).mono ?_;rintro e w2 ⟨⟨m,l,rfl,m1,m2,l2,l3,pD⟩,hb⟩;have Cc:m <= 99:=by omega
                    have aD:=(aL.alloc aL.size _).trans (hb.mono (by have:=aL.size;simp;omega))
                    clear hb cj e0 e1 e2 e3 e4 e5 e6 e7;have hm:Hid (valS s' (dm+D.length) (lv+1)=true->m=scnt s'/\l <= 100):=pD;clear pD;cases gX:valS s' (dm+D.length) (lv+1)
                    . have wF:=df gX;subst wF;clear df gX;go_wp2
                      go_roundw
                      case rel =>
                        have:=pN.out
                        have:=ki.out
                        have:=jm.out
                        refine ⟨false,_,_,_,rfl,rfl,rfl,rfl,by omega,by omega,by omega, ?_,by omega,by omega,(fun _=>⟨by simp,by omega⟩),(fun h=>by cases h),aD⟩
                        rw [show (x+1).toNat=x.toNat+1 by omega]
                        omega
                      case measure=>simp [intOf];omega
                    . have eh:=hm.out gX;have mo:Hid (valL (P.take (x.toNat+1)) (dm+D.length) (lv+1)=true):=(z5J uG.out eE.out).trans gX;have gG:Hid (m=scnt s'):=eh.1;have Ci:=eh.2;clear df gX eh;go_wp2
                      go_roundw
                      case rel =>
                        have:=pN.out
                        have:=ki.out
                        have:=jm.out
                        have:=gG.out
                        refine ⟨true,_,_,_,rfl,rfl,rfl,rfl,by omega,by omega,by omega, ?_,by omega,by omega,(fun h=>by cases h),(fun _=>⟨?_, ?_,by omega⟩),aD⟩
                        . rw [show (x+1).toNat=x.toNat+1 by omega]
                          omega
                        . rw [show (x+1).toNat=x.toNat+1 by omega]
                          exact mo.out
                        . rw [show (x+1).toNat=x.toNat+1 by omega]
                          omega
                      case measure=>simp [intOf];omega
                . have cz:x=P.length:=by omega
                  subst cz;clear ih fe bZ bi cB db bN hD hx;have nO:ok=true->V=true/\nn=C/\ll <= 100:=fun h=>by
                    obtain ⟨u1,u2,u3⟩:=iD.out h;rw [show ((P.length:Int)).toNat=P.length by omega,List.take_length] at u1 u2
                    have:=jm.out
                    exact ⟨dV.out u1,by omega,u3⟩
                  have wG:V=ok:=by
                    cases ok
                    . exact (iH.out rfl).1
                    . exact (nO rfl).1
                  have wH:Hid (ok=true->V=true/\nn=C/\ll <= 100):=nO;subst wG;clear iH iD nO dV;go_wp2
                  go_ret3
                  exact ⟨⟨_,_,rfl,by omega,by omega,by omega,by omega,fun h=>(wH.out h).2⟩,aL⟩
            . obtain rfl:V=false := by
                rw [dS];cases e:ty0 ⟨k,p,q,v,pic⟩ with
                | false=>rfl
                | true =>
                  cases g
                  . have:=ty0_iff.1 e
                    exact absurd ⟨this.1,this.2.1,this.2.2.1,this.2.2.2.1,this.2.2.2.2,rfl⟩ h0
                  . rfl
              obtain ⟨b,o,rfl,aC⟩:=bZ (by simp)
              obtain ⟨a1,c1',a2,c2',s',aF,aS,e0,e1,e2,e3,e4,e5,e6,e7⟩:=part_at (i:= 0) aH aC (bi b o rfl) (by simp)
              have hH:Hid (¬ (k=0/\p=0/\q=0/\v=false/\pic=⟨#[]⟩/\g=false)):=h0;clear ih bZ bi cB db bN hx jq kV hD kN gn dS h0;simp only [Nat.zero_mul,Nat.add_zero] at e0 e1 e2 e3 e4 e5 e6 e7;have cu:(0:Int)<((p0::P0).length:Int):=by simp only [List.length_cons];omega
              generalize jI:p0::P0=P at *;clear jI aF;cases g
              all_goals
                go_wp2
                all_goals first
                  | (exfalso
                     refine hH.out ⟨by assumption,by assumption,by assumption,Bool.eq_false_iff.2 (by assumption),z8U (by assumption),by first | rfl | trivial⟩)
                  | (go_loopw [9, 12, 13, 95] (fun v9 v12 v13 vx wr2=>v9 = .bool false/\v12 = .int .i64 1/\v13 = .int .i64 lv/\vx = .int .i64 0/\wr2=wr) (fun _ _ _ _ _=> 0)
                     case atStart=>exact ⟨rfl,rfl,rfl,rfl,rfl⟩
                     case round =>
                       obtain ⟨rfl,rfl,rfl,rfl,rfl⟩:=hrel;go_wp2
                       go_ret3
                       exact ⟨⟨_,_,rfl,by omega,by omega,by omega,by omega,fun h=>by cases h⟩,ak.alloc ak.size _⟩)
open Go.Deep
noncomputable def chk (s:Sh):Int:=cond (valS s 0 1) (match mpS s with|some _=>0|none=>2) 90
noncomputable def mapR (s:Sh):Un×Int:=cond (valS s 0 1) (match mpS s with|some n=>(n.u,0)|none=>(⟨0,0,0⟩,2)) (⟨0,0,0⟩,90)
theorem z5V (s:Sh)(W w:World)(dv pv:Value)(hG:Glob W)(hs:ShAt W dv pv s)(hB:Below W.heap.size W w)(ay:okS s)(cC:scnt s<=100):Calls Tryz.prog 23 #[shV dv pv s.t s.g] w fun e w'=>e=.returned (.int .i64 (chk s))/\Below w.heap.size w w':=by{have hn:=fun w hB=>v3K s W w dv pv 0 1 hG hs hB ay cC (by omega) (by omega) (by omega) (by omega);have hu:=fun hv w hB=>(v6R s W 0 1 hG ay (by omega) hv w dv pv hs hB).2;have tj:=x7P s;obtain⟨a1,c1,a2,c2,rfl,rfl⟩:=hs.slices;have hx:=ShBox.here w (.slice a1 s.D.length c1) (.slice a2 s.P.length c2) s.t s.g;have am:Below w.heap.size w (w.alloc (.cells #[.slice a1 s.D.length c1,.slice a2 s.P.length c2,.int .i64 s.t.k,.int .i64 s.t.p,.int .i64 s.t.q,.bool s.t.v,.string s.t.pic,.bool s.g] 27)):=(Below.refl _ w).alloc (Nat.le_refl _) _;generalize hC:chk s=C;have gn:Hid (chk s=C):=hC;clear hC;go_enter Tryz.func23,Tryz.ntmps23;go_wp2_with (go_at_call 96;fail);refine(hn _ (hB.trans (am.mono hB.size))).mono ?_;rintro e w2 ⟨rfl,hb⟩;have aU:=hx.below hb;have aD:=am.trans (hb.mono am.size);clear hb hn hx;obtain⟨l0,k0,k1,k2,k3,k4,k5,k6,k7⟩:=id aU;cases hv:valS s 0 1;·{(obtain rfl:C=90:=by rw[<-gn.out,chk,hv];rfl);clear hv hu gn;go_wp2;go_ret;exact⟨rfl,aD⟩};·{have iu:=fun w hB=>hu hv w hB;have kR:Hid ((match mpS s with|some _=>0|none=>2)=C):=by{show _=C;rw[<-gn.out,chk,hv];rfl};clear hu hv gn;go_wp2_with (go_at_call 94;fail);refine(iu _ (hB.trans (aD.mono hB.size))).mono ?_;rintro e w3 ⟨dw,hb⟩;have aZ:=aD.trans (hb.mono aD.size);clear hb iu k0 k1 k2 k3 k4 k5 k6 k7;cases hm:mpS s with|none=>{(rw[hm]at dw;obtain⟨u,rfl⟩:=dw;obtain rfl:C=2:=by rw[<-kR.out,hm]);clear hm kR;go_wp2;go_ret;exact⟨rfl,aZ.alloc aZ.size _⟩}|some n=>{(rw[hm]at dw;obtain rfl:=dw;obtain rfl:C=0:=by rw[<-kR.out,hm]);clear hm kR;go_wp2;go_ret;exact⟨rfl,aZ.alloc aZ.size _⟩}}}
theorem refMap_any (s:Sh)(W w:World)(dv pv:Value)(hG:Glob W)(hs:ShAt W dv pv s)(hB:Below W.heap.size W w)(ay:okS s)(cC:scnt s<=100):Calls Tryz.prog 33 #[shV dv pv s.t s.g] w fun e w'=>e=.returned (.tuple #[unV (mapR s).1,.int .i64 (mapR s).2])/\Below w.heap.size w w':=by{have hn:=fun w hB=>z5V s W w dv pv hG hs hB ay cC;have hu:=fun hv w hB=>(v6R s W 0 1 hG ay (by omega) hv w dv pv hs hB).2;obtain⟨a1,c1,a2,c2,rfl,rfl⟩:=hs.slices;have hx:=(ShBox.here w (.slice a1 s.D.length c1) (.slice a2 s.P.length c2) s.t s.g).alloc (.cells #[.int .i64 0,.int .i64 0,.int .i64 0] 42);have eF:UBox ((w.alloc (.cells #[.slice a1 s.D.length c1,.slice a2 s.P.length c2,.int .i64 s.t.k,.int .i64 s.t.p,.int .i64 s.t.q,.bool s.t.v,.string s.t.pic,.bool s.g] 27)).alloc (.cells #[.int .i64 0,.int .i64 0,.int .i64 0] 42)) (w.heap.size+1) (.int .i64 0) (.int .i64 0) (.int .i64 0):=by{simpa using UBox.here (w.alloc (.cells #[.slice a1 s.D.length c1,.slice a2 s.P.length c2,.int .i64 s.t.k,.int .i64 s.t.p,.int .i64 s.t.q,.bool s.t.v,.string s.t.pic,.bool s.g] 27)) (.int .i64 0) (.int .i64 0) (.int .i64 0) 42};have am:Below w.heap.size w ((w.alloc (.cells #[.slice a1 s.D.length c1,.slice a2 s.P.length c2,.int .i64 s.t.k,.int .i64 s.t.p,.int .i64 s.t.q,.bool s.t.v,.string s.t.pic,.bool s.g] 27)).alloc (.cells #[.int .i64 0,.int .i64 0,.int .i64 0] 42)):=((Below.refl _ w).alloc (Nat.le_refl _) _).alloc (by simp) _;have cQ:∃(u:Un) (er:Int),mapR s=(u,er)/\chk s=er/\(er≠0->u=⟨0,0,0⟩)/\(er=0->valS s 0 1=true/\∃n,mpS s=some n/\n.u=u):=by{unfold mapR chk;cases hv:valS s 0 1;·{exact⟨_,_,rfl,rfl,fun _=>rfl,fun h=>by cases h⟩};·{cases hm:mpS s with|none=>{exact⟨_,_,rfl,rfl,fun _=>rfl,fun h=>by cases h⟩}|some n=>{exact⟨_,_,rfl,rfl,fun h=>absurd rfl h,fun _=>⟨rfl,n,rfl,rfl⟩⟩}}};obtain⟨⟨us,ub,ua⟩,er,dU,yy,kH,oN⟩:=cQ;rw[dU];rw[yy]at hn;clear dU yy;go_enter Tryz.func33,Tryz.ntmps33;go_wp2_with (go_at_call 23;fail);refine(hn _ (hB.trans (am.mono hB.size))).mono ?_;rintro e w2 ⟨rfl,hb⟩;have aU:=hx.below hb;have cJ:=eF.below hb;have aD:=am.trans (hb.mono am.size);have aW:=aD.size;clear hb hn hx eF am;obtain⟨l0,k0,k1,k2,k3,k4,k5,k6,k7⟩:=id aU;obtain⟨l1,m0,m1,m2,m3,m4,m5⟩:=id cJ;by_cases fM:er=0;·{obtain⟨hv,n,hm,xZ⟩:=oN fM;have iu:=fun w hB=>hu hv w hB;subst fM;clear kH oN hu hv;go_wp2_with (go_at_call 94;fail);refine(iu _ (hB.trans (aD.mono hB.size))).mono ?_;rintro e w3 ⟨dw,hb⟩;rw[hm]at dw;obtain rfl:=dw;rw[xZ];have dy:=cJ.below hb;have aZ:=aD.trans (hb.mono aD.size);have cK:=aZ.size;clear hb iu hm xZ k0 k1 k2 k3 k4 k5 k6 k7 m0 m1 m2 m3 m4 m5 l0 l1;obtain⟨l1,m0,m1,m2,m3,m4,m5⟩:=id dy;go_wp2;refine bodyPost_ret (v:=.tuple #[.agg #[.int .i64 us,.int .i64 ub,.int .i64 ua],.int .i64 0]) (by rw[results_cell_tmp rfl];go_simp) rfl ⟨rfl,(x1W aZ (by omega)).alloc (by simp;omega) _⟩};·{have jt:=kH fM;cases jt;clear kH oN hu;go_wp2;refine bodyPost_ret (v:=.tuple #[.agg #[.int .i64 0,.int .i64 0,.int .i64 0],.int .i64 er]) (by rw[results_cell_tmp rfl];go_simp) rfl ⟨rfl,x1W aD (by omega)⟩}}
theorem v1G (s:Sh)(W w:World)(dv pv:Value)(hG:Glob W)(hs:ShAt W dv pv s)(hB:Below W.heap.size W w)(ay:okS s)(cC:scnt s<=100):Calls Tryz.prog 148 #[shV dv pv s.t s.g] w fun e w'=>e=.returned (.bool (valS s 0 1))/\Below w.heap.size w w':=by{have hn:=fun w hB=>u2R s W w dv pv 0 1 hG hs hB ay cC (by omega) (by omega) (by omega) (by omega);obtain⟨a1,c1,a2,c2,rfl,rfl⟩:=hs.slices;have am:Below w.heap.size w (w.alloc (.cells #[.slice a1 s.D.length c1,.slice a2 s.P.length c2,.int .i64 s.t.k,.int .i64 s.t.p,.int .i64 s.t.q,.bool s.t.v,.string s.t.pic,.bool s.g] 27)):=(Below.refl _ w).alloc (Nat.le_refl _) _;generalize valS s 0 1=V at*;go_enter Tryz.func148,Tryz.ntmps148;go_wp2_with (go_at_call 179;fail);(refine(hn _ (hB.trans (am.mono hB.size))).mono ?_;rintro e w2 ⟨⟨n,l,rfl,n1,n2,l1,l2,hv⟩,hb⟩;have aD:=am.trans (hb.mono am.size);clear hb hn;have dq:n<=400:=by omega);cases V;·{clear hv;go_wp2;go_ret;exact⟨rfl,aD⟩};·{have hl:=(hv rfl).2;clear hv;go_wp2;go_ret;exact⟨rfl,aD⟩}}
end Go.Proofs
