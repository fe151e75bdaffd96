/-
  counted of the layout, walked: pQ many nodes a valid shape has, and whether it is valid.;Check and Map of the reference;valid of the layout, walked.;A block of cells of one's own: read and stored into.;Rows that a call owns: appended to, kept.;Lists of numbers and of shapes in memory;slices.Equal of numbers, walked.;NODES IN MEMORY: what mapped has made of a shape, read off a world;the blocks that it lies in;carried to later worlds.;An append to a row of one's own: where the row lies behind it.
-/
import Derived.Test.YtadehgdfijjikaaGreatDoorS4
import Derived.Laws.AppendOwn
import Derived.OwnWalk
import Derived.Deep.RegionLaw
import Derived.Laws.OwnMore
set_option linter.all false
set_option maxRecDepth 100000
namespace Go.Proofs
open Go.RowKit Go.Yec Go.Shp
open Go.Xec (Glob)
theorem u2Q {w2 w w':World}{A:Nat}{v2 v3 v4 v5 v6 v7:Value}(hA:A<w2.heap.size)
    (h:w.cell? ⟨A, 2,none⟩=some v2/\w.cell? ⟨A, 3,none⟩=some v3/\w.cell? ⟨A, 4,none⟩=some v4/\w.cell? ⟨A, 5,none⟩=some v5/\w.cell? ⟨A, 6,none⟩=some v6/\w.cell? ⟨A, 7,none⟩=some v7/\Below w2.heap.size w2 w) (hb:Below w.heap.size w w') :
    w'.cell? ⟨A, 2,none⟩=some v2/\w'.cell? ⟨A, 3,none⟩=some v3/\w'.cell? ⟨A, 4,none⟩=some v4/\w'.cell? ⟨A, 5,none⟩=some v5/\w'.cell? ⟨A, 6,none⟩=some v6/\w'.cell? ⟨A, 7,none⟩=some v7/\Below w2.heap.size w2 w':=by
  obtain ⟨h2,h3,h4,h5,h6,h7,h8⟩:=h;have hs:=h8.size;exact ⟨(hb.cell (p:=⟨A, 2,none⟩) (by simp only;omega)).trans h2,(hb.cell (p:=⟨A, 3,none⟩) (by simp only;omega)).trans h3,(hb.cell (p:=⟨A, 4,none⟩) (by simp only;omega)).trans h4,(hb.cell (p:=⟨A, 5,none⟩) (by simp only;omega)).trans h5,(hb.cell (p:=⟨A, 6,none⟩) (by simp only;omega)).trans h6,(hb.cell (p:=⟨A, 7,none⟩) (by simp only;omega)).trans h7,h8.trans (hb.mono hs)⟩
set_option maxHeartbeats 8000000 in
theorem u2R:∀ (s:Sh) (W w:World) (dv pv:Value) (dm lv:Int),Glob W->ShAt W dv pv s->Below W.heap.size W w->okS s->scnt s <= 100->0 <= dm->dm <= 3->0 <= lv->lv <= 101 ->
    Calls Tryz.prog 179 #[shV dv pv s.t s.g, .int .i64 dm, .int .i64 lv] w fun e w'=>(∃ n l:Int,e = .returned (.tuple #[.int .i64 n, .int .i64 l, .bool (valS s dm lv)])/\1 <= n/\n <= scnt s/\0 <= l/\l <= 101/\(valS s dm lv=true->n=scnt s/\l <= 100))/\Below w.heap.size w w':=by
  intro s
  induction s using Sh.ind with
  | h D P t g ih =>
  intro W w dv pv dm lv hG hs hB aC dW d0 d1 l0 l1;unfold ShAt at hs;obtain ⟨hD,pa,pcap,rfl,bF,ba⟩:=hs;obtain ⟨da,dcap,rfl,co,cI⟩:=id hD;obtain ⟨k,p,q,v,pic⟩:=t;simp only [Sh.t,Sh.g];obtain ⟨lu,eJ,bA,bH⟩:=aC;have hx:=ShBox.here w (.slice da D.length dcap) (.slice pa P.length pcap) ⟨k,p,q,v,pic⟩ g;have rW:1 <= scnt (.node D P ⟨k,p,q,v,pic⟩ g):=x7P _;generalize hC:scnt (.node D P ⟨k,p,q,v,pic⟩ g)=C at dW rW;generalize hV:valS (.node D P ⟨k,p,q,v,pic⟩ g) dm lv=V;have hS:∀ b:Bool,b=(decide (dm+(D.length:Int) <= 3)&&decide (lv <= 100))->(b=true->dm+(D.length:Int) <= 3/\lv <= 100/\x4C (D.take (0:Int).toNat)=true)/\(b=false->V=false):=by
    intro b hb;refine ⟨fun h=>?_,fun h=>?_⟩
    . rw [hb,Bool.and_eq_true,decide_eq_true_eq,decide_eq_true_eq] at h;exact ⟨h.1,h.2,rfl⟩
    . rw [hb,Bool.and_eq_false_iff,decide_eq_false_iff_not,decide_eq_false_iff_not] at h;rw [<- hV];rcases h with h | h
      . cases P <;> (unfold valS;rw [decide_eq_false h];rfl)
      . cases P <;> (unfold valS;rw [decide_eq_false h];simp)
  have kq:∀ {i:Nat} {d:Int×Int}, D[i]? = some d->dimB d=false->V=false:=fun hd h=>by
    have:=z8L hd h
    rw [<- hV];cases P <;> (unfold valS;rw [this];simp)
  have fG:Hid (scnt (.node D P ⟨k,p,q,v,pic⟩ g)=C):=hC;have jA:Hid (valS (.node D P ⟨k,p,q,v,pic⟩ g) dm lv=V):=hV;have lU:Hid (∀ {i:Nat} {d:Int×Int}, D[i]? = some d->dimB d=false->V=false):=kq;have fl:Hid (∀ b:Bool,b=(decide (dm+(D.length:Int) <= 3)&&decide (lv <= 100))->(b=true->dm+(D.length:Int) <= 3/\lv <= 100/\x4C (D.take (0:Int).toNat)=true)/\(b=false->V=false)):=hS;clear hC hV kq hS;rcases Int.lt_or_le 3 (dm+(D.length:Int)) with h3 | h3
  . obtain rfl:V=false:=(fl.out false (by rw [decide_eq_false (show ¬ dm+(D.length:Int) <= 3 by omega)];rfl)).2 rfl
    go_enter Tryz.func179,Tryz.ntmps179;go_wp2
    go_loopw [9, 33] (fun vo vx wr=> ∃ (x:Int),vo = .bool false/\vx = .int .i64 x/\0 <= x/\x <= D.length/\Below (w.heap.size+1) (w.alloc (.cells #[.slice da D.length dcap, .slice pa P.length pcap, .int .i64 k, .int .i64 p, .int .i64 q, .bool v, .string pic, .bool g] 27)) wr) (fun _ vx _=>(D.length-intOf vx).toNat)
    case atStart=>exact ⟨0,rfl,rfl,by omega,by omega,Below.refl _ _⟩
    case round =>
      obtain ⟨x,rfl,rfl,x0,x1,aG⟩:=hrel;have cA:=hx.keep aG (Nat.lt_succ_self _);obtain ⟨cC,c0,c1,c2,c3,c4,c5,c6,c7⟩:=cA;have ak:Below w.heap.size w wr:=((Below.refl _ w).alloc (Nat.le_refl _) _).trans (aG.mono (by omega))
      have aL:Below W.heap.size W wr:=hB.trans (ak.mono hB.size);clear lU fl
      by_cases ai:x<(D.length:Int)
      . obtain ⟨b,o,cap,d,hv,hb,hd,e0,e1⟩:=z8M (i:=x.toNat) aL hD (by omega)
        obtain ⟨lo,hi⟩:=d;cases hv;clear hd ih bF ba co cI;go_wp2
        go_roundw
        case rel=>exact ⟨_,rfl,rfl,by omega,by omega,aG.alloc (by omega) _⟩
        case measure=>simp [intOf];omega
      . have dy:x=D.length:=by omega
        subst dy;cases P with
        | nil =>
          clear ih bF ba co cI hD hx jA fG bH;go_wp2
          go_region
          go_wp2
          go_ret3
          exact ⟨⟨_,_,rfl,by omega,by omega,by omega,by omega,fun h=>by cases h⟩,ak.drew⟩
        | cons p0 P0 =>
          obtain ⟨b,o,rfl,aM⟩:=bF (by simp)
          obtain ⟨a1,c1',a2,c2',s',aK,aW,e0,e1,e2,e3,e4,e5,e6,e7⟩:=part_at (i:= 0) aL aM (ba b o rfl) (by simp)
          clear ih bF ba co cI bH hx hD jA fG;simp only [Nat.zero_mul,Nat.add_zero] at e0 e1 e2 e3 e4 e5 e6 e7;have bL:(0:Int)<((p0::P0).length:Int):=by simp only [List.length_cons];omega
          generalize iR:p0::P0=P at *;clear iR aK;go_wp2
          (go_loopw [9, 12, 13, 95] (fun v9 v12 v13 vx wr2=>v9 = .bool false/\v12 = .int .i64 1/\v13 = .int .i64 lv/\vx = .int .i64 0/\wr2=wr) (fun _ _ _ _ _=> 0)
           case atStart=>exact ⟨rfl,rfl,rfl,rfl,rfl⟩
           case round =>
             obtain ⟨rfl,rfl,rfl,rfl,rfl⟩:=hrel;go_wp2
             go_ret3
             exact ⟨⟨_,_,rfl,by omega,by omega,by omega,by omega,fun h=>by cases h⟩,ak.alloc ak.size _⟩)
  all_goals
    go_enter Tryz.func179,Tryz.ntmps179;go_wp2
    go_loopw [9, 33] (fun vo vx wr=> ∃ (ok:Bool) (x:Int),vo = .bool ok/\vx = .int .i64 x/\0 <= x/\x <= D.length/\(ok=true->dm+(D.length:Int) <= 3/\lv <= 100/\x4C (D.take x.toNat)=true)/\(ok=false->V=false)/\Below (w.heap.size+1) (w.alloc (.cells #[.slice da D.length dcap, .slice pa P.length pcap, .int .i64 k, .int .i64 p, .int .i64 q, .bool v, .string pic, .bool g] 27)) wr) (fun _ vx _=>(D.length-intOf vx).toNat)
    case atStart =>
      first
        | exact ⟨false, 0,rfl,rfl,by omega,by omega,(fl.out _ (by rw [decide_eq_false (show ¬ dm+(D.length:Int) <= 3 by omega)];rfl)).1,(fl.out _ (by rw [decide_eq_false (show ¬ dm+(D.length:Int) <= 3 by omega)];rfl)).2,Below.refl _ _⟩
        | exact ⟨_, 0,rfl,rfl,by omega,by omega,(fl.out _ (by rw [decide_eq_true h3];rfl)).1,(fl.out _ (by rw [decide_eq_true h3];rfl)).2,Below.refl _ _⟩
    case round =>
      obtain ⟨ok,x,rfl,rfl,x0,x1,nC,nD,aG⟩:=hrel;have cA:=hx.keep aG (Nat.lt_succ_self _);obtain ⟨cC,c0,c1,c2,c3,c4,c5,c6,c7⟩:=cA;have ak:Below w.heap.size w wr:=((Below.refl _ w).alloc (Nat.le_refl _) _).trans (aG.mono (by omega))
      have aL:Below W.heap.size W wr:=hB.trans (ak.mono hB.size);have mt:Hid (ok=true->dm+(D.length:Int) <= 3/\lv <= 100/\x4C (D.take x.toNat)=true):=nC;have jG:Hid (ok=false->V=false):=nD;clear nC nD
      by_cases ai:x<(D.length:Int)
      . obtain ⟨b,o,cap,d,hv,hb,hd,e0,e1⟩:=z8M (i:=x.toNat) aL hD (by omega)
        obtain ⟨lo,hi⟩:=d;cases hv;have ul:Hid (D[x.toNat]? = some (lo,hi)):=hd;clear hd ih bF ba co cI;have bS:Hid (∀ b:Bool,(b=(ok&&dimB (lo,hi)))->(b=true->dm+(D.length:Int) <= 3/\lv <= 100/\x4C (D.take (x+1).toNat)=true)/\(b=false->V=false)):=by
          intro b hb;refine ⟨fun h=>?_,fun h=>?_⟩
          . subst hb;rw [Bool.and_eq_true] at h;obtain ⟨u1,u2,u3⟩:=mt.out h.1;exact ⟨u1,u2,by rw [show (x+1).toNat=x.toNat+1 by omega];exact (z1M ul.out u3).trans h.2⟩
          . subst hb;cases ok
            . exact jG.out rfl
            . exact lU.out ul.out h
        cases ok
        . clear lU;go_wp2
          go_roundw
          case rel=>exact ⟨false,_,rfl,rfl,by omega,by omega,(bS.out false rfl).1,(bS.out false rfl).2,aG.alloc (by omega) _⟩
          case measure=>simp [intOf];omega
        . by_cases q0:lo < -32768
          . have hz:Hid (dimB (lo,hi)=false):=by show dimB (lo,hi)=false;unfold dimB;rw [decide_eq_false (by simp;omega)];rfl
            clear lU;go_wp2
            go_roundw
            case rel=>exact ⟨false,_,rfl,rfl,by omega,by omega,(bS.out false (by rw [hz.out];rfl)).1,(bS.out false (by rw [hz.out];rfl)).2,aG.alloc (by omega) _⟩
            case measure=>simp [intOf];omega
          by_cases q1:hi<lo
          . have hz:Hid (dimB (lo,hi)=false):=by show dimB (lo,hi)=false;unfold dimB;rw [decide_eq_false (show ¬ lo <= hi by omega)];simp
            clear lU;go_wp2
            go_roundw
            case rel=>exact ⟨false,_,rfl,rfl,by omega,by omega,(bS.out false (by rw [hz.out];rfl)).1,(bS.out false (by rw [hz.out];rfl)).2,aG.alloc (by omega) _⟩
            case measure=>simp [intOf];omega
          have hz:Hid (dimB (lo,hi)=decide (hi <= 32767)):=by show dimB (lo,hi)=_;unfold dimB;rw [decide_eq_true (show -32768 <= lo by omega),decide_eq_true (show lo <= hi by omega)];rfl
          clear lU;go_wp2
          go_roundw
          case rel=>exact ⟨_,_,rfl,rfl,by omega,by omega,(bS.out _ (by rw [hz.out];rfl)).1,(bS.out _ (by rw [hz.out];rfl)).2,aG.alloc (by omega) _⟩
          case measure=>simp [intOf];omega
      . have dy:x=D.length:=by omega
        subst dy;clear lU fl;cases ok
        . obtain rfl:V=false:=jG.out rfl;cases P with
          | nil =>
            clear ih bF ba co cI hD hx mt jG jA fG bH;go_wp2
            go_region
            go_wp2
            go_ret3
            exact ⟨⟨_,_,rfl,by omega,by omega,by omega,by omega,fun h=>by cases h⟩,ak.drew⟩
          | cons p0 P0 =>
            obtain ⟨b,o,rfl,aM⟩:=bF (by simp)
            obtain ⟨a1,c1',a2,c2',s',aK,aW,e0,e1,e2,e3,e4,e5,e6,e7⟩:=part_at (i:= 0) aL aM (ba b o rfl) (by simp)
            clear ih bF ba co cI bH hx mt jG hD jA fG;simp only [Nat.zero_mul,Nat.add_zero] at e0 e1 e2 e3 e4 e5 e6 e7;have bL:(0:Int)<((p0::P0).length:Int):=by simp only [List.length_cons];omega
            generalize iR:p0::P0=P at *;clear iR aK;go_wp2
            (go_loopw [9, 12, 13, 95] (fun v9 v12 v13 vx wr2=>v9 = .bool false/\v12 = .int .i64 1/\v13 = .int .i64 lv/\vx = .int .i64 0/\wr2=wr) (fun _ _ _ _ _=> 0)
             case atStart=>exact ⟨rfl,rfl,rfl,rfl,rfl⟩
             case round =>
               obtain ⟨rfl,rfl,rfl,rfl,rfl⟩:=hrel;go_wp2
               go_ret3
               exact ⟨⟨_,_,rfl,by omega,by omega,by omega,by omega,fun h=>by cases h⟩,ak.alloc ak.size _⟩)
        . obtain ⟨u6,jZ,eQ⟩:=mt.out rfl;rcases Int.lt_or_le 3 (dm+(D.length:Int)) with eD | -
          . exfalso;omega
          rw [show ((D.length:Int)).toNat=D.length by omega,List.take_length] at eQ
          cases P with
          | nil =>
            have du:V=(tyS k p q v pic.data.toList&&(!g || decide (k=4))):=by
              rw [<- jA.out];unfold valS tyB;rw [decide_eq_true u6,decide_eq_true jZ,eQ];rfl
            have te:C=1:=by rw [<- fG.out];simp [scnt,x1L]
            have jz:Hid (V=(tyS k p q v pic.data.toList&&(!g || decide (k=4)))):=du
            have pg:=x1C aL hG;clear ih bF ba co cI hD hx mt jG du jA fG eQ bH;have fg:=fun w hg=>c15 (k:=k) (p:=p) (q:=q) (v:=v) bA w hg;cases hT:tyS k p q v pic.data.toList
            . rw [hT] at fg;simp only [cond_false] at fg;obtain rfl:V=false:=by rw [jz.out,hT];rfl
              clear hT jz;go_wp2;have pK:(undef:Value) = .tuple #[]:=rfl
              first
                | (go_region_with (first
                | (go_at_call 84;refine (fg _ (x1C ((Below.refl wr.heap.size wr).drew) pg)).mono ?_;rintro e w' ⟨rfl,bq⟩;have cE:Below wr.heap.size wr w':=((Below.refl wr.heap.size wr).drew).trans bq;obtain ⟨z2,z3,z4,z5,z6,z7, -⟩:=u2Q cC ⟨c2,c3,c4,c5,c6,c7,(Below.refl wr.heap.size wr)⟩ cE)))
                | fail "x"
              clear pK;go_wp2
              go_ret3
              exact ⟨⟨_,_,rfl,by omega,by omega,by omega,by omega,fun h=>by cases h⟩,ak.trans (cE.mono ak.size)⟩
            . rw [hT] at fg;simp only [cond_true] at fg;have oZ:V=(!g || decide (k=4)):=by rw [jz.out,hT];rfl
              have fD:Hid (V=(!g || decide (k=4))):=oZ
              clear hT jz oZ;go_wp2;have pK:(undef:Value) = .tuple #[]:=rfl;cases g
              . obtain rfl:V=true:=fD.out;clear fD
                first
                  | (go_region_with (first
                  | (go_at_call 84;refine (fg _ (x1C ((Below.refl wr.heap.size wr).drew) pg)).mono ?_;rintro e w' ⟨rfl,bq⟩;have cE:Below wr.heap.size wr w':=((Below.refl wr.heap.size wr).drew).trans bq;obtain ⟨z2,z3,z4,z5,z6,z7, -⟩:=u2Q cC ⟨c2,c3,c4,c5,c6,c7,(Below.refl wr.heap.size wr)⟩ cE)))
                  | fail "x"
                clear pK;go_wp2
                go_ret3
                exact ⟨⟨_,_,rfl,by omega,by omega,by omega,by omega,by first | exact fun _=>⟨by omega,by omega⟩ | exact ⟨by omega,by omega⟩⟩,ak.trans (cE.mono ak.size)⟩
              . have oY:V=(k==4):=fD.out;clear fD
                first
                  | (go_region_with (first
                  | (go_at_call 84;refine (fg _ (x1C ((Below.refl wr.heap.size wr).drew) pg)).mono ?_;rintro e w' ⟨rfl,bq⟩;have cE:Below wr.heap.size wr w':=((Below.refl wr.heap.size wr).drew).trans bq;obtain ⟨z2,z3,z4,z5,z6,z7, -⟩:=u2Q cC ⟨c2,c3,c4,c5,c6,c7,(Below.refl wr.heap.size wr)⟩ cE)))
                  | fail "x"
                clear pK;go_wp2
                go_ret3
                subst oY;exact ⟨⟨_,_,rfl,by omega,by omega,by omega,by omega,by first | exact fun _=>⟨by omega,by omega⟩ | exact ⟨by omega,by omega⟩⟩,ak.trans (cE.mono ak.size)⟩
          | cons p0 P0 =>
            have du:V=((ty0 ⟨k,p,q,v,pic⟩&&!g)&&(valS p0 (dm+D.length) (lv+1)&&valL P0 (dm+D.length) (lv+1))):=by
              rw [<- jA.out];show valS (.node D (p0::P0) ⟨k,p,q,v,pic⟩ g) dm lv=_;rw [valS,decide_eq_true u6,decide_eq_true jZ,eQ];rfl
            by_cases h0:k=0/\p=0/\q=0/\v=false/\pic=⟨#[]⟩/\g=false
            . obtain ⟨rfl,rfl,rfl,rfl,rfl,rfl⟩:=h0;have md:V=valL (p0::P0) (dm+D.length) (lv+1):=by
                rw [du,ty0_iff.2 ⟨rfl,rfl,rfl,rfl,rfl⟩,valL];rfl
              have dD:Hid (valL (p0::P0) (dm+D.length) (lv+1)=true->V=true):=fun h=>md.trans h;have eF:∀ s'∈p0::P0,valS s' (dm+D.length) (lv+1)=false->V=false:=fun s' hm h=>md.trans (u3Y hm h);have bL:(0:Int)<((p0::P0).length:Int):=by simp only [List.length_cons];omega
              have te:C=1+x1L (p0::P0):=by rw [<- fG.out,scnt]
              clear du md jA fG mt jG;generalize iR:p0::P0=P at *;clear iR;have iE:Hid (C=1+x1L P):=te;clear te;go_wp2
              go_loopw [9, 12, 13, 95] (fun v9 v12 v13 vx wr2=> ∃ (ok:Bool) (nn ll x:Int),v9 = .bool ok/\v12 = .int .i64 nn/\v13 = .int .i64 ll/\vx = .int .i64 x/\0 <= x/\x <= P.length/\1 <= nn/\nn <= 1+x1L (P.take x.toNat)/\0 <= ll/\ll <= 101/\(ok=false->V=false/\nn <= C)/\(ok=true->valL (P.take x.toNat) (dm+D.length) (lv+1)=true/\nn=1+x1L (P.take x.toNat)/\ll <= 100)/\Below w.heap.size w wr2) (fun _ _ _ vx _=>(P.length-intOf vx).toNat)
              case atStart=>exact ⟨_, 1,lv, 0,rfl,rfl,rfl,rfl,by omega,by omega,by omega,by simp [x1L],by omega,by omega,(fun h=>by cases h),(fun _=>⟨rfl,by simp [x1L],by omega⟩),ak⟩
              case round =>
                clear aG ak aL;obtain ⟨ok,nn,ll,x,rfl,rfl,rfl,rfl,x0,x1,n1,n2,ll0,ll1,tQ,pR,aG⟩:=hrel;have aL:Below W.heap.size W wr:=hB.trans (aG.mono hB.size);have g9:Hid (ok=false->V=false/\nn <= C):=tQ;have gZ:Hid (ok=true->valL (P.take x.toNat) (dm+D.length) (lv+1)=true/\nn=1+x1L (P.take x.toNat)/\ll <= 100):=pR;have nP:Hid (nn <= 1+x1L (P.take x.toNat)):=n2;clear tQ pR n2;have br:x1L (P.take x.toNat) <= x1L P:=by
                  have h1:=x6F (P.take x.toNat) (P.drop x.toNat);rw [List.take_append_drop] at h1
                  have:=x9H (P.drop x.toNat)
                  omega
                have rx:nn <= C:=by have:=nP.out;have:=iE.out;omega
                clear br
                by_cases ai:x<(P.length:Int)
                . obtain ⟨b,o,rfl,aM⟩:=bF (by intro h;subst h;simp at ai;omega)
                  obtain ⟨a1,c1',a2,c2',s',aK,aW,e0,e1,e2,e3,e4,e5,e6,e7⟩:=part_at (i:=x.toNat) aL aM (ba b o rfl) (by omega)
                  have aY:s'∈P:=List.mem_of_getElem? aK;have cL:=eF s' aY;cases ok
                  . obtain ⟨sF, -⟩:=g9.out rfl;subst sF;clear ih eF cL gZ g9 nP dD bF ba co cI bH hD hx aK aW aY;go_wp2
                    go_ret3
                    exact ⟨⟨_,_,rfl,by omega,by omega,by omega,by omega,fun h=>by cases h⟩,aG.alloc aG.size _⟩
                  . obtain ⟨jL,cY,rG⟩:=gZ.out rfl;have f9:=y5Y s' aY;have wY:=x7P s';have xY:=iE.out;have cK:=fun w hB=>ih s' aY W w _ _ (dm+D.length) (lv+1) hG aW hB (y0V bH s' aY) (by omega) (by omega) (by omega) (by omega) (by omega)
                    have aN:=y2B aK;have gK:x1L (P.take (x.toNat+1)) <= x1L P:=by
                      have h1:=x6F (P.take (x.toNat+1)) (P.drop (x.toNat+1));rw [List.take_append_drop] at h1
                      have:=x9H (P.drop (x.toNat+1))
                      omega
                    have m9:Hid (x1L (P.take (x.toNat+1)) <= x1L P/\x1L (P.take (x.toNat+1))=x1L (P.take x.toNat)+scnt s'):=⟨gK,aN⟩;have fq:Hid (valL (P.take x.toNat) (dm+D.length) (lv+1)=true):=jL;have ji:Hid (nn=1+x1L (P.take x.toNat)):=cY;have qJ:Hid (P[x.toNat]? = some s'):=aK;have iJ:nn <= 100:=by omega
                    have yR:scnt s' <= 99:=by omega
                    clear ih aY eF gK aN bH co cI hD bF ba jL cY aK aW xY g9 gZ
                    go_wp2_with (go_at_call 179;fail)
                    refine (cK _ (aL.alloc aL.size _)).mono ?_;rintro e w2 ⟨⟨m,l,rfl,m1,m2,l2,l3,mQ⟩,hb⟩;have yH:m <= 99:=by omega
                    have aB:=(aG.alloc aG.size _).trans (hb.mono (by have:=aG.size;simp;omega))
                    clear hb cK e0 e1 e2 e3 e4 e5 e6 e7;have hm:Hid (valS s' (dm+D.length) (lv+1)=true->m=scnt s'/\l <= 100):=mQ;clear mQ;cases gq:valS s' (dm+D.length) (lv+1)
                    . have sF:=cL gq;subst sF;clear cL gq;go_wp2
                      go_roundw
                      case rel =>
                        have:=m9.out
                        have:=ji.out
                        have:=iE.out
                        refine ⟨false,_,_,_,rfl,rfl,rfl,rfl,by omega,by omega,by omega, ?_,by omega,by omega,(fun _=>⟨by simp,by omega⟩),(fun h=>by cases h),aB⟩
                        rw [show (x+1).toNat=x.toNat+1 by omega]
                        omega
                      case measure=>simp [intOf];omega
                    . have ey:=hm.out gq;have kF:Hid (valL (P.take (x.toNat+1)) (dm+D.length) (lv+1)=true):=(z5J qJ.out fq.out).trans gq;have iK:Hid (m=scnt s'):=ey.1;have yL:=ey.2;clear cL gq ey;go_wp2
                      go_roundw
                      case rel =>
                        have:=m9.out
                        have:=ji.out
                        have:=iE.out
                        have:=iK.out
                        refine ⟨true,_,_,_,rfl,rfl,rfl,rfl,by omega,by omega,by omega, ?_,by omega,by omega,(fun h=>by cases h),(fun _=>⟨?_, ?_,by omega⟩),aB⟩
                        . rw [show (x+1).toNat=x.toNat+1 by omega]
                          omega
                        . rw [show (x+1).toNat=x.toNat+1 by omega]
                          exact kF.out
                        . rw [show (x+1).toNat=x.toNat+1 by omega]
                          omega
                      case measure=>simp [intOf];omega
                . have dy:x=P.length:=by omega
                  subst dy;clear ih eF bF ba co cI bH hD hx;have mh:ok=true->V=true/\nn=C/\ll <= 100:=fun h=>by
                    obtain ⟨u1,u2,u3⟩:=gZ.out h;rw [show ((P.length:Int)).toNat=P.length by omega,List.take_length] at u1 u2
                    have:=iE.out
                    exact ⟨dD.out u1,by omega,u3⟩
                  have sG:V=ok:=by
                    cases ok
                    . exact (g9.out rfl).1
                    . exact (mh rfl).1
                  have sI:Hid (ok=true->V=true/\nn=C/\ll <= 100):=mh;subst sG;clear g9 gZ mh dD;go_wp2
                  go_ret3
                  exact ⟨⟨_,_,rfl,by omega,by omega,by omega,by omega,fun h=>(sI.out h).2⟩,aG⟩
            . obtain rfl:V=false := by
                rw [du];cases e:ty0 ⟨k,p,q,v,pic⟩ with
                | false=>rfl
                | true =>
                  cases g
                  . have:=ty0_iff.1 e
                    exact absurd ⟨this.1,this.2.1,this.2.2.1,this.2.2.2.1,this.2.2.2.2,rfl⟩ h0
                  . rfl
              obtain ⟨b,o,rfl,aM⟩:=bF (by simp)
              obtain ⟨a1,c1',a2,c2',s',aK,aW,e0,e1,e2,e3,e4,e5,e6,e7⟩:=part_at (i:= 0) aL aM (ba b o rfl) (by simp)
              have hH:Hid (¬ (k=0/\p=0/\q=0/\v=false/\pic=⟨#[]⟩/\g=false)):=h0;clear ih bF ba co cI bH hx mt jG hD jA fG du h0;simp only [Nat.zero_mul,Nat.add_zero] at e0 e1 e2 e3 e4 e5 e6 e7;have bL:(0:Int)<((p0::P0).length:Int):=by simp only [List.length_cons];omega
              generalize iR:p0::P0=P at *;clear iR aK;cases g
              all_goals
                go_wp2
                all_goals first
                  | (exfalso
                     refine hH.out ⟨by assumption,by assumption,by assumption,Bool.eq_false_iff.2 (by assumption),z8U (by assumption),by first | rfl | trivial⟩)
                  | (go_loopw [9, 12, 13, 95] (fun v9 v12 v13 vx wr2=>v9 = .bool false/\v12 = .int .i64 1/\v13 = .int .i64 lv/\vx = .int .i64 0/\wr2=wr) (fun _ _ _ _ _=> 0)
                     case atStart=>exact ⟨rfl,rfl,rfl,rfl,rfl⟩
                     case round =>
                       obtain ⟨rfl,rfl,rfl,rfl,rfl⟩:=hrel;go_wp2
                       go_ret3
                       exact ⟨⟨_,_,rfl,by omega,by omega,by omega,by omega,fun h=>by cases h⟩,ak.alloc ak.size _⟩)
open Go.Deep
noncomputable def chk (s:Sh):Int:=cond (valS s 0 1) (match mpS s with | some _=> 0 | none=> 2) 90
noncomputable def mapR (s:Sh):Un×Int:=cond (valS s 0 1) (match mpS s with | some n=>(n.u, 0) | none=>(⟨0, 0, 0⟩, 2)) (⟨0, 0, 0⟩, 90)
set_option maxHeartbeats 4000000 in
theorem z5V (s:Sh)(W w:World)(dv pv:Value)(hG:Glob W)(hs:ShAt W dv pv s)(hB:Below W.heap.size W w)(aC:okS s)(dW:scnt s <= 100) :
    Calls Tryz.prog 23 #[shV dv pv s.t s.g] w fun e w'=>e = .returned (.int .i64 (chk s))/\Below w.heap.size w w':=by
  have hn:=fun w hB=>v3K s W w dv pv 0 1 hG hs hB aC dW (by omega) (by omega) (by omega) (by omega)
  have hu:=fun hv w hB=>(v6R s W 0 1 hG aC (by omega) hv w dv pv hs hB).2
  have rW:=x7P s;obtain ⟨a1,c1,a2,c2,rfl,rfl⟩:=hs.slices;have hx:=ShBox.here w (.slice a1 s.D.length c1) (.slice a2 s.P.length c2) s.t s.g;have au:Below w.heap.size w (w.alloc (.cells #[.slice a1 s.D.length c1, .slice a2 s.P.length c2, .int .i64 s.t.k, .int .i64 s.t.p, .int .i64 s.t.q, .bool s.t.v, .string s.t.pic, .bool s.g] 27)):=(Below.refl _ w).alloc (Nat.le_refl _) _;generalize hC:chk s=C;have fG:Hid (chk s=C):=hC;clear hC;go_enter Tryz.func23,Tryz.ntmps23
  go_wp2_with (go_at_call 96;fail)
  refine (hn _ (hB.trans (au.mono hB.size))).mono ?_;rintro e w2 ⟨rfl,hb⟩;have bv:=hx.below hb;have aB:=au.trans (hb.mono au.size);clear hb hn hx;obtain ⟨l0,k0,k1,k2,k3,k4,k5,k6,k7⟩:=id bv;cases hv:valS s 0 1
  . obtain rfl:C=90:=by rw [<- fG.out,chk,hv];rfl
    clear hv hu fG;go_wp2;go_ret;exact ⟨rfl,aB⟩
  . have jM:=fun w hB=>hu hv w hB;have jD:Hid ((match mpS s with | some _=> 0 | none=> 2)=C):=by
      show _=C;rw [<- fG.out,chk,hv];rfl
    clear hu hv fG
    go_wp2_with (go_at_call 94;fail)
    refine (jM _ (hB.trans (aB.mono hB.size))).mono ?_;rintro e w3 ⟨dz,hb⟩;have b9:=aB.trans (hb.mono aB.size);clear hb jM k0 k1 k2 k3 k4 k5 k6 k7;cases hm:mpS s with
    | none =>
      rw [hm] at dz;obtain ⟨u,rfl⟩:=dz;obtain rfl:C=2:=by rw [<- jD.out,hm]
      clear hm jD;go_wp2;go_ret;exact ⟨rfl,b9.alloc b9.size _⟩
    | some n =>
      rw [hm] at dz;obtain rfl:=dz;obtain rfl:C=0:=by rw [<- jD.out,hm]
      clear hm jD;go_wp2;go_ret;exact ⟨rfl,b9.alloc b9.size _⟩
set_option maxHeartbeats 4000000 in
theorem v1G (s:Sh)(W w:World)(dv pv:Value)(hG:Glob W)(hs:ShAt W dv pv s)(hB:Below W.heap.size W w)(aC:okS s)(dW:scnt s <= 100) :
    Calls Tryz.prog 148 #[shV dv pv s.t s.g] w fun e w'=>e = .returned (.bool (valS s 0 1))/\Below w.heap.size w w':=by
  have hn:=fun w hB=>u2R s W w dv pv 0 1 hG hs hB aC dW (by omega) (by omega) (by omega) (by omega)
  obtain ⟨a1,c1,a2,c2,rfl,rfl⟩:=hs.slices;have au:Below w.heap.size w (w.alloc (.cells #[.slice a1 s.D.length c1, .slice a2 s.P.length c2, .int .i64 s.t.k, .int .i64 s.t.p, .int .i64 s.t.q, .bool s.t.v, .string s.t.pic, .bool s.g] 27)):=(Below.refl _ w).alloc (Nat.le_refl _) _;generalize valS s 0 1=V at *;go_enter Tryz.func148,Tryz.ntmps148
  go_wp2_with (go_at_call 179;fail)
  refine (hn _ (hB.trans (au.mono hB.size))).mono ?_;rintro e w2 ⟨⟨n,l,rfl,n1,n2,l1,l2,hv⟩,hb⟩;have aB:=au.trans (hb.mono au.size);clear hb hn;have fS:n <= 400:=by omega
  cases V
  . clear hv;go_wp2;go_ret;exact ⟨rfl,aB⟩
  . have hl:=(hv rfl).2;clear hv;go_wp2;go_ret;exact ⟨rfl,aB⟩
def NB (w:World)(B:Nat)(c:Array Value)(t:Nat):Prop:=w.heap[B]? = some (.cells c t (0, 0))
theorem NB.cell {w:World}{B t:Nat}{c:Array Value}(h:NB w B c t)(i:Nat):w.cell? ⟨B,i,none⟩=c[i]? :=by
  unfold NB at h;simp [World.cell?, h]
theorem NB.frozen {w:World}{B t:Nat}{c:Array Value}(h:NB w B c t)(i:Nat):w.frozen? ⟨B,i,none⟩=false:=by
  unfold NB at h;simp [World.frozen?, h]
theorem NB.lt {w:World}{B t:Nat}{c:Array Value}(h:NB w B c t):B<w.heap.size:=by
  unfold NB at h;obtain ⟨ai,_⟩:=Array.getElem?_eq_some_iff.1 h;exact ai
theorem NB.set {w:World}{B t:Nat}{c:Array Value}(h:NB w B c t)(i:Nat)(v:Value):NB (w.setCell ⟨B,i,none⟩ v) B (c.setIfInBounds i v) t:=by
  unfold NB at h |-
  simp [World.setCell,Array.getElem?_modify,h]
theorem NB.other {w:World}{B t:Nat}{c:Array Value}(h:NB w B c t){a:Addr}(ha:B≠a.block)(v:Value):NB (w.setCell a v) B c t:=by
  unfold NB at h |-
  rw [<- h];exact Below.heap_setCell w a v B ha
theorem NB.keep {w w':World}{B t:Nat}{c:Array Value}(h:NB w B c t){k:Nat}(hb:Below k w w')(hk:B<k):NB w' B c t:=(hb.block B hk).trans h
theorem NB.below {w w':World}{B t:Nat}{c:Array Value}(h:NB w B c t)(hb:Below w.heap.size w w'):NB w' B c t:=h.keep hb h.lt
theorem NB.here (w:World)(c:Array Value)(t:Nat):NB (w.alloc (.cells c t)) w.heap.size c t:=blk_alloc_new _ _
theorem NB.alloc {w:World}{B t:Nat}{c:Array Value}(h:NB w B c t)(o:Obj):NB (w.alloc o) B c t:=h.below ((Below.refl _ w).alloc (Nat.le_refl _) o)
theorem NB.drew {w:World}{B t:Nat}{c:Array Value}(h:NB w B c t):NB w.drew B c t:=h
abbrev ndC (dv pv:Value)(t:Ty)(g:Bool)(u e:Un)(st at0 ps:Value):Array Value:= #[dv,pv, .int .i64 t.k, .int .i64 t.p, .int .i64 t.q, .bool t.v, .string t.pic, .bool g, .int .i64 u.s, .int .i64 u.b, .int .i64 u.a, .int .i64 e.s, .int .i64 e.b, .int .i64 e.a,st,at0,ps]
section
variable {w:World} {B:Nat} {dv pv:Value} {t:Ty} {g:Bool} {u e:Un} {st at0 ps:Value}
theorem nd_el (h:NB w B (ndC dv pv t g u e st at0 ps) 133)(e':Un):NB (((w.setCell ⟨B, 11,none⟩ (.int .i64 e'.s)).setCell ⟨B, 12,none⟩ (.int .i64 e'.b)).setCell ⟨B, 13,none⟩ (.int .i64 e'.a)) B (ndC dv pv t g u e' st at0 ps) 133:=((h.set 11 _).set 12 _).set 13 _
theorem nd_al (h:NB w B (ndC dv pv t g u e st at0 ps) 133)(a':Int):NB (w.setCell ⟨B, 13,none⟩ (.int .i64 a')) B (ndC dv pv t g u ⟨e.s,e.b,a'⟩ st at0 ps) 133:=h.set 13 _
theorem nd_un (h:NB w B (ndC dv pv t g u e st at0 ps) 133)(e':Un):NB (((w.setCell ⟨B, 8,none⟩ (.int .i64 e'.s)).setCell ⟨B, 9,none⟩ (.int .i64 e'.b)).setCell ⟨B, 10,none⟩ (.int .i64 e'.a)) B (ndC dv pv t g e' e st at0 ps) 133:=((h.set 8 _).set 9 _).set 10 _
theorem nd_ub (h:NB w B (ndC dv pv t g u e st at0 ps) 133)(b':Int):NB (w.setCell ⟨B, 9,none⟩ (.int .i64 b')) B (ndC dv pv t g ⟨u.s,b',u.a⟩ e st at0 ps) 133:=h.set 9 _
theorem nd_at (h:NB w B (ndC dv pv t g u e st at0 ps) 133)(v:Value):NB (w.setCell ⟨B, 15,none⟩ v) B (ndC dv pv t g u e st v ps) 133:=h.set 15 _
theorem nd_ps (h:NB w B (ndC dv pv t g u e st at0 ps) 133)(v:Value):NB (w.setCell ⟨B, 16,none⟩ v) B (ndC dv pv t g u e st at0 v) 133:=h.set 16 _
theorem x1Y (h:NB w B (ndC dv pv t g u e st at0 ps) 133):w.cell? ⟨B, 8,none⟩=some (.int .i64 u.s)/\w.cell? ⟨B, 9,none⟩=some (.int .i64 u.b)/\w.cell? ⟨B, 10,none⟩=some (.int .i64 u.a)/\w.cell? ⟨B, 11,none⟩=some (.int .i64 e.s)/\w.cell? ⟨B, 12,none⟩=some (.int .i64 e.b)/\w.cell? ⟨B, 13,none⟩=some (.int .i64 e.a) /\
    w.cell? ⟨B, 14,none⟩=some st/\w.cell? ⟨B, 15,none⟩=some at0/\w.cell? ⟨B, 16,none⟩=some ps/\(∀ i,w.frozen? ⟨B,i,none⟩=false) :=
  ⟨h.cell 8,h.cell 9,h.cell 10,h.cell 11,h.cell 12,h.cell 13,h.cell 14,h.cell 15,h.cell 16,h.frozen⟩
end
theorem x7K {k B i j l:Nat}{a w:World}{y0 y1 y2:Value}(h:Below k a w)(hB:k <= B):Below k a (((w.setCell ⟨B,i,none⟩ y0).setCell ⟨B,j,none⟩ y1).setCell ⟨B,l,none⟩ y2):=((h.setCell (p:=⟨B,i,none⟩) hB _).setCell (p:=⟨B,j,none⟩) hB _).setCell (p:=⟨B,l,none⟩) hB _
theorem x4L {k B i:Nat}{a w:World}{y:Value}(h:Below k a w)(hB:k <= B):Below k a (w.setCell ⟨B,i,none⟩ y):=h.setCell (p:=⟨B,i,none⟩) hB _
end Go.Proofs
namespace Go.Proofs
open Go.RowKit Go.Yec Go.Shp Go.Deep
theorem info128:(Tryz.prog.info? 128).map (fun i=>(i.zero,i.size,i.bytes))=some (some (.pointer none), 1, 8):=by kernel_rfl
theorem x6T {t:Nat}{z:Value}{n b:Nat}(h:(Tryz.prog.info? t).map (fun i=>(i.zero,i.size,i.bytes))=some (some z,n,b)):∃ i,Tryz.prog.info? t=some i/\i.zero=some z/\i.size=n/\i.bytes=b:=by
  obtain ⟨i,hi,pH⟩:=Option.map_eq_some_iff.1 h;simp only [Prod.mk.injEq] at pH;exact ⟨i,hi,pH.1,pH.2.1,pH.2.2⟩
section
variable {w w':World} {base e n:Nat} {v:Value} {xs:List Value}
theorem z2S (h:w.ownsRow base e 1 v (n+1) xs):∃ g cap,v = .slice (some ⟨g, 0,none⟩) (n+1) cap:=by
  obtain ⟨-, h | ⟨g,cap,cur,hv, -⟩⟩:=h
  . exact absurd h.2 (by omega)
  . exact ⟨g,cap,hv⟩
theorem y6L (h:w.ownsRow base e 1 v n xs):∃ a cap,v = .slice a n cap:=by
  obtain ⟨-, h | ⟨g,cap,cur,hv, -⟩⟩:=h
  . obtain ⟨rfl,rfl⟩:=h;exact ⟨none, 0,rfl⟩
  . exact ⟨_,cap,hv⟩
theorem x2Y (h:w.ownsRow base e 1 v n xs){g:Nat}(hg:v.ownBlock=some g):base <= g/\∃ c,w.heap[g]? = some (.cells c e (0, 0)):=by
  obtain ⟨-, h | ⟨g',cap,cur,rfl,hb,hc, -⟩⟩:=h
  . rw [h.1] at hg;cases hg
  . cases hg;exact ⟨hb,cur,hc⟩
theorem y3G (h:w.ownsRow base e 1 v n xs){g:Nat}(hg:v.ownBlock=some g):g<w.heap.size:=by
  obtain ⟨-, c,hc⟩:=x2Y h hg;exact (Array.getElem?_eq_some_iff.1 hc).1
theorem u4Z (h:w.ownsRow base e 1 v n xs)(hb:∀ g,v.ownBlock=some g->w'.heap[g]? = w.heap[g]?):w'.ownsRow base e 1 v n xs:=by
  obtain ⟨hl,h | ⟨g,cap,cur,rfl,sg,hc,r⟩⟩:=h
  . exact ⟨hl, .inl h⟩
  . exact ⟨hl, .inr ⟨g,cap,cur,rfl,sg,(hb g rfl).trans hc,r⟩⟩
theorem x4H (h:w.ownsRow base e 1 v n xs)(hb:Below w.heap.size w w'):w'.ownsRow base e 1 v n xs:=u4Z h fun _ hg=>hb.block _ (y3G h hg)
theorem y4Q (h:w.ownsRow base e 1 v n xs){B i j l:Nat}{y0 y1 y2:Value}(hB:B<base):(((w.setCell ⟨B,i,none⟩ y0).setCell ⟨B,j,none⟩ y1).setCell ⟨B,l,none⟩ y2).ownsRow base e 1 v n xs :=
  u4Z h fun g hg=>by
    have:=(x2Y h hg).1
    rw [Below.heap_setCell _ _ _ _ (by simp only;omega),Below.heap_setCell _ _ _ _ (by simp only;omega),Below.heap_setCell _ _ _ _ (by simp only;omega)]
theorem x9K (h:w.ownsRow base e 1 v n xs){B i:Nat}{y:Value}(hB:B<base):(w.setCell ⟨B,i,none⟩ y).ownsRow base e 1 v n xs :=
  u4Z h fun g hg=>by
    have:=(x2Y h hg).1
    rw [Below.heap_setCell _ _ _ _ (by simp only;omega)]
end
theorem y6K {w w':World}{base n m e e':Nat}{v v':Value}{xs ys:List Value}(he:e≠e')(h:w.ownsRow base e 1 v n xs)(h':w.ownsRow base e' 1 v' m ys)(hg:w.grownBy w' v.ownBlock):w'.ownsRow base e' 1 v' m ys :=
  u4Z h' fun g mD=>hg.block g (y3G h' mD) fun eD=>by
    obtain ⟨-, c,hc⟩:=x2Y h eD.symm;obtain ⟨-, c',iB⟩:=x2Y h' mD;rw [hc] at iB;cases iB;exact he rfl
theorem z2Y {w w':World}{base n e B t:Nat}{v:Value}{xs:List Value}{c:Array Value}(h:w.ownsRow base e 1 v n xs)(hB:B<base)(hn:NB w B c t)(hg:w.grownBy w' v.ownBlock):NB w' B c t :=
  (hg.block B hn.lt fun eD=>by have:=(x2Y h eD.symm).1;omega).trans hn
theorem y8R {w w' a:World}{base n e k:Nat}{v:Value}{xs:List Value}(h:w.ownsRow base e 1 v n xs)(hk:k <= base)(hb:Below k a w)(hs:k <= w.heap.size)(hg:w.grownBy w' v.ownBlock):Below k a w' :=
  hb.grown hg hs fun g mD=>by have:=(x2Y h mD).1;omega
theorem y8F {w w':World}{base n e B i k:Nat}{v u:Value}{xs:List Value}(h:w.ownsRow base e 1 v n xs)(hB:∀ g,v.ownBlock=some g->g<k)(hk:k <= B)(hu:w.cell? ⟨B,i,none⟩=some u)(hg:w.grownBy w' v.ownBlock):w'.cell? ⟨B,i,none⟩=some u:=by
  have ai:=World.block_lt_of_cell? _ _ hu;rw [World.cell?_of_block (w:=w) (hg.block B ai fun eD=>by have:=hB B eD.symm;omega)]
  exact hu
theorem UBox.of_block {w w':World}{B:Nat}{x0 x1 x2:Value}(h:UBox w B x0 x1 x2)(hb:w'.heap[B]? = w.heap[B]?)(hs:w.heap.size <= w'.heap.size):UBox w' B x0 x1 x2 :=
  ⟨Nat.lt_of_lt_of_le h.lt hs,(World.cell?_of_block (w:=w) hb).trans h.c0,(World.cell?_of_block (w:=w) hb).trans h.c1,(World.cell?_of_block (w:=w) hb).trans h.c2,(World.frozen?_of_block (w:=w) hb).trans h.f0,(World.frozen?_of_block (w:=w) hb).trans h.f1,(World.frozen?_of_block (w:=w) hb).trans h.f2⟩
theorem u7P {w w':World}{B k:Nat}{v x0 x1 x2:Value}(hB:∀ g,v.ownBlock=some g->g<k)(hk:k <= B)(hu:UBox w B x0 x1 x2)(hg:w.grownBy w' v.ownBlock):UBox w' B x0 x1 x2 :=
  hu.of_block (hg.block B hu.lt fun eD=>by have:=hB B eD.symm;omega) hg.size
open Go.Xec (Glob)
def IntsAt (w:World)(v:Value)(L:List Int):Prop :=
  ∃ a cap,v = .slice a L.length cap/\((a=none->cap=0)/\L.length <= cap)/\(L≠[]->∃ b o,a=some ⟨b,o,none⟩/\b<w.heap.size)/\∀ b o,a=some ⟨b,o,none⟩->∀ i,i<L.length->w.cell? ⟨b,o+i,none⟩=some (.int .i64 (L.getD i 0))
theorem IntsAt.nil (w:World):IntsAt w (.slice none 0 0) []:=⟨none, 0,rfl,⟨fun _=>rfl,Nat.le_refl _⟩,fun h=>absurd rfl h,fun _ _ h=>by cases h⟩
theorem IntsAt.keep {w w':World}{k:Nat}{v:Value}{L:List Int}(h:IntsAt w v L)(hc:∀ a:Addr,a.block<w.heap.size->w'.cell? a=w.cell? a)(hs:w.heap.size <= w'.heap.size):IntsAt w' v L:=by
  obtain ⟨a,cap,hv,eM,h0,gg⟩:=h;refine ⟨a,cap,hv,eM,fun ac=>?_,fun b o ha i hi=>?_⟩
  . obtain ⟨b,o,ha,hb⟩:=h0 ac;exact ⟨b,o,ha,by omega⟩
  . obtain ⟨b',o',bw,hb⟩:=h0 (by intro hn;subst hn;simp at hi)
    rw [ha] at bw;cases bw;rw [hc _ hb];exact gg b o ha i hi
theorem IntsAt.below {w w':World}{v:Value}{L:List Int}(h:IntsAt w v L)(hb:Below w.heap.size w w'):IntsAt w' v L:=h.keep (k:= 0) (fun _ ha=>hb.cell ha) hb.size
theorem IntsAt.form {w:World}{v:Value}{L:List Int}(h:IntsAt w v L):∃ a cap,v = .slice a L.length cap:=by
  obtain ⟨a,cap,hv, -⟩:=h;exact ⟨a,cap,hv⟩
theorem IntsAt.at {w:World}{v:Value}{L:List Int}(h:IntsAt w v L){i:Nat}(hi:i<L.length):∃ b o cap,v = .slice (some ⟨b,o,none⟩) L.length cap/\b<w.heap.size/\w.cell? ⟨b,o+i,none⟩=some (.int .i64 (L.getD i 0)):=by
  obtain ⟨a,cap,hv, -, h0,hc⟩:=h;obtain ⟨b,o,ha,hb⟩:=h0 (by intro hn;subst hn;simp at hi)
  subst ha;exact ⟨b,o,cap,hv,hb,hc b o rfl i hi⟩
def LsAt (w:World)(v:Value)(P:List Sh):Prop :=
  ∃ a cap,v = .slice a P.length cap/\(P≠[]->∃ b o,a=some ⟨b,o,none⟩/\b<w.heap.size)/\∀ b o,a=some ⟨b,o,none⟩->ShL w b o P
theorem LsAt.below {w w':World}{v:Value}{P:List Sh}(h:LsAt w v P)(hb:Below w.heap.size w w'):LsAt w' v P:=by
  obtain ⟨a,cap,hv,h0,hc⟩:=h;refine ⟨a,cap,hv,fun ac=>?_,fun b o ha=>?_⟩
  . obtain ⟨b,o,ha,aM⟩:=h0 ac
    have:=hb.size
    exact ⟨b,o,ha,by omega⟩
  . cases P with
    | nil=>trivial
    | cons p P =>
      obtain ⟨b',o',bw,aM⟩:=h0 (by simp)
      rw [ha] at bw;cases bw;exact y5W (fun a ha=>hb.cell ha) hb.size aM (hc b o ha)
def DmS (S:Nat->Prop)(w:World)(v:Value)(D:List (Int×Int)):Prop :=
  ∃ a cap,v = .slice a D.length cap/\(D≠[]->∃ b o,a=some ⟨b,o,none⟩/\S b)/\∀ b o,a=some ⟨b,o,none⟩->∀ i,i<D.length->w.cell? ⟨b,o+i*2,none⟩=some (.int .i64 (D.getD i (0, 0)).1)/\w.cell? ⟨b,o+i*2+1,none⟩=some (.int .i64 (D.getD i (0, 0)).2)
def x3J (S:Nat->Prop)(w:World)(v:Value)(L:List Int):Prop :=
  ∃ a cap,v = .slice a L.length cap/\((a=none->cap=0)/\L.length <= cap)/\(L≠[]->∃ b o,a=some ⟨b,o,none⟩/\S b)/\∀ b o,a=some ⟨b,o,none⟩->∀ i,i<L.length->w.cell? ⟨b,o+i,none⟩=some (.int .i64 (L.getD i 0))
mutual
def x1T (S:Nat->Prop)(w:World):Nat->Sh->Nd->Prop
  | B, .node D P t g, .mk u e st at' ps => S B/\∃ dv pv sv av qv, (∀ j, j<17->w.cell? ⟨B, j, none⟩=(ndC dv pv t g u e sv av qv)[j]?)/\DmS S w dv D/\(∃ a c, pv = .slice a P.length c)/\x3J S w sv st/\x3J S w av at' /\
      ∃ a cap,qv = .slice a P.length cap/\(P≠[]->∃ b o,a=some ⟨b,o,none⟩/\S b)/\∀ b o,a=some ⟨b,o,none⟩->x3B S w b o P ps
def x3B (S:Nat->Prop)(w:World):Nat->Nat->List Sh->List Nd->Prop
  | _,_,[],_=>True
  | _,_,_::_,[]=>False
  | b,o,p::P,n::ns=>(∃ B,w.cell? ⟨b,o,none⟩=some (.pointer (some ⟨B, 0,none⟩))/\x1T S w B p n)/\x3B S w b (o+1) P ns
end
def KeepS (S:Nat->Prop)(w w':World):Prop:=w.heap.size <= w'.heap.size/\∀ b,S b->w'.heap[b]? = w.heap[b]?
theorem KeepS.cell {S:Nat->Prop}{w w':World}(h:KeepS S w w'){b i:Nat}(hb:S b):w'.cell? ⟨b,i,none⟩=w.cell? ⟨b,i,none⟩:=World.cell?_of_block (w:=w) (h.2 b hb)
theorem KeepS.refl (S:Nat->Prop)(w:World):KeepS S w w:=⟨Nat.le_refl _,fun _ _=>rfl⟩
theorem KeepS.trans {S:Nat->Prop}{a b c:World}(h:KeepS S a b)(h':KeepS S b c):KeepS S a c:=⟨Nat.le_trans h.1 h'.1,fun x hx=>(h'.2 x hx).trans (h.2 x hx)⟩
theorem KeepS.mono {S S':Nat->Prop}{a b:World}(h:KeepS S a b)(hs:∀ x,S' x->S x):KeepS S' a b:=⟨h.1,fun x hx=>h.2 x (hs x hx)⟩
theorem KeepS.below {S:Nat->Prop}{a b:World}{k:Nat}(h:Below k a b)(hs:∀ x,S x->x<k):KeepS S a b:=⟨h.size,fun x hx=>h.block x (hs x hx)⟩
theorem KeepS.set {S:Nat->Prop}{a b:World}(h:KeepS S a b){p:Addr}(hp:¬ S p.block)(v:Value):KeepS S a (b.setCell p v):=⟨by have:=h.1;simpa using this,fun x hx=>(Below.heap_setCell b p v x (fun e=>hp (e▸hx))).trans (h.2 x hx)⟩
theorem KeepS.grown {S:Nat->Prop}{a b c:World}{row:Option Nat}(h:KeepS S a b)(hg:b.grownBy c row)(hl:∀ x,S x->x<b.heap.size)(hn:∀ x,S x->row≠some x):KeepS S a c:=⟨Nat.le_trans h.1 hg.size,fun x hx=>(hg.block x (hl x hx) (fun e=>hn x hx e.symm)).trans (h.2 x hx)⟩
theorem KeepS.alloc {S:Nat->Prop}{a b:World}(h:KeepS S a b)(hl:∀ x,S x->x<b.heap.size)(o:Obj):KeepS S a (b.alloc o):=h.trans (KeepS.below ((Below.refl b.heap.size b).alloc (Nat.le_refl _) o) hl)
theorem u5N {S:Nat->Prop}{a b c:World}{o:Obj}{row:Option Nat}(h:KeepS S a b)(hl:∀ x,S x->x<b.heap.size)(hg:(b.alloc o).grownBy c row)(hn:∀ x,S x->row≠some x):KeepS S a c:=(h.alloc hl o).grown hg (fun x hx=>by have:=hl x hx;simp;omega) hn
theorem v5D {S:Nat->Prop}{a b c:World}{o:Obj}{row:Option Nat}(h:KeepS S a b)(hl:∀ x,S x->x<b.heap.size)(hg:(b.alloc o).drew.grownBy c row)(hn:∀ x,S x->row≠some x):KeepS S a c :=
  KeepS.grown (b:=(b.alloc o).drew) (h.alloc hl o) hg (fun x hx=>by have:=hl x hx;show x<(b.alloc o).heap.size;simp;omega) hn
theorem v7U {S:Nat->Prop}{b:World}{o:Obj}{v v':Value}(hl:∀ x,S x->x<b.heap.size)(hn:∀ x,S x->v.ownBlock≠some x)(hw:∀ g,v'.ownBlock=some g->v.ownBlock=some g\/(b.alloc o).heap.size <= g):∀ x,S x->v'.ownBlock≠some x:=fun x hx e=>by
  rcases hw x e with h | h
  . exact hn x hx h
  . have:=hl x hx
    simp at h;omega
theorem app_ned {S:Nat->Prop}{b:World}{o:Obj}{v v':Value}(hl:∀ x,S x->x<b.heap.size)(hn:∀ x,S x->v.ownBlock≠some x)(hw:∀ g,v'.ownBlock=some g->v.ownBlock=some g\/(b.alloc o).drew.heap.size <= g):∀ x,S x->v'.ownBlock≠some x:=v7U (o:=o) hl hn hw
theorem y7W {S S':Nat->Prop}{w w':World}(hS:∀ b,S b->S' b)(h:KeepS S w w'){v:Value}{D:List (Int×Int)}(hd:DmS S w v D):DmS S' w' v D:=by
  obtain ⟨a,cap,hv,h0,hc⟩:=hd;refine ⟨a,cap,hv,fun ac=>?_,fun b o ha i hi=>?_⟩
  . obtain ⟨b,o,ha,hb⟩:=h0 ac;exact ⟨b,o,ha,hS b hb⟩
  . obtain ⟨b',o',bw,hb⟩:=h0 (by intro hn;subst hn;simp at hi)
    rw [ha] at bw;cases bw;rw [h.cell hb,h.cell hb];exact hc b o ha i hi
theorem x0P {S S':Nat->Prop}{w w':World}(hS:∀ b,S b->S' b)(h:KeepS S w w'){v:Value}{L:List Int}(hd:x3J S w v L):x3J S' w' v L:=by
  obtain ⟨a,cap,hv,eM,h0,hc⟩:=hd;refine ⟨a,cap,hv,eM,fun ac=>?_,fun b o ha i hi=>?_⟩
  . obtain ⟨b,o,ha,hb⟩:=h0 ac;exact ⟨b,o,ha,hS b hb⟩
  . obtain ⟨b',o',bw,hb⟩:=h0 (by intro hn;subst hn;simp at hi)
    rw [ha] at bw;cases bw;rw [h.cell hb];exact hc b o ha i hi
mutual
theorem x1G {S S':Nat->Prop}{w w':World}(hS:∀ b,S b->S' b)(h:KeepS S w w'):∀ {B:Nat} {s:Sh} {n:Nd}, x1T S w B s n->x1T S' w' B s n
  | B, .node D P t g, .mk u e st at' ps,hn=>by
    unfold x1T at hn |-
    obtain ⟨hB,dv,pv,sv,av,qv,hc,hD,hp,aN,eG,a,cap,hq,h0,fu⟩:=hn;refine ⟨hS B hB,dv,pv,sv,av,qv,fun j hj=>(h.cell hB).trans (hc j hj),y7W hS h hD,hp,x0P hS h aN,x0P hS h eG,a,cap,hq,fun ac=>?_,fun b o ha=>?_⟩
    . obtain ⟨b,o,ha,hb⟩:=h0 ac;exact ⟨b,o,ha,hS b hb⟩
    . cases P with
      | nil=>unfold x3B;trivial
      | cons p P =>
        obtain ⟨b',o',bw,hb⟩:=h0 (by simp)
        rw [ha] at bw;cases bw;exact x7T hS h hb (fu b o ha)
theorem x7T {S S':Nat->Prop}{w w':World}(hS:∀ b,S b->S' b)(h:KeepS S w w'){b:Nat}(hb:S b):∀ {o:Nat} {P:List Sh} {ns:List Nd}, x3B S w b o P ns->x3B S' w' b o P ns
  | _,[],_,_=>by unfold x3B;trivial
  | _,_::_,[],hn=>by unfold x3B at hn;exact hn.elim
  | o,p::P,n::ns,hn=>by
    unfold x3B at hn |-
    obtain ⟨⟨B,h1,h2⟩,h3⟩:=hn;exact ⟨⟨B,(h.cell hb).trans h1,x1G hS h h2⟩,x7T hS h hb h3⟩
end
theorem y0K {S:Nat->Prop}{w:World}{b:Nat}:∀ {P:List Sh} {ns:List Nd} {o:Nat}, x3B S w b o P ns->∀ (i:Nat) (p:Sh),P[i]? = some p->∃ (n:Nd) (B:Nat),ns[i]? = some n/\w.cell? ⟨b,o+i,none⟩=some (.pointer (some ⟨B, 0,none⟩))/\x1T S w B p n
  | [],_,_,_,i,p,hp=>by simp at hp
  | _::_,[],_,h,_,_,_=>by unfold x3B at h;exact h.elim
  | q::P,m::ns,o,h, 0,p,hp=>by
    simp only [List.getElem?_cons_zero,Option.some.injEq] at hp;subst hp;unfold x3B at h;obtain ⟨⟨B,h1,h2⟩, -⟩:=h;exact ⟨m,B,rfl,h1,h2⟩
  | q::P,m::ns,o,h,i+1,p,hp=>by
    unfold x3B at h;obtain ⟨n,B,h1,h2,h3⟩:=y0K h.2 i p (by simpa using hp)
    exact ⟨n,B,by simpa using h1,by rw [show o+(i+1)=o+1+i by omega];exact h2,h3⟩
theorem z0R {S:Nat->Prop}{w:World}{b:Nat}:∀ {P:List Sh} {ns:List Nd} {o:Nat}, ns.length=P.length->(∀ (i:Nat) (p:Sh) (n:Nd),P[i]? = some p->ns[i]? = some n->∃ B,w.cell? ⟨b,o+i,none⟩=some (.pointer (some ⟨B, 0,none⟩))/\x1T S w B p n)->x3B S w b o P ns
  | [],_,_,_,_=>by unfold x3B;trivial
  | _::_,[],_,h,_=>by simp at h
  | p::P,n::ns,o,hl,h=>by
    unfold x3B;refine ⟨by simpa using h 0 p n rfl rfl,z0R (by simpa using hl) fun i q m hq hm=>?_⟩
    obtain ⟨B,h1,h2⟩:=h (i+1) q m (by simpa using hq) (by simpa using hm)
    exact ⟨B,by rw [show o+1+i=o+(i+1) by omega];exact h1,h2⟩
def PtsAt (S:Nat->Prop)(w:World)(P:List Sh)(Bs:List Nat)(ns:List Nd):Prop :=
  Bs.length=ns.length/\∀ (i B:Nat),Bs[i]? = some B->∃ (p:Sh) (n:Nd),P[i]? = some p/\ns[i]? = some n/\x1T S w B p n
theorem PtsAt.nil (S:Nat->Prop)(w:World)(P:List Sh):PtsAt S w P [] []:=⟨rfl,fun i B h=>by simp at h⟩
theorem y6F {S S':Nat->Prop}{w w':World}(hS:∀ b,S b->S' b)(h:KeepS S w w'){P:List Sh}{Bs:List Nat}{ns:List Nd}(hp:PtsAt S w P Bs ns):PtsAt S' w' P Bs ns:=by
  refine ⟨hp.1,fun i B hB=>?_⟩;obtain ⟨p,n,h1,h2,h3⟩:=hp.2 i B hB;exact ⟨p,n,h1,h2,x1G hS h h3⟩
theorem pts_push {S:Nat->Prop}{w:World}{P:List Sh}{Bs:List Nat}{ns:List Nd}(hp:PtsAt S w P Bs ns){p:Sh}{n:Nd}{B:Nat}(hP:P[ns.length]? = some p)(hn:x1T S w B p n):PtsAt S w P (Bs++[B]) (ns++[n]):=by
  have hl:=hp.1;refine ⟨by simp [hl],fun i C hC=>?_⟩
  rcases Nat.lt_trichotomy i Bs.length with h | h | h
  . rw [List.getElem?_append_left h] at hC;obtain ⟨q,m,h1,h2,h3⟩:=hp.2 i C hC;exact ⟨q,m,h1,by rw [List.getElem?_append_left (by omega)];exact h2,h3⟩
  . subst h;simp at hC;subst hC;exact ⟨p,n,by rw [hl];exact hP,by rw [hl];simp,hn⟩
  . rw [List.getElem?_append_right (by omega)] at hC
    have:=List.getElem?_eq_some_iff.1 hC
    simp at this;omega
theorem y7F {S:Nat->Prop}{w:World}{base n:Nat}{v:Value}{L:List Int}(h:w.ownsRow base 3 1 v n (L.map fun x=> .int .i64 x))(hS:∀ g,v.ownBlock=some g->S g):x3J S w v L:=by
  have hl:=h.1;simp only [List.length_map,Nat.mul_one] at hl;subst hl;rcases h.2 with ⟨rfl,h0⟩ | ⟨g,cap,cur,rfl,hb,hg,aV, -⟩
  . have:L=[]:=List.eq_nil_of_length_eq_zero h0;subst this;exact ⟨none, 0,rfl,⟨fun _=>rfl,Nat.le_refl _⟩,fun h=>absurd rfl h,fun _ _ h=>by cases h⟩
  . refine ⟨_,cap,rfl,⟨fun h=>(by cases h),aV⟩,fun _=>⟨g, 0,rfl,hS g rfl⟩,fun b o ha i hi=>?_⟩
    cases ha;rw [Nat.zero_add,h.cellAt i (by simpa using hi)]
    simp [hi]
theorem v3J {S:Nat->Prop}{w:World}{base n:Nat}{v:Value}{P:List Sh}{Bs:List Nat}{ns:List Nd}(h:w.ownsRow base 128 1 v n (Bs.map fun B=> .pointer (some ⟨B, 0,none⟩)))(hS:∀ g,v.ownBlock=some g->S g)(hp:PtsAt S w P Bs ns)(hl:ns.length=P.length) :
    ∃ a cap,v = .slice a P.length cap/\(P≠[]->∃ b o,a=some ⟨b,o,none⟩/\S b)/\∀ b o,a=some ⟨b,o,none⟩->x3B S w b o P ns:=by
  have hn:=h.1;have aM:=hp.1;simp only [List.length_map,Nat.mul_one] at hn;subst hn;rcases h.2 with ⟨rfl,h0⟩ | ⟨g,cap,cur,rfl,hb,hg, -⟩
  . have hP:P=[]:=List.eq_nil_of_length_eq_zero (by omega)
    subst hP;exact ⟨none, 0,rfl,fun h=>absurd rfl h,fun _ _ h=>by cases h⟩
  . refine ⟨_,cap,by rw [<- hl, <- aM],fun _=>⟨g, 0,rfl,hS g rfl⟩,fun b o ha=>?_⟩
    cases ha;refine z0R hl fun i p m i9 aS=>?_;have hi:i<Bs.length:=by
      have:=(List.getElem?_eq_some_iff.1 aS).1
      omega
    obtain ⟨q,m',h1,h2,h3⟩:=hp.2 i Bs[i] (List.getElem?_eq_getElem hi);rw [i9] at h1;rw [aS] at h2;cases h1;cases h2;refine ⟨Bs[i], ?_,h3⟩;rw [Nat.zero_add,h.cellAt i (by simpa using hi)]
    simp [hi]
theorem v5N {S:Nat->Prop}{w:World}{b n:Nat}{l:List Int}(h:w.rowIs b 3 n (stC 0 l))(hl:l.length=n)(hS:S b):x3J S w (.slice (some ⟨b, 0,none⟩) n n) l:=by
  subst hl;refine ⟨_,_,rfl,⟨fun h=>(by cases h),Nat.le_refl _⟩,fun _=>⟨b, 0,rfl,hS⟩,fun b' o ha i hi=>?_⟩
  cases ha;rw [Nat.zero_add,h.cell hi];unfold stC;simp [hi]
theorem z7C {w:World}{v:Value}{L:List Int}(h:x3J (fun b=>b<w.heap.size) w v L):IntsAt w v L:=h
end Go.Proofs
namespace Go.Proofs
open Go.RowKit Go.Yec Go.Shp Go.Deep
section
variable {P:Program} (w:World)
theorem z9Z (base:Nat)(t ty e:TypeId)(i:TypeInfo)(z:Value)(size bytes:Nat)(ht:P.underlying t=some (.slice e))(hi:P.info? e=some i)(hz:i.zero=some z)
    (aU:i.size=size) (fh:i.bytes=bytes) (dF:z.cells.size=size) (bd:0<size) (v:Value) (n:Nat) (xs:List Value) (aQ:w.ownsRow base e size v n xs)
    (a:Addr) (m c:Nat) (news:List Value) (hl:news.length=m*size) (aP:∀ j u,news[j]? = some u->w.cell? (a.add j)=some u) (h1:∀ u∈news,u.oneCell'=true)
    (fo:n+m <= maxLen) (aJ:(n+m)*bytes <= 140737488355328) (bi:base <= w.heap.size) :
    ∃ v' w',(Builtin.append_ #[t,t] ty #[v, .slice (some a) m c]).run P w = .ok v' w'/\w'.ownsRow base e size v' (n+m) (xs++news)/\w.grownBy w' v.ownBlock/\(∀ g,v'.ownBlock=some g->v.ownBlock=some g\/w.heap.size <= g):=by
  obtain ⟨v',w',hr,h2,h3, -⟩:=run_append_own (P:=P) w base t ty e i z size bytes ht hi hz aU fh dF bd v n xs aQ a m c news hl aP h1 fo aJ bi;refine ⟨v',w',hr,h2,h3,fun g hg=>?_⟩;rcases aQ.2 with ⟨rfl,rfl⟩ | ⟨g0,cap,cur,rfl, -, -, -, -, -, -⟩
  . obtain ⟨v2,w2,iZ,h5, -, -⟩:=run_append_own (P:=P) w w.heap.size t ty e i z size bytes ht hi hz aU fh dF bd (.slice none 0 0) 0 [] (World.ownsRow_nil _ _ _ _) a m c news hl aP h1 fo aJ (Nat.le_refl _);rw [iZ] at hr;cases hr;exact .inr (h5.lt g hg).1
  . by_cases jQ:n+m <= cap
    . obtain ⟨w2,iZ, -⟩:=run_append_fits (P:=P) w base t ty e i size ht hi aU g0 n cap xs aQ a m c news hl aP h1 jQ;rw [iZ] at hr;cases hr;exact .inl hg
    . have hm:n+m <= 9223372036854775807:=by simp only [maxLen] at fo;omega
      have iZ:=run_append_grow (P:=P) w t ty e i z ht hi hz ⟨g0, 0,none⟩ n cap xs (by rw [aU];exact aQ.1) (aQ.cells (g:=g0) rfl) a m c news (by rw [aU];exact hl) aP (by omega) (by omega) (growslice_fits (by omega) (by rw [fh];exact aJ))
      rw [iZ] at hr;cases hr;cases hg;exact .inr (Nat.le_refl _)
theorem u4L (base:Nat)(t ty e:TypeId)(i:TypeInfo)(z:Value)(size bytes:Nat)(ht:P.underlying t=some (.slice e))(hi:P.info? e=some i)(hz:i.zero=some z)
    (aU:i.size=size) (fh:i.bytes=bytes) (dF:z.cells.size=size) (bd:0<size) (v:Value) (n:Nat) (xs:List Value) (aQ:w.ownsRow base e size v n xs)
    (ao:Option Addr) (m c:Nat) (news:List Value) (eR:ao=none->m=0/\c=0) (hl:news.length=m*size) (aP:∀ ad,ao=some ad->∀ j u,news[j]? = some u->w.cell? (ad.add j)=some u) (h1:∀ u∈news,u.oneCell'=true)
    (fo:n+m <= maxLen) (aJ:(n+m)*bytes <= 140737488355328) (bi:base <= w.heap.size) :
    ∃ v' w',(Builtin.append_ #[t,t] ty #[v, .slice ao m c]).run P w = .ok v' w'/\w'.ownsRow base e size v' (n+m) (xs++news)/\w.grownBy w' v.ownBlock/\(∀ g,v'.ownBlock=some g->v.ownBlock=some g\/w.heap.size <= g):=by
  cases ao with
  | some ad=>exact z9Z w base t ty e i z size bytes ht hi hz aU fh dF bd v n xs aQ ad m c news hl (aP ad rfl) h1 fo aJ bi
  | none =>
    obtain ⟨rfl,rfl⟩:=eR rfl;have hn:news=[]:=List.eq_nil_of_length_eq_zero (by simpa using hl)
    subst hn;exact ⟨v,w,run_append_owned_none (P:=P) w base t ty e i size ht hi v n xs aQ,by simpa using aQ,⟨rfl,rfl,rfl,Nat.le_refl _,fun _ _ _=>rfl⟩,fun _ h=> .inl h⟩
theorem x5J {ops:Array Oper}{rest:List Oper}{o:Oper}{a:Act}{Q:Exit->Act->World->Prop}(bS:o.guard=none)(s x:Operand)(t:TypeId)
    (ho:o.op = .call { callee:= .builtin .append,args:= #[s,x],argTypes:= #[t,t] })
    (base:Nat) (e:TypeId) (i:TypeInfo) (z:Value) (size bytes:Nat) (ht:P.underlying t=some (.slice e)) (hi:P.info? e=some i) (hz:i.zero=some z)
    (aU:i.size=size) (fh:i.bytes=bytes) (dF:z.cells.size=size) (bd:0<size)
    (v:Value) (n:Nat) (xs:List Value) (hs:a.eval s=v) (aQ:w.ownsRow base e size v n xs)
    (ao:Option Addr) (m c:Nat) (news:List Value) (hx:a.eval x = .slice ao m c) (eR:ao=none->m=0/\c=0) (hl:news.length=m*size) (aP:∀ ad,ao=some ad->∀ j u,news[j]? = some u->w.cell? (ad.add j)=some u) (h1:∀ u∈news,u.oneCell'=true)
    (fo:n+m <= maxLen) (aJ:(n+m)*bytes <= 140737488355328) (bi:base <= w.heap.size)
    (h:∀ v' w',w'.ownsRow base e size v' (n+m) (xs++news)->w.grownBy w' v.ownBlock->(∀ g,v'.ownBlock=some g->v.ownBlock=some g\/w.heap.size <= g)->wpList P ops Q rest (a.put o.dst v') w'):wpList P ops Q (o::rest) a w :=
  wpList_plain bS fun _ hK=>by
    obtain ⟨v',w',hr,h2,h3,h4⟩:=u4L (P:=P) w base t o.type e i z size bytes ht hi hz aU fh dF bd v n xs aQ ao m c news eR hl aP h1 fo aJ bi;unfold Oper.wp execOp;simp only [ho,resolve,invoke,builtin,Sem.run_bind,Sem.run_pure,Result.andThen_ok,List.map_toArray,List.map_cons,List.map_nil,hs,hx,hr];exact hK _ _ (h v' w' h2 h3 h4)
theorem wp_app {o:Oper}{a:Act}{K:Act->World->Prop}{Q:Exit->Act->World->Prop}(s x:Operand)(t:TypeId)
    (ho:o.op = .call { callee:= .builtin .append,args:= #[s,x],argTypes:= #[t,t] })
    (base:Nat) (e:TypeId) (i:TypeInfo) (z:Value) (size bytes:Nat) (ht:P.underlying t=some (.slice e)) (hi:P.info? e=some i) (hz:i.zero=some z)
    (aU:i.size=size) (fh:i.bytes=bytes) (dF:z.cells.size=size) (bd:0<size)
    (v:Value) (n:Nat) (xs:List Value) (hs:a.eval s=v) (aQ:w.ownsRow base e size v n xs)
    (ad:Addr) (m c:Nat) (news:List Value) (hx:a.eval x = .slice (some ad) m c) (hl:news.length=m*size) (aP:∀ j u,news[j]? = some u->w.cell? (ad.add j)=some u) (h1:∀ u∈news,u.oneCell'=true)
    (fo:n+m <= maxLen) (aJ:(n+m)*bytes <= 140737488355328) (bi:base <= w.heap.size)
    (h:∀ v' w',w'.ownsRow base e size v' (n+m) (xs++news)->w.grownBy w' v.ownBlock->(∀ g,v'.ownBlock=some g->v.ownBlock=some g\/w.heap.size <= g)->K (a.put o.dst v') w'):o.wp P a w K Q:=by
  obtain ⟨v',w',hr,h2,h3,h4⟩:=z9Z (P:=P) w base t o.type e i z size bytes ht hi hz aU fh dF bd v n xs aQ ad m c news hl aP h1 fo aJ bi;unfold Oper.wp execOp;simp only [ho,resolve,invoke,builtin,Sem.run_bind,Sem.run_pure,Result.andThen_ok,List.map_toArray,List.map_cons,List.map_nil,hs,hx,hr];exact h v' w' h2 h3 h4
theorem y9X {ops:Array Oper}{rest:List Oper}{o:Oper}{a:Act}{Q:Exit->Act->World->Prop}(bS:o.guard=none)(s x:Operand)(t:TypeId)
    (ho:o.op = .call { callee:= .builtin .append,args:= #[s,x],argTypes:= #[t,t] })
    (base:Nat) (e:TypeId) (i:TypeInfo) (z:Value) (size bytes:Nat) (ht:P.underlying t=some (.slice e)) (hi:P.info? e=some i) (hz:i.zero=some z)
    (aU:i.size=size) (fh:i.bytes=bytes) (dF:z.cells.size=size) (bd:0<size)
    (v:Value) (n:Nat) (xs:List Value) (hs:a.eval s=v) (aQ:w.ownsRow base e size v n xs)
    (ad:Addr) (m c:Nat) (news:List Value) (hx:a.eval x = .slice (some ad) m c) (hl:news.length=m*size) (aP:∀ j u,news[j]? = some u->w.cell? (ad.add j)=some u) (h1:∀ u∈news,u.oneCell'=true)
    (fo:n+m <= maxLen) (aJ:(n+m)*bytes <= 140737488355328) (bi:base <= w.heap.size)
    (h:∀ v' w',w'.ownsRow base e size v' (n+m) (xs++news)->w.grownBy w' v.ownBlock->(∀ g,v'.ownBlock=some g->v.ownBlock=some g\/w.heap.size <= g)->wpList P ops Q rest (a.put o.dst v') w'):wpList P ops Q (o::rest) a w :=
  wpList_plain bS fun _ hK=>wp_app w s x t ho base e i z size bytes ht hi hz aU fh dF bd v n xs hs aQ ad m c news hx hl aP h1 fo aJ bi fun v' w' h2 h3 h4=>hK _ _ (h v' w' h2 h3 h4)
theorem y0U {ops:Array Oper}{o:Oper}{a:Act}{K:Act->World->Prop}{Q:Exit->Act->World->Prop}{F:Prop}
    (hg:o.guard=none) (s x:Operand) (t:TypeId) (ho:o.op = .call { callee:= .builtin .append,args:= #[s,x],argTypes:= #[t,t] })
    (base:Nat) (e:TypeId) (i:TypeInfo) (z:Value) (size bytes:Nat) (ht:P.underlying t=some (.slice e)) (hi:P.info? e=some i) (hz:i.zero=some z)
    (aU:i.size=size) (fh:i.bytes=bytes) (dF:z.cells.size=size) (bd:0<size)
    (v:Value) (n:Nat) (xs:List Value) (hs:a.eval s=v) (aQ:w.ownsRow base e size v n xs)
    (ad:Addr) (m c:Nat) (news:List Value) (hx:a.eval x = .slice (some ad) m c) (hl:news.length=m*size) (aP:∀ j u,news[j]? = some u->w.cell? (ad.add j)=some u) (h1:∀ u∈news,u.oneCell'=true)
    (fo:n+m <= maxLen) (aJ:(n+m)*bytes <= 140737488355328) (bi:base <= w.heap.size)
    (h:∀ v' w',w'.ownsRow base e size v' (n+m) (xs++news)->w.grownBy w' v.ownBlock->(∀ g,v'.ownBlock=some g->v.ownBlock=some g\/w.heap.size <= g)->K (a.put o.dst v') w') :
    if Region.wanted o (yielded ops a.tmps)=true then Oper.wp P o a w K Q else F:=by
  rw [if_pos (by simp [Region.wanted,hg])]
  exact wp_app w s x t ho base e i z size bytes ht hi hz aU fh dF bd v n xs hs aQ ad m c news hx hl aP h1 fo aJ bi h
theorem x6Y {ops:Array Oper}{o:Oper}{a:Act}{K:Act->World->Prop}{Q:Exit->Act->World->Prop}{F:Prop}
    (hg:o.guard=none) (s x:Operand) (t:TypeId) (ho:o.op = .call { callee:= .builtin .append,args:= #[s,x],argTypes:= #[t,t] })
    (base:Nat) (e:TypeId) (i:TypeInfo) (z:Value) (size bytes:Nat) (ht:P.underlying t=some (.slice e)) (hi:P.info? e=some i) (hz:i.zero=some z)
    (aU:i.size=size) (fh:i.bytes=bytes) (dF:z.cells.size=size) (bd:0<size)
    (v:Value) (n:Nat) (xs:List Value) (hs:a.eval s=v) (aQ:w.ownsRow base e size v n xs)
    (ao:Option Addr) (m c:Nat) (news:List Value) (hx:a.eval x = .slice ao m c) (eR:ao=none->m=0/\c=0) (hl:news.length=m*size) (aP:∀ ad,ao=some ad->∀ j u,news[j]? = some u->w.cell? (ad.add j)=some u) (h1:∀ u∈news,u.oneCell'=true)
    (fo:n+m <= maxLen) (aJ:(n+m)*bytes <= 140737488355328) (bi:base <= w.heap.size)
    (h:∀ v' w',w'.ownsRow base e size v' (n+m) (xs++news)->w.grownBy w' v.ownBlock->(∀ g,v'.ownBlock=some g->v.ownBlock=some g\/w.heap.size <= g)->K (a.put o.dst v') w') :
    if Region.wanted o (yielded ops a.tmps)=true then Oper.wp P o a w K Q else F:=by
  rw [if_pos (by simp [Region.wanted,hg])]
  obtain ⟨v',w',hr,h2,h3,h4⟩:=u4L (P:=P) w base t o.type e i z size bytes ht hi hz aU fh dF bd v n xs aQ ao m c news eR hl aP h1 fo aJ bi;unfold Oper.wp execOp;simp only [ho,resolve,invoke,builtin,Sem.run_bind,Sem.run_pure,Result.andThen_ok,List.map_toArray,List.map_cons,List.map_nil,hs,hx,hr];exact h v' w' h2 h3 h4
end
end Go.Proofs
