/-
  mapped's loop: what it has made so far.;Rows that a call owns, of elements of any size: kept.
-/
import Derived.Test.YtadehgdfijjikaaGreatDoorS5
set_option linter.all false
namespace Go.Proofs
open Go.RowKit Go.Yec Go.Shp Go.Deep
def MpOk (W:World)(s:Sh)(w w':World)(e:Ending):Option Nd->Prop
  | none=>e = .returned (.pointer none)
  | some n=> ∃ B,e = .returned (.pointer (some ⟨B, 0,none⟩))/\w.heap.size <= B/\w'.cell? ⟨B, 8,none⟩=some (.int .i64 n.u.s)/\w'.cell? ⟨B, 9,none⟩=some (.int .i64 n.u.b)/\w'.cell? ⟨B, 10,none⟩=some (.int .i64 n.u.a)/\x1T (fun b=>b<W.heap.size\/(w.heap.size <= b/\b<w'.heap.size)) w' B s n
structure MpI (S:Nat->Prop) (W w wr:World) (av pv:Value) (P:List Sh) (xa xp:List Value) (at0:List Int) (ns:List Nd) (Bs:List Nat) (k:Nat):Prop where
  ha:xa=at0.map fun y=> .int .i64 y
  hp:xp=Bs.map fun B=> .pointer (some ⟨B, 0,none⟩)
  hl:ns.length=k
  ok:∀ b,S b->(b<W.heap.size\/(w.heap.size+3 <= b/\b<wr.heap.size))/\av.ownBlock≠some b/\pv.ownBlock≠some b
  pts:PtsAt S wr P Bs ns
structure S2Ok (W w w2:World) (av pv:Value) (b:Nat):Prop where
  lt:b<w2.heap.size
  n:b≠w.heap.size+1+1
  s:b≠w.heap.size+1
  a:av.ownBlock≠some b
  p:pv.ownBlock≠some b
  o:b<W.heap.size\/w.heap.size+3 <= b
theorem mp_step {S:Nat->Prop}{W w wr w2:World}{av pv:Value}{P:List Sh}{xa xp:List Value}{at0:List Int}{ns:List Nd}{Bs:List Nat}{k na np B m:Nat}{s:Sh}{n:Nd}(aS:MpI S W w wr av pv P xa xp at0 ns Bs k)(hb:Below wr.heap.size wr w2)
    (ep:wr.ownsRow (w.heap.size+3) 3 1 av na xa) (bY:wr.ownsRow (w.heap.size+3) 128 1 pv np xp) (hW:W.heap.size <= w.heap.size) (bd:w.heap.size+3 <= wr.heap.size) (mX:P[k]? = some s) (hm:wr.heap.size <= m)
    (bM:x1T (fun b=>b<W.heap.size\/(m <= b/\b<w2.heap.size)) w2 B s n) :
    ∃ S2:Nat->Prop,(∀ b,S2 b->S2Ok W w w2 av pv b)/\PtsAt S2 w2 P (Bs++[B]) (ns++[n]):=by
  have dY:=hb.size;refine ⟨fun b=>(b<W.heap.size\/(wr.heap.size <= b/\b<w2.heap.size))\/S b,fun b cz=>?_, ?_⟩
  . have jw:(b<W.heap.size\/(w.heap.size+3 <= b/\b<w2.heap.size))/\av.ownBlock≠some b/\pv.ownBlock≠some b := by
      rcases cz with (h | ⟨h,h'⟩) | h
      . refine ⟨.inl h,fun e=>?_,fun e=>?_⟩
        . have:=(x2Y ep e).1;omega
        . have:=(x2Y bY e).1;omega
      . refine ⟨.inr ⟨by omega,h'⟩,fun e=>?_,fun e=>?_⟩
        . have:=y3G ep e;omega
        . have:=y3G bY e;omega
      . obtain ⟨h1,h2,h3⟩:=aS.ok b h;exact ⟨h1.imp id fun h=>⟨h.1,by omega⟩,h2,h3⟩
    exact ⟨by omega,by omega,by omega,jw.2.1,jw.2.2,jw.1.imp id fun h=>h.1⟩
  . refine pts_push (y6F (fun b h=> .inr h) (KeepS.below hb fun b h=>?_) aS.pts) (by rw [aS.hl];exact mX) (x1G (fun b h=> .inl ?_) (KeepS.refl _ _) bM)
    . have:=(aS.ok b h).1
      omega
    . exact h.imp id fun h=>⟨by omega,h.2⟩
theorem u5G {S S2:Nat->Prop}{W w wr w2 wf:World}{av pv av' pv':Value}{P:List Sh}{xa xp:List Value}{at0:List Int}{ns:List Nd}{Bs:List Nat}{k k' B:Nat}{n:Nd}{z:Int}(h:MpI S W w wr av pv P xa xp at0 ns Bs k)(bU:∀ b,S2 b->S2Ok W w w2 av pv b)(dI:PtsAt S2 w2 P (Bs++[B]) (ns++[n]))
    (hk:KeepS S2 w2 wf) (ha:∀ b,S2 b->av'.ownBlock≠some b) (hp:∀ b,S2 b->pv'.ownBlock≠some b) (dU:k'=k+1):MpI S2 W w wf av' pv' P (xa++[.int .i64 z]) (xp++[.pointer (some ⟨B, 0,none⟩)]) (at0++[z]) (ns++[n]) (Bs++[B]) k':=by
  refine ⟨by rw [h.ha];simp,by rw [h.hp];simp,by simp [h.hl,dU],fun b hb=>⟨(bU b hb).o.imp id fun h=>⟨h,Nat.lt_of_lt_of_le (bU b hb).lt hk.1⟩,ha b hb,hp b hb⟩,y6F (fun _ h=>h) hk dI⟩
theorem mp_fin {S:Nat->Prop}{W w wr wf:World}{av pv dv:Value}{D:List (Int×Int)}{P:List Sh}{t:Ty}{g:Bool}{u e:Un}{pa:Option Addr}{pcap:Nat}{xa xp:List Value}{at0 l:List Int}{ns:List Nd}{Bs:List Nat}{k na np:Nat}(aS:MpI S W w wr av pv P xa xp at0 ns Bs k)(hk:k=P.length)(hW:W.heap.size <= w.heap.size)(pm:Below W.heap.size W wf)(hD:DmAt W dv D)
    (ep:wr.ownsRow (w.heap.size+3) 3 1 av na xa) (bY:wr.ownsRow (w.heap.size+3) 128 1 pv np xp) (bd:w.heap.size+3 <= wr.heap.size) (fB:KeepS (fun b=>b<wr.heap.size/\b≠w.heap.size+1+1/\b≠w.heap.size+1) wr wf)
    (df:NB wf (w.heap.size+1+1) (ndC dv (.slice pa P.length pcap) t g u e (.slice (some ⟨w.heap.size+1, 0,none⟩) D.length D.length) av pv) 133) (aN:wf.rowIs (w.heap.size+1) 3 D.length (stC 0 l)) (hl:l.length=D.length) :
    x1T (fun b=>b<W.heap.size\/(w.heap.size <= b/\b<wf.heap.size)) wf (w.heap.size+1+1) (.node D P t g) (.mk u e l at0 ns):=by
  have dY:=fB.1;have hT:∀ b,(b<wr.heap.size/\b≠w.heap.size+1+1/\b≠w.heap.size+1)->w.heap.size <= b->(b<W.heap.size\/(w.heap.size <= b/\b<wf.heap.size)):=fun b h h'=> .inr ⟨h',by omega⟩
  have nH:=ep;have nB:=bY;rw [aS.ha] at nH;rw [aS.hp] at nB;have sx:=y7F (S:=fun b=>(b<wr.heap.size/\b≠w.heap.size+1+1/\b≠w.heap.size+1)/\(b<W.heap.size\/w.heap.size <= b)) nH (fun b hb=>by
    have h1:=y3G ep hb;have h2:=(x2Y ep hb).1;exact ⟨⟨h1,by omega,by omega⟩, .inr (by omega)⟩)
  have dI:PtsAt (fun b=>(b<wr.heap.size/\b≠w.heap.size+1+1/\b≠w.heap.size+1)/\(b<W.heap.size\/w.heap.size <= b)) wr P Bs ns:=y6F (fun b hb=>by
    have:=(aS.ok b hb).1
    exact ⟨⟨by omega,by omega,by omega⟩,by omega⟩) (KeepS.refl _ _) aS.pts
  have kT:=v3J (S:=fun b=>(b<wr.heap.size/\b≠w.heap.size+1+1/\b≠w.heap.size+1)/\(b<W.heap.size\/w.heap.size <= b)) nB (fun b hb=>by
    have h1:=y3G bY hb;have h2:=(x2Y bY hb).1;exact ⟨⟨h1,by omega,by omega⟩, .inr (by omega)⟩) dI (by rw [aS.hl,hk])
  have oq:KeepS (fun b=>(b<wr.heap.size/\b≠w.heap.size+1+1/\b≠w.heap.size+1)/\(b<W.heap.size\/w.heap.size <= b)) wr wf:=fB.mono fun b h=>h.1;have br:∀ b,((b<wr.heap.size/\b≠w.heap.size+1+1/\b≠w.heap.size+1)/\(b<W.heap.size\/w.heap.size <= b))->(b<W.heap.size\/(w.heap.size <= b/\b<wf.heap.size)):=fun b h=>by omega
  unfold x1T;obtain ⟨a,cap,hq,h0,fu⟩:=kT;refine ⟨.inr ⟨by omega,by omega⟩,dv,_,_,av,pv,fun j _=>df.cell j,y7W (S:=fun b=>b<W.heap.size) (fun b h=> .inl h) (KeepS.below pm fun _ h=>h) hD,⟨pa,pcap,rfl⟩,v5N aN hl (.inr ⟨by omega,by omega⟩),x0P br oq sx,a,cap,hq,fun ac=>?_,fun b o ha=>?_⟩
  . obtain ⟨b,o,ha,hb⟩:=h0 ac;exact ⟨b,o,ha,br b hb⟩
  . cases P with
    | nil=>unfold x3B;trivial
    | cons p P =>
      obtain ⟨b',o',bw,hb⟩:=h0 (by simp)
      rw [ha] at bw;cases bw;exact x7T br oq hb (fu b o ha)
section
variable {w w':World} {base e n sz:Nat} {v:Value} {xs:List Value}
theorem x5R (h:w.ownsRow base e sz v n xs){g:Nat}(hg:v.ownBlock=some g):base <= g/\∃ c,w.heap[g]? = some (.cells c e (0, 0)):=by
  obtain ⟨-, h | ⟨g',cap,cur,rfl,hb,hc, -⟩⟩:=h
  . rw [h.1] at hg;cases hg
  . cases hg;exact ⟨hb,cur,hc⟩
theorem z6J (h:w.ownsRow base e sz v n xs){g:Nat}(hg:v.ownBlock=some g):g<w.heap.size:=by
  obtain ⟨-, c,hc⟩:=x5R h hg;exact (Array.getElem?_eq_some_iff.1 hc).1
theorem v2V (h:w.ownsRow base e sz v n xs)(hb:∀ g,v.ownBlock=some g->w'.heap[g]? = w.heap[g]?):w'.ownsRow base e sz v n xs:=by
  obtain ⟨hl,h | ⟨g,cap,cur,rfl,sg,hc,r⟩⟩:=h
  . exact ⟨hl, .inl h⟩
  . exact ⟨hl, .inr ⟨g,cap,cur,rfl,sg,(hb g rfl).trans hc,r⟩⟩
theorem x2Z (h:w.ownsRow base e sz v n xs)(hb:Below w.heap.size w w'):w'.ownsRow base e sz v n xs:=v2V h fun _ hg=>hb.block _ (z6J h hg)
theorem y4R (h:w.ownsRow base e sz v n xs)(hn:0<n):∃ g cap,v = .slice (some ⟨g, 0,none⟩) n cap:=by
  obtain ⟨-, h | ⟨g,cap,cur,hv, -⟩⟩:=h
  . exact absurd h.2 (by omega)
  . exact ⟨g,cap,hv⟩
theorem x5Q (h:w.ownsRow base e sz v n xs):∃ a cap,v = .slice a n cap:=by
  obtain ⟨-, h | ⟨g,cap,cur,hv, -⟩⟩:=h
  . obtain ⟨rfl,rfl⟩:=h;exact ⟨none, 0,rfl⟩
  . exact ⟨_,cap,hv⟩
theorem x2H {a:World}{k:Nat}(h:w.ownsRow base e sz v n xs)(hk:k <= base)(hb:Below k a w)(hs:k <= w.heap.size)(hg:w.grownBy w' v.ownBlock):Below k a w' :=
  hb.grown hg hs fun g mD=>by have:=(x5R h mD).1;omega
end
end Go.Proofs
