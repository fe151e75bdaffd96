/- nodes of the reference -/
import Derived.Deep.OwnRows
import Derived.Deep.QuietTactic
import Derived.BigQuiet
import Derived.Deep.DeepCutAuto
import Derived.OwnWalk
import Derived.Deep.RegionLaw
import Derived.Laws.OwnMore
import Derived.Test.YtadehgdfijjikaaGreatDoorS3
import Derived.Test.YtadehgdfijjikaaGreatDoorT2
set_option linter.all false
namespace Go.Proofs
open Go.RowKit Go.Yec Go.Shp
open Go.Xec (QF)
end Go.Proofs
namespace Go.Proofs
open Go.RowKit Go.Yec Go.Shp Go.Deep
theorem wrap_id {x:Int}(h:-9223372036854775808<=x/\x<=9223372036854775807):wrap64 x=x:=by unfold wrap64;omega
end Go.Proofs
namespace Go.Proofs
open Go.RowKit Go.Yec Go.Shp
open Go.Deep
open Go.Xec (QF)
end Go.Proofs
namespace Go.Proofs
open Go.RowKit Go.Yec Go.Shp
open Go.Xec (QF)
open Go.Deep
def NB (w:World)(B:Nat)(c:Array Value)(t:Nat):Prop:=w.heap[B]? =some (.cells c t (0,0))
theorem NB.cell {w:World}{B t:Nat}{c:Array Value}(h:NB w B c t)(i:Nat):w.cell? ⟨B,i,none⟩=c[i]? :=by unfold NB at h;simp[World.cell?,h]
theorem NB.frozen {w:World}{B t:Nat}{c:Array Value}(h:NB w B c t)(i:Nat):w.frozen? ⟨B,i,none⟩=false:=by unfold NB at h;simp[World.frozen?,h]
theorem NB.lt {w:World}{B t:Nat}{c:Array Value}(h:NB w B c t):B<w.heap.size:=by unfold NB at h;obtain⟨ah,_⟩:=qN.1 h;exact ah
theorem NB.keep {w w':World}{B t:Nat}{c:Array Value}(h:NB w B c t){k:Nat}(hb:Below k w w')(hk:B<k):NB w' B c t:=(hb.block B hk).trans h
theorem NB.below {w w':World}{B t:Nat}{c:Array Value}(h:NB w B c t)(hb:Below w.heap.size w w'):NB w' B c t:=h.keep hb h.lt
theorem NB.here (w:World)(c:Array Value)(t:Nat):NB (w.alloc (.cells c t)) w.heap.size c t:=blk_alloc_new _ _
theorem NB.alloc {w:World}{B t:Nat}{c:Array Value}(h:NB w B c t)(o:Obj):NB (w.alloc o) B c t:=h.below ((Below.refl _ w).alloc (qQ _) o)
theorem NB.drew {w:World}{B t:Nat}{c:Array Value}(h:NB w B c t):NB w.drew B c t:=h
end Go.Proofs
namespace Go.Proofs
open Go.RowKit Go.Yec Go.Shp Go.Deep
theorem x6T {t:Nat}{z:Value}{n b:Nat}(h:(Tryz.prog.info? t).map (fun i=>(i.zero,i.size,i.bytes))=some (some z,n,b)):∃i,Tryz.prog.info? t=some i/\i.zero=some z/\i.size=n/\i.bytes=b:=by obtain⟨i,hi,jx⟩:=Option.map_eq_some_iff.1 h;simp only[Prod.mk.injEq]at jx;exact⟨i,hi,jx.1,jx.2.1,jx.2.2⟩
section
variable {P:Program} (w:World)
theorem z9Z (base:Nat)(t ty e:TypeId)(i:TypeInfo)(z:Value)(size bytes:Nat)(ht:P.underlying t=some (.slice e))(hi:P.info? e=some i)(hz:i.zero=some z) (bz:i.size=size) (eA:i.bytes=bytes) (dY:z.cells.size=size) (aH:0<size) (v:Value) (n:Nat) (xs:List Value) (bZ:w.ownsRow base e size v n xs) (a:Addr) (m c:Nat) (news:List Value) (hl:news.length=m*size) (bE:∀j u,news[j]? =some u->w.cell? (a.add j)=some u) (h1:∀u∈news,u.oneCell'=true) (fQ:n+m<=maxLen) (bm:(n+m)*bytes<=140737488355328) (bW:base<=w.heap.size):∃v' w',(Builtin.append_ #[t,t] ty #[v,.slice (some a) m c]).run P w=.ok v' w'/\w'.ownsRow base e size v' (n+m) (xs++news)/\w.grownBy w' v.ownBlock/\(∀g,v'.ownBlock=some g->v.ownBlock=some g\/w.heap.size<=g):=by obtain⟨v',w',hr,h2,h3,-⟩:=run_append_own (P:=P) w base t ty e i z size bytes ht hi hz bz eA dY aH v n xs bZ a m c news hl bE h1 fQ bm bW;refine⟨v',w',hr,h2,h3,fun g hg=>?_⟩;rcases bZ.2 with⟨rfl,rfl⟩|⟨g0,cap,cur,rfl,-,-,-,-,-,-⟩;{obtain⟨v2,w2,eF,h5,-,-⟩:=run_append_own (P:=P) w w.heap.size t ty e i z size bytes ht hi hz bz eA dY aH (.slice none 0 0) 0 [] (World.ownsRow_nil _ _ _ _) a m c news hl bE h1 fQ bm (qQ _);rw[eF]at hr;cases hr;exact .inr (h5.lt g hg).1};by_cases fX:n+m<=cap;{obtain⟨w2,eF,-⟩:=run_append_fits (P:=P) w base t ty e i size ht hi bz g0 n cap xs bZ a m c news hl bE h1 fX;rw[eF]at hr;cases hr;exact .inl hg};(have hm:n+m<=9223372036854775807:=by simp only[maxLen]at fQ;omega);have eF:=run_append_grow (P:=P) w t ty e i z ht hi hz ⟨g0,0,none⟩ n cap xs (by rw[bz];exact bZ.1) (bZ.cells (g:=g0) rfl) a m c news (by rw[bz];exact hl) bE (by omega) (by omega) (growslice_fits (by omega) (by rw[eA];exact bm));rw[eF]at hr;cases hr;cases hg;exact .inr (qQ _)
theorem wp_app {o:Oper}{a:Act}{K:Act->World->Prop}{Q:Exit->Act->World->Prop}(s x:Operand)(t:TypeId) (ho:o.op=.call {callee:=.builtin .append,args:=#[s,x],argTypes:=#[t,t]}) (base:Nat) (e:TypeId) (i:TypeInfo) (z:Value) (size bytes:Nat) (ht:P.underlying t=some (.slice e)) (hi:P.info? e=some i) (hz:i.zero=some z) (bz:i.size=size) (eA:i.bytes=bytes) (dY:z.cells.size=size) (aH:0<size) (v:Value) (n:Nat) (xs:List Value) (hs:a.eval s=v) (bZ:w.ownsRow base e size v n xs) (ad:Addr) (m c:Nat) (news:List Value) (hx:a.eval x=.slice (some ad) m c) (hl:news.length=m*size) (bE:∀j u,news[j]? =some u->w.cell? (ad.add j)=some u) (h1:∀u∈news,u.oneCell'=true) (fQ:n+m<=maxLen) (bm:(n+m)*bytes<=140737488355328) (bW:base<=w.heap.size) (h:∀v' w',w'.ownsRow base e size v' (n+m) (xs++news)->w.grownBy w' v.ownBlock->(∀g,v'.ownBlock=some g->v.ownBlock=some g\/w.heap.size<=g)->K (a.put o.dst v') w'):o.wp P a w K Q:=by obtain⟨v',w',hr,h2,h3,h4⟩:=z9Z (P:=P) w base t o.type e i z size bytes ht hi hz bz eA dY aH v n xs bZ ad m c news hl bE h1 fQ bm bW;unfold Oper.wp execOp;simp only[ho,resolve,invoke,builtin,qR,qA,qy,JO,zt,Ju,hs,hx,hr];exact h v' w' h2 h3 h4
theorem y9X {ops:Array Oper}{rest:List Oper}{o:Oper}{a:Act}{Q:Exit->Act->World->Prop}(dI:o.guard=none)(s x:Operand)(t:TypeId) (ho:o.op=.call {callee:=.builtin .append,args:=#[s,x],argTypes:=#[t,t]}) (base:Nat) (e:TypeId) (i:TypeInfo) (z:Value) (size bytes:Nat) (ht:P.underlying t=some (.slice e)) (hi:P.info? e=some i) (hz:i.zero=some z) (bz:i.size=size) (eA:i.bytes=bytes) (dY:z.cells.size=size) (aH:0<size) (v:Value) (n:Nat) (xs:List Value) (hs:a.eval s=v) (bZ:w.ownsRow base e size v n xs) (ad:Addr) (m c:Nat) (news:List Value) (hx:a.eval x=.slice (some ad) m c) (hl:news.length=m*size) (bE:∀j u,news[j]? =some u->w.cell? (ad.add j)=some u) (h1:∀u∈news,u.oneCell'=true) (fQ:n+m<=maxLen) (bm:(n+m)*bytes<=140737488355328) (bW:base<=w.heap.size) (h:∀v' w',w'.ownsRow base e size v' (n+m) (xs++news)->w.grownBy w' v.ownBlock->(∀g,v'.ownBlock=some g->v.ownBlock=some g\/w.heap.size<=g)->wpList P ops Q rest (a.put o.dst v') w'):wpList P ops Q (o::rest) a w:=wpList_plain dI fun _ hK=>wp_app w s x t ho base e i z size bytes ht hi hz bz eA dY aH v n xs hs bZ ad m c news hx hl bE h1 fQ bm bW fun v' w' h2 h3 h4=>hK _ _ (h v' w' h2 h3 h4)
theorem y0U {ops:Array Oper}{o:Oper}{a:Act}{K:Act->World->Prop}{Q:Exit->Act->World->Prop}{F:Prop} (hg:o.guard=none) (s x:Operand) (t:TypeId) (ho:o.op=.call {callee:=.builtin .append,args:=#[s,x],argTypes:=#[t,t]}) (base:Nat) (e:TypeId) (i:TypeInfo) (z:Value) (size bytes:Nat) (ht:P.underlying t=some (.slice e)) (hi:P.info? e=some i) (hz:i.zero=some z) (bz:i.size=size) (eA:i.bytes=bytes) (dY:z.cells.size=size) (aH:0<size) (v:Value) (n:Nat) (xs:List Value) (hs:a.eval s=v) (bZ:w.ownsRow base e size v n xs) (ad:Addr) (m c:Nat) (news:List Value) (hx:a.eval x=.slice (some ad) m c) (hl:news.length=m*size) (bE:∀j u,news[j]? =some u->w.cell? (ad.add j)=some u) (h1:∀u∈news,u.oneCell'=true) (fQ:n+m<=maxLen) (bm:(n+m)*bytes<=140737488355328) (bW:base<=w.heap.size) (h:∀v' w',w'.ownsRow base e size v' (n+m) (xs++news)->w.grownBy w' v.ownBlock->(∀g,v'.ownBlock=some g->v.ownBlock=some g\/w.heap.size<=g)->K (a.put o.dst v') w'):if Region.wanted o (yielded ops a.tmps)=true then Oper.wp P o a w K Q else F:=by rw[qE (by simp[Region.wanted,hg])];exact wp_app w s x t ho base e i z size bytes ht hi hz bz eA dY aH v n xs hs bZ ad m c news hx hl bE h1 fQ bm bW h
end
open Go.Xec (QF)
end Go.Proofs
namespace Go.Proofs
open Go.RowKit Go.Yec Go.Shp Go.Deep
section
variable {w w':World} {base e n sz:Nat} {v:Value} {xs:List Value}
theorem x5R (h:w.ownsRow base e sz v n xs){g:Nat}(hg:v.ownBlock=some g):base<=g/\∃c,w.heap[g]? =some (.cells c e (0,0)):=by obtain⟨-,h|⟨g',cap,cur,rfl,hb,hc,-⟩⟩:=h;{rw[h.1]at hg;cases hg};cases hg;exact⟨hb,cur,hc⟩
theorem z6J (h:w.ownsRow base e sz v n xs){g:Nat}(hg:v.ownBlock=some g):g<w.heap.size:=by obtain⟨-,c,hc⟩:=x5R h hg;exact(qN.1 hc).1
theorem v2V (h:w.ownsRow base e sz v n xs)(hb:∀g,v.ownBlock=some g->w'.heap[g]? =w.heap[g]?):w'.ownsRow base e sz v n xs:=by obtain⟨hl,h|⟨g,cap,cur,rfl,gK,hc,r⟩⟩:=h;{exact⟨hl,.inl h⟩};exact⟨hl,.inr ⟨g,cap,cur,rfl,gK,(hb g rfl).trans hc,r⟩⟩
theorem x2Z (h:w.ownsRow base e sz v n xs)(hb:Below w.heap.size w w'):w'.ownsRow base e sz v n xs:=v2V h fun _ hg=>hb.block _ (z6J h hg)
theorem y4R (h:w.ownsRow base e sz v n xs)(hn:0<n):∃g cap,v=.slice (some ⟨g,0,none⟩) n cap:=by obtain⟨-,h|⟨g,cap,cur,hv,-⟩⟩:=h;{exact absurd h.2 (by omega)};exact⟨g,cap,hv⟩
theorem x5Q (h:w.ownsRow base e sz v n xs):∃a cap,v=.slice a n cap:=by obtain⟨-,h|⟨g,cap,cur,hv,-⟩⟩:=h;{obtain⟨rfl,rfl⟩:=h;exact⟨none,0,rfl⟩};exact⟨_,cap,hv⟩
theorem x2H {a:World}{k:Nat}(h:w.ownsRow base e sz v n xs)(hk:k<=base)(hb:Below k a w)(hs:k<=w.heap.size)(hg:w.grownBy w' v.ownBlock):Below k a w':=hb.grown hg hs fun g ja=>by have:=(x5R h ja).1;omega
end
end Go.Proofs
namespace Go.Proofs
open Go.RowKit Go.Yec Go.Shp Go.Deep
open Go.Xec (QF)
end Go.Proofs
namespace Go.Shp
open Go Go.Yec
open Go.Proofs
end Go.Shp
namespace Go.Shp
open Go Go.Yec Go.Proofs
end Go.Shp
namespace Go.Shp
open Go Go.Yec Go.Proofs
end Go.Shp
namespace Go.Shp
open Go Go.Yec Go.Proofs
end Go.Shp
namespace Go.Shp
open Go Go.Yec Go.Proofs
end Go.Shp
namespace Go.Proofs
open Go.RowKit Go.Yec Go.Shp Go.Deep
open Go.Xec (QF)
end Go.Proofs
namespace Go.Proofs
open Go.RowKit Go.Yec Go.Shp Go.Deep
open Go.Xec (QF)
end Go.Proofs
