/- THE EXECUTOR -/
import Derived.Test.YtadehgdfijjikaaGreatDoorX5
set_option linter.all false
namespace Go.Xec
open Go
variable [GT]
section
variable {P:GF} {self:Task->Hp->Nat->R} {sz:Nat} {all:List Oper} {L:List PI} {st:Nat->DS} {β0:Bm} {w0:World} {ds:List Deferred}
def x8J (listed:Array Bool)(i:Nat):Prop:=listed[i]? =some true
theorem u8H {listed:Array Bool}{i:Nat}(hi:i<listed.size):x8J (listed.setIfInBounds i true)=fun j=>x8J listed j\/j=i:=by funext j;apply propext;unfold x8J;rw[Qf];by_cases e:i=j;{subst e;simp[hi]};rw[JZ e];exact⟨.inl,fun h=>h.elim id fun h=>absurd h.symm e⟩
theorem x7X {listed:Array Bool}{i:Nat}(d:Bool)(hi:i<listed.size):listed.getD i d=true↔x8J listed i:=by unfold x8J;simp[Array.getD,hi]
theorem u7D (pl:Plan P sz all L){ops:Array Oper}(aC:ops.toList=all){listed:Array Bool}(hs:listed.size=ops.size)(hr:Region.ready .any ops listed=[]):∀(p:Nat) (x:PI),L[p]? =some x->x8J listed x.i:=by intro p;induction p using Nat.strongRecOn with|_ p ih=>intro x hx;obtain⟨o,ho,_,_⟩:=pl.item p x hx;have hi:x.i<listed.size:=by{rw[hs,<-Je (xs:=ops),aC];exact(JW.1 ho).1};apply JP;intro hn;have:x.i∈Region.ready .any ops listed:=by{refine mem_ready.2 ⟨?_,o,by rw[<-Array.getElem?_toList,aC];exact ho,fun e he hb=>?_⟩;{cases hd:listed.getD x.i true with|false=>rfl|true=>exact absurd ((x7X true hi).1 hd) hn};obtain⟨q,y,h1,h2,h3⟩:=pl.ahead p x _ hx (pl.edge p x o e hx ho (by simpa using he) hb);have:=ih q h1 y h2;rw[h3]at this;have ah:e.on<listed.size:=(JL.1 this).1;exact(x7X false ah).2 this};rw[hr]at this;cases this
theorem Inv.done {a:Act}{w:World}{β:Bm}{G:Gp}{c:Nat}{S:Nat->Prop}(v:Inv P self sz all L st β0 w0 ds S a w β G c)(h:Hyp P self sz all L st β0)(hS:∀(p:Nat) (x:PI),L[p]? =some x->S x.i):Ka P β0 (VJ (st 0).H) (st 0).n w0 β (VJ (st L.length).H) (st L.length).n w/\TR β (st L.length).T a.tmps/\a.tmps.size=sz/\a.defers=ds:=by(have calm:Calm L c L.length:=fun q y h1 h2 hy hk=>by have:=(v.effs q y hy hk).1 (hS q y hy);omega);have e:G=VJ (st L.length).H:=by{funext i;cases hg:VJ (st L.length).H i with|some o=>{rcases h.run.grown _ v.cle (Jj _) calm i o hg with h1|⟨q,y,h1,h2,h3,h4,h5,rfl,h7⟩;{exact v.inG i o h1};rw[v.newG q y h1 ⟨h3,h4,h5⟩ (hS q y h3)];exact h7}|none=>cases hG:G i with|none=>rfl|some o=>rcases v.outG i o hG with h1|⟨_,q,y,h1,h2,h3,h4⟩;{rw[h.run.grow h.names h.sound h.none0 _ v.cle (Jj _) calm i o h1]at hg;cases hg};have e':=v.newG q y h1 h2 h3;rw[<-h4,hG]at e';have cq:Calm L (q+1) L.length:=fun r z r1 r2=>calm r z (by omega) r2;rw[h.run.grow h.names h.sound h.none0 _ (x8G h2.1) (Jj _) cq i o e'.symm]at hg;cases hg};refine⟨e▸v.ext,fun t=>v.tmp t _ ?_,v.size,v.dfr⟩;rcases h.run.tmp h.names h.sound t L.length (Jj _)with⟨q,y,_,h2,h3⟩|⟨h1,h2⟩;{exact .inl ⟨q,y,h2,hS _ _ h2.1,h3⟩};exact .inr ⟨fun q y hw=>absurd hw (h1 q y (x8G hw.1)),h2⟩
theorem u6K (h:Hyp P self sz all L st β0){ops:Array Oper}(aC:ops.toList=all){ro:GA Nat}{Q:Exit->Act->World->Prop} (hQ:∀a w β,Ka P β0 (VJ (st 0).H) (st 0).n w0 β (VJ (st L.length).H) (st L.length).n w->TR β (st L.length).T a.tmps->a.tmps.size=sz->a.defers=ds->Q .normal a w):∀(fuel:Nat) (listed:Array Bool) (a:Act) (w:World) (β:Bm) (G:Gp) (c:Nat),listed.size=ops.size->listed.toList.count false<=fuel->Inv P self sz all L st β0 w0 ds (x8J listed) a w β G c->wpAnyIn (fen ro) 0 P .any ops Q fuel listed a w|0,listed,a,w,β,G,c,hs,hc,hv=>by{have hr:Region.ready .any ops listed=[]:=by{cases hl:Region.ready .any ops listed with|nil=>rfl|cons i r=>(have:i∈Region.ready .any ops listed:=by rw[hl];simp);(obtain⟨h1,o,h2,_⟩:=mem_ready.1 this;have ah:i<listed.size:=by rw[hs];exact(JL.1 h2).1);have hm:false∈listed.toList:=by{(have:listed[i]=false:=by simpa[Array.getD,ah]using h1);rw[<-this];simp};have:=Qm.2 hm;omega};refine⟨hr,?_⟩;obtain⟨e1,e2,e3,e4⟩:=hv.done h (u7D h.run.plan aC hs hr);exact hQ a w β e1 e2 e3 e4}|fuel+1,listed,a,w,β,G,c,hs,hc,hv=>by refine⟨fun hr=>?_,fun i hi=>?_⟩;{obtain⟨e1,e2,e3,e4⟩:=hv.done h (u7D h.run.plan aC hs hr);exact hQ a w β e1 e2 e3 e4};(obtain⟨h1,o,h2,h3⟩:=mem_ready.1 hi;have ho:all[i]? =some o:=by rw[<-aC,Array.getElem?_toList];exact h2);(have ah:i<listed.size:=by rw[hs];exact(JL.1 h2).1);(obtain⟨p,x,hx,rfl⟩:=h.run.plan.full i o ho;have hS:¬x8J listed x.i:=fun hl=>by rw[(x7X true ah).2 hl]at h1;cases h1);have he:∀e∈o.after.toList,Region.binds .any e=true->x8J listed e.on:=fun e hm hb=>by{have:=h3 e (by simpa using hm) hb;by_cases sm:e.on<listed.size;{exact(x7X false sm).1 this};simp[Array.getD,sm]at this};have hK:∀a' w' β' G' c',Inv P self sz all L st β0 w0 ds (fun i=>x8J listed i\/i=x.i) a' w' β' G' c'->wpAnyIn (fen ro) 0 P .any ops Q fuel (listed.setIfInBounds x.i true) a' w':=fun a' w' β' G' c' jv=>by{refine u6K h aC hQ fuel _ a' w' β' G' c' (by simpa using hs) ?_ (by rw[u8H ah];exact jv);(have e0:listed.toList[x.i]'(by simpa using ah)=false:=by simpa[Array.getD,ah]using h1);rw[ZN,List.count_set (by simpa using ah),e0];have b1:((false==false:Bool))=true:=rfl;have b2:((true==false:Bool))=false:=rfl;rw[b1,b2,JE rfl,JZ (by simp)];omega};cases hk:x.kd with|free=>{exact hv.free h hx ho hk hS he aC hK}|load=>{exact hv.load h hx ho hk hS he aC hK}|eff=>exact hv.eff h hx ho hk hS he aC hK
theorem u9W (hm:P.follows .mixedOrders=true)(hN:x3M P)(af:∀t H n,x6W P t H n (self t H n)){rd:GA Nat}{sz id:Nat}{ops:Array Oper}{T T':Tm}{H H':Hp}{n n':Nat}{ex:Ex} (h:u0A self T H n (y1B P sz ops.toList)=.ok ex T' H' n'):KF P rd sz (.region id ops true) T H n ex T' H' n':=by cases hp:y1B P sz ops.toList with|none=>{rw[hp]at h;cases h}|some L=>rw[hp]at h;have h:EV self L ⟨T,H,n,H,0,0,[]⟩=.ok ex T' H' n':=h;obtain⟨st,h0,h1,rfl,rfl,rfl,rfl⟩:=z8K L _ _ _ _ _ h;have d:KP P self sz ops.toList L st:=⟨z0L hp,h1,by rw[h0],by rw[h0],by rw[h0]⟩;(have e1:(st 0).H=H:=by rw[h0]);(have e2:(st 0).n=n:=by rw[h0]);(have e3:(st 0).T=T:=by rw[h0]);have aO:=d.mono hN af (Qk L.length) (Jj _);rw[e1,e2]at aO;refine KF.mk' (by simp) aO fun β w a ro lo Q hT hz hW hf hr hM hQ=>?_;refine wpIn_region_any hm ?_;have oX:WR P β (VJ H) {w with drawn:=w.drawn+1}:=hW.congr rfl;have hy:Hyp P self sz ops.toList L st β:=⟨d,hN,af,fun i a b=>by{cases hg:VJ (st 0).H i with|none=>rfl|some o=>rw[e1]at hg;rw[e2]at a;exact absurd (hf i a b) (hW.lay hg)},by rw[e2];exact hf⟩;refine u6K (w0:= {w with drawn:=w.drawn+1}) (ds:=a.defers) hy rfl (fun a' w' γ x1 x2 x3 x4=>?_) ops.size _ a _ β (VJ H) 0 (by simp) (JH QS (by simp)) ?_;{rw[e1,e2]at x1;exact hQ γ a' w' ⟨x1.congr0 rfl rfl rfl rfl,x2,x3,by rw[x4];exact hM.ext (x1.congr0 rfl rfl rfl rfl) hf aO.1⟩};have nl:∀i,¬x8J (Array.replicate ops.size false) i:=fun i hl=>by{unfold x8J at hl;rw[Array.getElem?_replicate]at hl;split at hl<;>simp at hl};refine⟨fun i o _ hl=>absurd hl (nl i),Qk _,.inl rfl,fun q y _ _=>⟨fun hl=>absurd hl (nl _),fun hl=>by omega⟩,fun i o e=>by rw[e1]at e;exact e,fun i o e=>by rw[e1];exact .inl e,fun q y _ _ hl=>absurd hl (nl _),fun t v hv=>?_,hz,rfl,?_,fun q y pI _=>?_⟩;{rcases hv with⟨q,y,_,hl,_⟩|⟨_,rfl⟩;{exact absurd hl (nl _)};rw[e3];exact hT t};{rw[e1];exact{Ka.refl (n:=(st 0).n) oX with same:=fun _ _=>rfl}};have nI:=x8G pI;have l1:=hy.le (Qk q) (Jn nI);have l2:=hy.le (show q+1<=L.length from nI) (Jj _);intro i a b;exact hf i (by omega) (by omega)
end
variable [GT]
section
variable {P:GF} {self:Task->Hp->Nat->R}
theorem v0J (hm:P.follows .mixedOrders=true)(hN:x3M P)(af:∀t H n,x6W P t H n (self t H n)){rd:GA Nat}{fn:FuncId}{sz:Nat}{c:Code}{T T':Tm}{H H':Hp}{n n':Nat}{ex:Ex} (h:y5D P self rd fn sz T H n c=.ok ex T' H' n'):KF P rd sz c T H n ex T' H' n':=by cases c with|skip=>{cases h;exact KF.stay (by simp) fun ro Q a w hq=>wpIn_skip hq}|label l=>{cases h;exact KF.stay (by simp) fun ro Q a w hq=>wpIn_label hq}|exit id=>{cases h;exact KF.stay (by simp) fun ro Q a w hq=>wpIn_exit hq}|ret=>{cases h;exact KF.stay (by simp) fun ro Q a w hq=>wpIn_ret hq}|seq x y=>{obtain⟨h1,m,h2⟩:=z5R af (show seqK self rd fn sz y (self (.code rd fn sz x T) H n)=.ok ex T' H' n' from h);exact KF.mk' (by simp) h1 fun β w a ro lo Q x1 x2 x3 x4 x5 x6 x7=>wpIn_seq (Zh (h2 β w a ro lo Q x1 x2 x3 x4 x5 x6 x7) fun e a' w' hh=>by cases e<;>first|exact WpX.wp hh|exact hh)}|cond c x y=>{obtain⟨h1,h2⟩:=y1N (show cond (Vp c) (v6Z self rd fn sz x y T H n (ev T c)) .bad=.ok ex T' H' n' from h);exact v0E af h1 h2}|block id b=>{exact u2X af h}|loop b=>{obtain⟨h1,m,h2⟩:=z5R af (show seqK self rd fn sz (.loop b) (self (.code rd fn sz b T) H n)=.ok ex T' H' n' from h);exact⟨h1,m+1,fun β w a ro lo Q x1 x2 x3 x4 x5 x6 x7=>h2 β w a ro lo Q x1 x2 x3 x4 x5 x6 x7⟩}|region id ops b=>{cases b with|true=>{exact u9W hm hN af h}|false=>have h:y6C P self sz ops.toList ops.toList T H n=.ok ex T' H' n':=h;obtain⟨rfl,h2,h3⟩:=y3C hN af (ops:=ops) rfl ops.toList [] T H n ex T' H' n' rfl h;refine KF.mk' (by simp) h2 fun β w a ro lo Q x1 x2 x3 x4 x5 x6 x7=>wpIn_region ?_;have:=h3 β w a ro lo Q x1 x2 x3 x4 x6 x7;rw[List.range_eq_range'];simpa using this}|rangeFunc f ps assign body=>{exact u0F hN af h}|_=>cases h
theorem u7R {hk:Kl}(mN:Km P hk)(hm:P.follows .mixedOrders=true)(hN:x3M P)(af:∀t H n,x6W P t H n (self t H n))(t:Task)(H:Hp)(n:Nat):x6W P t H n (step P hk self t H n):=by cases hr:step P hk self t H n with|bad=>{cases t<;>trivial}|ok ex T' H' n'=>cases t with|code rd fn sz c T=>{exact v0J hm hN af hr}|call f args=>{exact v0K mN af hr}|yield l args=>exact z9M af hr
theorem y0W {hk:Kl}(mN:Km P hk)(hm:P.follows .mixedOrders=true)(hN:x3M P):∀(k:Nat) (t:Task) (H:Hp) (n:Nat),x6W P t H n (run P hk k t H n)|0,t,H,n=>by cases t<;>trivial|k+1,t,H,n=>u7R mN hm hN (y0W mN hm hN k) t H n
def namesB (P:GF):Bool:=P.funcs.all fun fn=>!(fn.name== "runtime.NumGoroutine")
theorem y6S (h:namesB P=true):x3M P:=fun f fn hf=>by have:=Array.all_eq_true_iff_forall_mem.1 h fn (Array.mem_of_getElem? hf);simpa using this
noncomputable def endsWith (P:GF)(k:Nat)(f:FuncId)(v:GB):Bool:=match run P v3L k (.call f []) .leaf 0 with|.ok _ T _ _=>cond (plain v) (veq (Um T 0) v) false|.bad=>false
theorem closed_run (hm:P.follows .mixedOrders=true)(hN:namesB P=true){k:Nat}{f:FuncId}{v:GB}(h:endsWith P k f v=true)(w:World)(dK:Ke w):Calls P f #[] w fun e w'=>e=.returned v/\(∀b,b<w.heap.size->w'.heap[b]? =w.heap[b]?)/\w.heap.size<=w'.heap.size/\w'.os=w.os/\w'.output=w.output/\w'.tape=w.tape:=by unfold endsWith at h;split at h;{rename_i ex T' H' n' hr;obtain⟨h1,h2⟩:=YI h;have hs:=y0W z6S hm (y6S hN) k (.call f []) .leaf 0;rw[hr]at hs;have hs:v0Y P f [] .leaf 0 (Um T' 0) H' n':=hs;have no:∀i o,VJ .leaf i=some o->False:=fun i o e=>by{rw[y1J]at e;cases e};have hW:WR P (fun _=>none) (VJ .leaf) w:=⟨fun i o e=>(no i o e).elim,fun i j b c o p e=>(no i o e).elim,dK,fun g cs hg i o c e=>(no i o e).elim⟩;have:=hs.2.2 (fun _=>none) w [] .nil hW (fun _ _ _=>rfl);refine Zc (QF.1 this) ?_;rintro e w' ⟨c,γ,rfl,hv,hE⟩;refine⟨?_,fun b hb=>hE.frame b hb fun i o c e=>(no i o e).elim,hE.size,hE.os,hE.out,hE.tape⟩;rw[u3V h2]at hv;rw[y4N h1 hv]};cases h
end
end Go.Xec
noncomputable section
namespace Go.Xec
open Go
variable [GT]
section
variable {P:GF}
def x6N (l:List GB):Bool:=List.rec true (fun v _ ih=>cond (plain v) ih false) l
def veqLL (l:List GB):List GB->Bool:=List.rec (fun m=>List.casesOn m true (fun _ _=>false)) (fun x _ ih m=>List.casesOn m false (fun y m=>cond (veq x y) (ih m) false)) l
def u4X:GB->Bool|.tuple a=>x6N a.toList|v=>plain v
def veqR:GB->GB->Bool|.tuple a,.tuple b=>veqLL a.toList b.toList|a,b=>veq a b
theorem u3W:∀{l m:List GB},veqLL l m=true->l=m|[],[],_=>rfl|[],_::_,h=>by cases h|_::_,[],h=>by cases h|x::l,y::m,h=>by have h:cond (veq x y) (veqLL l m) false=true:=h;obtain⟨h1,h2⟩:=YI h;rw[u3V h1,u3W h2]
theorem veqR_eq {a b:GB}(h:veqR a b=true):a=b:=by unfold veqR at h;split at h;{rename_i x y;rw[show x=y from Jl (u3W h)]};exact u3V h
theorem x9B {β:Bm}:∀{l:List GB},x6N l=true->VL β l l|[],_=>.nil|v::l,h=>by have h:cond (plain v) (x6N l) false=true:=h;obtain⟨h1,h2⟩:=YI h;exact .cons (x5N h1) (x9B h2)
theorem y0P {β:Bm}:∀{l m:List GB},x6N l=true->VL β l m->m=l|_,_,_,.nil=>rfl|v::l,_,h,.cons a b=>by have h:cond (plain v) (x6N l) false=true:=h;obtain⟨h1,h2⟩:=YI h;rw[y4N h1 a,y0P h2 b]
theorem z6C {β:Bm}{v w:GB}(h:u4X v=true)(r:VR β v w):w=v:=by cases r with|tuple a b hl=>{exact JV Value.tuple (Jl (y0P (β:=β) h hl))}|_=>exact y4N (β:=β) (by simpa[u4X]using h) (by first|assumption|(constructor<;>assumption))
def givesB (P:GF)(k:Nat)(f:FuncId)(args:List GB)(v:GB):Bool:=cond (x6N args) (match run P v3L k (.call f args) .leaf 0 with|.ok _ T _ _=>cond (u4X v) (veqR (Um T 0) v) false|.bad=>false) false
theorem Wg (hm:P.follows .mixedOrders=true)(hN:namesB P=true){k:Nat}{f:FuncId}{args:List GB}{v:GB}(h:givesB P k f args v=true)(w:World)(dK:Ke w):Calls P f args.toArray w fun e w'=>e=.returned v/\(∀b,b<w.heap.size->w'.heap[b]? =w.heap[b]?)/\w.heap.size<=w'.heap.size/\w'.os=w.os/\w'.output=w.output/\w'.tape=w.tape:=by unfold givesB at h;obtain⟨h0,h⟩:=YI h;split at h;{rename_i ex T' H' n' hr;obtain⟨h1,h2⟩:=YI h;have hs:=y0W z6S hm (y6S hN) k (.call f args) .leaf 0;rw[hr]at hs;have hs:v0Y P f args .leaf 0 (Um T' 0) H' n':=hs;have no:∀i o,VJ .leaf i=some o->False:=fun i o e=>by{rw[y1J]at e;cases e};have hW:WR P (fun _=>none) (VJ .leaf) w:=⟨fun i o e=>(no i o e).elim,fun i j b c o p e=>(no i o e).elim,dK,fun g cs hg i o c e=>(no i o e).elim⟩;have:=hs.2.2 (fun _=>none) w args (x9B h0) hW (fun _ _ _=>rfl);refine Zc (QF.1 this) ?_;rintro e w' ⟨c,γ,rfl,hv,hE⟩;refine⟨?_,fun b hb=>hE.frame b hb fun i o c e=>(no i o e).elim,hE.size,hE.os,hE.out,hE.tape⟩;rw[veqR_eq h2]at hv;rw[z6C h1 hv]};cases h
end
end Go.Xec
noncomputable section
namespace Go.Yec
open Go Go.Xec
abbrev Ch:=List (Nat×Bool)
inductive PV (D:Type) where
 |undef
 |bool (b:Bool)
 |int (k:IntKind) (n:Int)
 |str (s:GS)
 |agg (l:List (PV D))
 |aggI (k:IntKind) (l:List Int)
 |tup (l:List (PV D))
 |nilp|nils|nilf|nili
 |lptr (i off:Nat)
 |lelt (i:Nat) (ix:Int)
 |lsl (i:Nat)
 |fsl (esz n:Nat) (f:Nat->PV D)
 |fptr (v:PV D)
 |dat (d:D)
 |fn (f:FuncId) (first cap:List (PV D))
 |opt (C:Ch) (g:Bool) (v:PV D)
 |nx (b:Bool) (p c:Int)
 |celt (i:Nat) (ix:Int) (n:Nat)
 |sel (l:List (PV D)) (ix:Int)
inductive KR (D:Type) where
 |cells (l:List (PV D))
 |rowI (e:Nat) (k:IntKind) (l:List Int)
 |iter (s:GS) (p:Int)
inductive Cst where
 |bool (b:Bool)
 |int (k:IntKind) (n:Int)
 |str (s:GS)
 |nilp|nils|nilf|nili
 |agg (l:List Cst)
 deriving Repr,Inhabited
inductive Yd where
 |t (n:Nat)
 |c (v:Cst)
 |f (f:FuncId)
 deriving Repr,Inhabited
inductive Prim where|rng|nxt|mks (e:Nat) (k:IntKind)
 deriving Repr,Inhabited
inductive EK where|i|b|s
 deriving Repr,Inhabited
inductive WC where
 |mv (x:Yd)
 |nilck (x:Yd)
 |pick (c a b:Yd)
 |ari (op:BinOp) (x y:Yd)
 |div (op:BinOp) (x y:Yd)
 |shf (op:BinOp) (x y:Yd)
 |cmp (op:BinOp) (x y:Yd)
 |beq (neg:Bool) (x y:Yd)
 |scmp (neg:Bool) (x y:Yd)
 |aeq (neg:Bool) (ks:List EK) (x y:Yd)
 |scat (x y:Yd)
 |not (x:Yd)
 |neg (x:Yd)
 |iconv (k:IntKind) (x:Yd)
 |rstr (x:Yd)
 |slen (x:Yd)
 |sidx (x i:Yd)
 |aidx (n:Nat) (x i:Yd)
 |ssl (x:Yd) (lo hi:GA Yd)
 |b2s (x:Yd)
 |s2b (e:Nat) (x:Yd)
 |b2b (x:Yd)
 |mx (isMax:Bool) (x y:Yd)
 |box (e:Nat) (x:Yd)
 |alloc (z:List Cst)
 |allocI (e:Nat) (k:IntKind) (z:List Int)
 |faddr (x:Yd) (off:Nat)
 |fld (x:Yd) (off n:Nat) (agg:Bool)
 |ld (n:Nat) (agg:Bool) (x:Yd)
 |st (n:Nat) (x v:Yd)
 |bld (z:List Cst) (ps:List ((Nat×Nat)×Yd))
 |bslI (e:Nat) (k:IntKind) (len:Nat) (ps:List (Nat×Yd))
 |app (e:Nat) (s x:Yd)
 |llen (x:Yd)
 |iaddr (x i:Yd)
 |aaddr (n:Nat) (x i:Yd)
 |ext (x:Yd) (ix:Nat)
 |eqnil (sl neg:Bool) (x y:Yd)
 |call (f:FuncId) (args:List Yd)
 |prim (p:Prim) (args:List Yd)
 |callv (x:Yd) (args:List Yd)
 deriving Repr,Inhabited
structure YO where
 C:Ch
 dst:GA Tmp
 op:WC
 deriving Repr,Inhabited
inductive WN where
 |tmp (t:Nat)
 |cell (i off:Nat)
 |row (i:Nat)
 deriving Repr,Inhabited
inductive LTy where
 |int (k:IntKind)|bool|str|rowI (e:Nat) (k:IntKind)|iter
 deriving Repr,Inhabited
abbrev Kh:=List (WN×LTy)
inductive DK where|free|load|eff
 deriving Repr,Inhabited
structure YD where
 i:Nat
 D:Nat
 kd:DK
 o:YO
 deriving Repr,Inhabited
inductive YC where
 |skip
 |ops (l:List YO) (clr:List Nat)
 |draw (l:List YD) (clr:List Nat)
 |seq (a b:YC)
 |cond (c:Yd) (a b:YC)
 |block (id:Nat) (b:YC)
 |loop (h:Kh) (asg:List Nat) (b:YC)
 |exit (id:Nat)
 |ret
 deriving Repr,Inhabited
def LTy.ty:LTy->Type|.int _=>Int|.bool=>Bool|.str=>GS|.rowI _ _=>List Int|.iter=>GS×Int
def Tup:List (WN×LTy)->Type|[]=>Unit|[p]=>p.2.ty|p::q::r=>p.2.ty×Tup (q::r)
section
variable {D:Type}
abbrev Bt (D:Type):=Tr (GA (Nat×KR D))
abbrev Tt (D:Type):=Tr (PV D)
structure Y (D:Type) where
 T:Tt D
 B:Bt D
 m:Nat
def WX (B:Bt D)(i:Nat):GA (Nat×KR D):=Tr.get none B i
def Wc (B:Bt D)(i:Nat)(o:GA (Nat×KR D)):Bt D:=Tr.set none (Nat.succ i) B i o
def UJ (T:Tt D)(t:Nat):PV D:=Tr.get .undef T t
def UI (T:Tt D)(t:Nat)(v:PV D):Tt D:=Tr.set .undef (Nat.succ t) T t v
def UY (T:Tt D):GA Tmp->PV D->Tt D|some d,v=>UI T d v|none,_=>T
def Cst.pv (c:Cst):PV D:=Cst.rec (motive_1:=fun _=>PV D) (motive_2:=fun _=>List (PV D)) (fun b=>.bool b) (fun k n=>.int k n) (fun s=>.str s) .nilp .nils .nilf .nili (fun _ ih=>.agg ih) [] (fun _ _ a b=>a::b) c
def pvL (l:List Cst):List (PV D):=List.rec [] (fun c _ ih=>c.pv::ih) l
def eqC (l:Ch):Ch->Bool:=List.rec (fun m=>List.casesOn m true (fun _ _=>false)) (fun p _ ih m=>List.casesOn m false (fun q m=>cond (cond (Nat.beq p.1 q.1) (cond p.2 q.2 (!q.2)) false) (ih m) false)) l
def sufB (l' l:Ch):Bool:=List.rec (eqC l' []) (fun p l ih=>cond (eqC l' (p::l)) true ih) l
def GW (C:Ch):PV D->PV D|.opt C' _ v=>cond (sufB C' C) v .undef|v=>v
def Vu (T:Tt D)(C:Ch):Yd->PV D|.t n=>GW C (UJ T n)|.c v=>v.pv|.f g=>.fn g [] []
def x8H:PV D->Bool|.bool b=>b|_=>false
def lit (T:Tt D)(C:Ch)(p:Nat×Bool):Bool:=cond p.2 (x8H (GW C (UJ T p.1))) (!(x8H (GW C (UJ T p.1))))
def EO (T:Tt D)(C:Ch):Bool:=List.rec true (fun p C ih=>cond ih (lit T C p) false) C
def y7E:PV D->Bool|.bool _=>true|_=>false
def chOk (T:Tt D)(C:Ch):Bool:=List.rec true (fun p C ih=>cond (y7E (GW C (UJ T p.1))) ih false) C
inductive WJ (D:Type) where
 |bad
 |val (v:PV D)
 |par (b:Bool) (v:PV D)
 |ld (src:GA Nat) (v:PV D)
 |mk (b:KR D) (v:Nat->PV D)
 |wr (i:Nat) (b:KR D)
 |ap (ck:Bool) (i:GA Nat) (b:KR D)
def ikn:IntKind->Nat|.i8=>0|.i16=>1|.i32=>2|.i64=>3|.u8=>4|.u16=>5|.u32=>6|.u64=>7
def VW (a b:IntKind):Bool:=Nat.beq (ikn a) (ikn b)
def v5U (op:BinOp)(k:IntKind)(x y:Int):Int:=match op with|.and=>k.wrap (BitVec.ofInt k.bits x&&&BitVec.ofInt k.bits y).toNat|.or=>k.wrap (BitVec.ofInt k.bits x|||BitVec.ofInt k.bits y).toNat|.xor=>k.wrap (BitVec.ofInt k.bits x^^^BitVec.ofInt k.bits y).toNat|_=>k.wrap (BitVec.ofInt k.bits x&&& ~~~BitVec.ofInt k.bits y).toNat
def ariR (op:BinOp)(k:IntKind)(x y:Int):WJ D:=match op with|.add=>.val (.int k (k.wrap (x+y)))|.sub=>.val (.int k (k.wrap (x-y)))|.mul=>.val (.int k (k.wrap (x*y)))|.and=>.val (.int k (v5U .and k x y))|.or=>.val (.int k (v5U .or k x y))|.xor=>.val (.int k (v5U .xor k x y))|.andNot=>.val (.int k (v5U .andNot k x y))|_=>.bad
def v5K:Int->Bool|.ofNat n=>Nat.beq n 0|.negSucc _=>false
def divR (op:BinOp)(k:IntKind)(x y:Int):WJ D:=match op with|.quo=>.par (!v5K y) (.int k (k.wrap (x.tdiv y)))|.rem=>.par (!v5K y) (.int k (x.tmod y))|_=>.bad
def shfR (op:BinOp)(k:IntKind)(x y:Int):WJ D:=match op with|.shl=>.par (decide (0<=y)) (.int k (k.wrap (x*2^min y.toNat k.bits)))|.shr=>.par (decide (0<=y)) (.int k (x.fdiv (2^min y.toNat k.bits)))|_=>.bad
def cmpR (op:BinOp)(x y:Int):WJ D:=match op with|.eql=>.val (.bool (decide (x=y)))|.neq=>.val (.bool (!decide (x=y)))|.lss=>.val (.bool (decide (x<y)))|.leq=>.val (.bool (decide (x<=y)))|.gtr=>.val (.bool (decide (y<x)))|.geq=>.val (.bool (decide (y<=x)))|_=>.bad
def onI2 (x y:PV D)(f:IntKind->Int->Int->WJ D):WJ D:=match x,y with|.int k a,.int k' b=>cond (VW k k') (f k a b) .bad|_,_=>.bad
def u7Y (x y:PV D)(f:IntKind->Int->Int->WJ D):WJ D:=match x,y with|.int k a,.int _ b=>f k a b|_,_=>.bad
def Vn (neg b:Bool):Bool:=cond neg (!b) b
def UH (s:GS)(i:Int):Int:=((s.getD i.toNat 0).toNat:Int)
def slen (s:GS):Int:=(s.length:Int)
def VV (i n:Int):Bool:=decide (0<=i/\i<n)
def UX (s:GS)(lo hi:Int):GS:=(s.drop lo.toNat).take (hi.toNat-lo.toNat)
def y5Z (n:Int):GS:=(Utf8.encode n).data.toList
def x5B (s:GS)(p:Int):Int:=((Utf8.decode ⟨s.toArray⟩ p.toNat).1:Int)
def y2D (s:GS)(p:Int):Int:=cond (decide (p<slen s)) (p+((Utf8.decode ⟨s.toArray⟩ p.toNat).2:Int)) p
def Yn (l:List Int):GS:=l.map fun n=>UInt8.ofNat n.toNat
def Yx (s:GS):List Int:=s.map fun b=>(b.toNat:Int)
def Yr (l:List Int)(i:Int):Int:=l.getD i.toNat 0
def v5H (l:List Int)(i x:Int):List Int:=l.set i.toNat x
def VE (l:List Int):Int:=(l.length:Int)
def sslR (s:GS):GA (PV D)->GA (PV D)->WJ D|none,none=>.val (.str s)|some (.int _ lo),none=>.par (decide (0<=lo/\lo<=slen s)) (.str (UX s lo (slen s)))|none,some (.int _ hi)=>.par (decide (0<=hi/\hi<=slen s)) (.str (UX s 0 hi))|some (.int _ lo),some (.int _ hi)=>.par (decide (0<=lo/\lo<=hi/\hi<=slen s)) (.str (UX s lo hi))|_,_=>.bad
def Yv (x:PV D)(f:GS->WJ D):WJ D:=match x with|.str s=>f s|_=>.bad
def x3K:PV D->List (PV D)|.agg l=>l|v=>[v]
def z8X (e:Nat):PV D->KR D|.aggI k l=>.rowI e k l|v=>.cells (x3K v)
def v1Q:Nat->List (PV D)->GA (List (PV D)):=Nat.rec (fun _=>some []) (fun _ ih l=>List.casesOn l none (fun x l=>Option.casesOn (ih l) none (fun r=>some (x::r))))
def cutP (l:List (PV D)):Nat->Nat->GA (List (PV D)):=List.rec (fun k n=>Nat.casesOn k (v1Q n []) (fun _=>none)) (fun x l ih k n=>Nat.casesOn k (v1Q n (x::l)) (fun k=>ih k n)) l
def v2W (vs:List (PV D)):List (PV D)->GA (List (PV D)):=List.rec (fun l=>some l) (fun v _ ih l=>List.casesOn l none (fun _ l=>Option.casesOn (ih l) none (fun r=>some (v::r)))) vs
def setP (l:List (PV D)):Nat->List (PV D)->GA (List (PV D)):=List.rec (fun k vs=>Nat.casesOn k (v2W vs []) (fun _=>none)) (fun x l ih k vs=>Nat.casesOn k (v2W vs (x::l)) (fun k=>Option.casesOn (ih k vs) none (fun r=>some (x::r)))) l
def oneP:PV D->Bool|.agg _|.aggI _ _|.tup _|.undef|.dat _|.opt _ _ _|.nx _ _ _|.sel _ _=>false|_=>true
def x5X (l:List (PV D)):Bool:=List.rec true (fun v _ ih=>cond (oneP v) ih false) l
def z6G (agg:Bool)(off n:Nat)(l:List (PV D)):GA (PV D):=cond agg (Option.casesOn (cutP l off n) none (fun r=>some (.agg r))) (VF l off)
def ldR (B:Bt D)(n:Nat)(agg:Bool):PV D->WJ D|.lptr i off=>(match WX B i with|some (_,.cells l)=>Option.casesOn (z6G agg off n l) .bad (fun v=>.ld (some i) v)|_=>.bad)|.lelt i ix=>(match WX B i with|some (_,.rowI _ k l)=>cond agg .bad (.ld (some i) (.int k (Yr l ix)))|_=>.bad)|.celt i ix n=>(match WX B i with|some (_,.cells l)=>cond (cond agg false (Nat.beq n l.length)) (.ld (some i) (.sel l ix)) .bad|_=>.bad)|_=>.bad
def Ub (B:Bt D)(n:Nat)(v:PV D):PV D->WJ D|.lptr i off=>(match WX B i with|some (_,.cells l)=>cond (cond (Nat.beq (x3K v).length n) (x5X (x3K v)) false) (Option.casesOn (setP l off (x3K v)) .bad (fun l'=>.wr i (.cells l'))) .bad|_=>.bad)|.lelt i ix=>(match WX B i,v with|some (_,.rowI e k l),.int k' x=>cond (cond (VW k k') (Nat.beq n 1) false) (.wr i (.rowI e k (v5H l ix x))) .bad|_,_=>.bad)|_=>.bad
def bldL (ps:List ((Nat×Nat)×PV D)):List (PV D)->GA (List (PV D)):=List.rec (fun cells=>some cells) (fun p _ ih cells=>cond (cond (Nat.beq (x3K p.2).length p.1.2) (x5X (x3K p.2)) false) (Option.casesOn (setP cells p.1.1 (x3K p.2)) none ih) none) ps
def intsL (k:IntKind)(l:List (PV D)):GA (List Int):=List.rec (some []) (fun v _ ih=>match v with|.int k' n=>cond (VW k k') (Option.casesOn ih none (fun r=>some (n::r))) none|_=>none) l
def setI (l:List Int):Nat->Int->GA (List Int):=List.rec (fun _ _=>none) (fun x l ih k v=>Nat.casesOn k (some (v::l)) (fun k=>Option.casesOn (ih k v) none (fun r=>some (x::r)))) l
def Wd (k:IntKind)(ps:List (Nat×PV D)):List Int->GA (List Int):=List.rec (fun l=>some l) (fun p _ ih l=>match p.2 with|.int k' n=>cond (VW k k') (Option.casesOn (setI l p.1 n) none ih) none|_=>none) ps
def WH (n:Nat)(r:List Int):Bool:=decide (n+r.length<=137438953472)
def WP (B:Bt D)(e:Nat):PV D->PV D->WJ D|.nils,.lsl j=>(match WX B j with|some (_,.rowI _ k (x::r))=>.ap (WH 0 (x::r)) none (.rowI e k (x::r))|_=>.bad)|.lsl i,.lsl j=>(match WX B i,WX B j with|some (_,.rowI e' k l),some (_,.rowI _ k' (x::r))=>cond (cond (VW k k') (cond (Nat.beq e' e) (!(Nat.beq i j)) false) false) (.ap (WH l.length (x::r)) (some i) (.rowI e k (l++(x::r)))) .bad|_,_=>.bad)|_,_=>.bad
def v4Z (B:Bt D):PV D->WJ D|.lsl i=>(match WX B i with|some (_,.rowI _ _ l)=>.val (.int .i64 (VE l))|_=>.bad)|.nils=>.val (.int .i64 0)|.fsl _ n _=>.val (.int .i64 (n:Int))|_=>.bad
def z7G (B:Bt D):PV D->PV D->WJ D|.lsl i,.int _ ix=>(match WX B i with|some (_,.rowI _ _ l)=>.par (VV ix (VE l)) (.lelt i ix)|_=>.bad)|_,_=>.bad
def selP (c:Bool):PV D->PV D->WJ D|.bool a,.bool b=>.val (.bool (cond c a b))|.int k a,.int k' b=>cond (VW k k') (.val (.int k (cond c a b))) .bad|.str a,.str b=>.val (.str (cond c a b))|.bool a,.undef=>.par c (.bool a)|.undef,.bool b=>.par (!c) (.bool b)|_,_=>.bad
def isPtr:PV D->Bool|.lptr _ _|.lelt _ _|.fptr _=>true|_=>false
def y4D:PV D->Bool|.aggI _ _=>true|v=>x5X (x3K v)
def UO (n:Nat):List Int:=Nat.rec [] (fun _ ih=>0::ih) n
def eqP1:EK->PV D->PV D->GA Bool|.b,.bool a,.bool b=>some (a==b)|.i,.int k a,.int k' b=>cond (VW k k') (some (decide (a=b))) none|.s,.str a,.str b=>some (decide (a=b))|_,_,_=>none
def eqPL (ks:List EK):List (PV D)->List (PV D)->GA Bool:=List.rec (fun l m=>List.casesOn l (List.casesOn m (some true) (fun _ _=>none)) (fun _ _=>none)) (fun k _ ih l m=>List.casesOn l none (fun v l=>List.casesOn m none (fun w m=>Option.casesOn (eqP1 k v w) none (fun c=>Option.casesOn (ih l m) none (fun d=>some (cond c d false)))))) ks
def nxR (b:Bool)(p c:Int):Nat->WJ D|0=>.val (.bool b)|1=>.par b (.int .i64 p)|2=>.par b (.int .i32 c)|_=>.bad
def Vt (B:Bt D)(ρ:Yd->PV D):WC->WJ D|.mv x=>.val (ρ x)|.nilck x=>cond (isPtr (ρ x)) (.val (ρ x)) .bad|.pick _ _ _=>.bad|.ari op x y=>onI2 (ρ x) (ρ y) (ariR op)|.div op x y=>onI2 (ρ x) (ρ y) (divR op)|.shf op x y=>u7Y (ρ x) (ρ y) (shfR op)|.cmp op x y=>onI2 (ρ x) (ρ y) (fun _=>cmpR op)|.beq neg x y=>(match ρ x,ρ y with|.bool a,.bool b=>.val (.bool (Vn neg (a==b)))|_,_=>.bad)|.scmp neg x y=>(match ρ x,ρ y with|.str a,.str b=>.val (.bool (Vn neg (decide (a=b))))|_,_=>.bad)|.aeq neg ks x y=>(match ρ x,ρ y with|.agg l,.agg m=>List.casesOn ks .bad (fun k ks=>Option.casesOn (eqPL (k::ks) l m) .bad (fun c=>.val (.bool (Vn neg c))))|_,_=>.bad)|.scat x y=>(match ρ x,ρ y with|.str a,.str b=>.par (decide (a.length+b.length<9223372036854775808)) (.str (a++b))|_,_=>.bad)|.not x=>(match ρ x with|.bool a=>.val (.bool (!a))|_=>.bad)|.neg x=>(match ρ x with|.int k a=>.val (.int k (k.wrap (0-a)))|_=>.bad)|.iconv k x=>(match ρ x with|.int _ a=>.val (.int k (k.wrap a))|_=>.bad)|.rstr x=>(match ρ x with|.int _ a=>.val (.str (y5Z a))|_=>.bad)|.slen x=>Yv (ρ x) fun s=>.val (.int .i64 (slen s))|.sidx x i=>(Yv (ρ x) fun s=>match ρ i with|.int _ ix=>.par (VV ix (slen s)) (.int .u8 (UH s ix))|_=>.bad)|.aidx n x i=>(match ρ x,ρ i with|.aggI k l,.int _ ix=>.par (cond (VV ix (n:Int)) (VV ix (VE l)) false) (.int k (Yr l ix))|_,_=>.bad)|.ssl x lo hi=>Yv (ρ x) fun s=>sslR s (lo.map ρ) (hi.map ρ)|.b2s x=>(match ρ x with|.lsl i=>(match WX B i with|some (_,.rowI _ k l)=>cond (VW k .u8) (.ld (some i) (.str (Yn l))) .bad|_=>.bad)|_=>.bad)|.s2b e x=>Yv (ρ x) fun s=>.mk (.rowI e .u8 (Yx s)) (fun i=>.lsl i)|.b2b x=>(match ρ x with|.lsl i=>(match WX B i with|some (_,.rowI _ _ (_::_))=>.ld (some i) (.lsl i)|_=>.bad)|_=>.bad)|.mx isMax x y=>onI2 (ρ x) (ρ y) fun k a b=>.val (.int k (cond isMax (max a b) (min a b)))|.box e x=>cond (y4D (ρ x)) (.mk (z8X e (ρ x)) (fun i=>.lptr i 0)) .bad|.alloc z=>.mk (.cells (pvL z)) (fun i=>.lptr i 0)|.allocI e k z=>.mk (.rowI e k z) (fun i=>.lptr i 0)|.faddr x off=>(match ρ x with|.lptr i o=>.val (.lptr i (Nat.add o off))|_=>.bad)|.fld x off n agg=>(match ρ x with|.agg l=>Option.casesOn (z6G agg off n l) .bad (fun v=>.val v)|_=>.bad)|.ld n agg x=>ldR B n agg (ρ x)|.st n x v=>Ub B n (ρ v) (ρ x)|.bld z ps=>Option.casesOn (bldL (ps.map fun p=>(p.1,ρ p.2)) (pvL z)) .bad (fun l=>.val (.agg l))|.bslI e k len ps=>Option.casesOn (Wd k (ps.map fun p=>(p.1,ρ p.2)) (UO len)) .bad (fun l=>.mk (.rowI e k l) (fun i=>.lsl i))|.app e s x=>WP B e (ρ s) (ρ x)|.llen x=>v4Z B (ρ x)|.iaddr x i=>z7G B (ρ x) (ρ i)|.aaddr n x i=>(match ρ x,ρ i with|.lptr j 0,.int _ ix=>(match WX B j with|some (_,.rowI _ _ l)=>.par (cond (VV ix (n:Int)) (VV ix (VE l)) false) (.lelt j ix)|some (_,.cells _)=>.par (VV ix (n:Int)) (.celt j ix n)|_=>.bad)|_,_=>.bad)|.ext x ix=>(match ρ x with|.tup l=>Option.casesOn (VF l ix) .bad (fun v=>.val v)|.nx b p c=>nxR b p c ix|_=>.bad)|.eqnil sl neg x y=>(match sl,ρ x,ρ y with|false,.nilp,.nilp=>.val (.bool (!neg))|false,.lptr _ _,.nilp=>.val (.bool neg)|false,.nilp,.lptr _ _=>.val (.bool neg)|false,.fptr _,.nilp=>.val (.bool neg)|false,.nilp,.fptr _=>.val (.bool neg)|true,.nils,.nils=>.val (.bool (!neg))|_,_,_=>.bad)|.call _ _=>.bad|.prim _ _=>.bad|.callv _ _=>.bad
inductive PrimR (D:Type) where
 |bad
 |ok (ck:Bool) (v:PV D) (B:Bt D) (m:Nat)
def u0G (p:Prim)(args:List (PV D))(B:Bt D)(m:Nat):PrimR D:=match p,args with|.rng,[.str s]=>.ok true (.lptr m 0) (Wc B m (some (m,.iter s 0))) (Nat.succ m)|.nxt,[.lptr i 0]=>(match WX B i with|some (_,.iter s p)=>.ok true (.nx (decide (p<slen s)) p (x5B s p)) (Wc B i (some (m,.iter s (y2D s p)))) (Nat.succ m)|_=>.bad)|.mks e k,[.int _ n]=>.ok (decide (0<=n/\n<=1000000)) (.lsl m) (Wc B m (some (m,.rowI e k (UO n.toNat)))) (Nat.succ m)|_,_=>.bad
inductive KB (D:Type):Type 1 where
 |bad
 |tot (v:PV D)
 |par (b:Bool) (v:PV D)
 |opt (X:Type) (o:GA X) (d:X) (out:X->PV D)
 |inl (touch:List Nat) (d:PV D) (run:(R:Type)->(PV D->Bt D->Nat->GA R)->GA R)
abbrev Tbl (D:Type):=FuncId->List (PV D)->Bt D->Nat->KB D
def selL (tbl:Tbl D)(args:List (PV D))(B:Bt D)(m:Nat)(ix:Int)(l:List (PV D)):Nat->GA (List Nat×((R:Type)->(PV D->Bt D->Nat->GA R)->GA R)):=List.rec (fun _=>some ([],fun _ _=>none)) (fun v _ ih j=>Option.casesOn (ih (Nat.succ j)) none fun q=>match v with|.fn f [] []=>(match tbl f args B m with|.inl tc _ run=>some (tc++q.1,fun R K=>cond (decide (ix=(j:Int))) (run R K) (q.2 R K))|.tot v=>some (q.1,fun R K=>cond (decide (ix=(j:Int))) (K v B m) (q.2 R K))|.opt _ o _ out=>some (q.1,fun R K=>cond (decide (ix=(j:Int))) (Option.bind o fun x=>K (out x) B m) (q.2 R K))|_=>none)|_=>some (q.1,fun R K=>cond (decide (ix=(j:Int))) none (q.2 R K))) l
def selC (tbl:Tbl D)(x:PV D)(args:List (PV D))(B:Bt D)(m:Nat):KB D:=match x with|.sel l ix=>Option.casesOn (selL tbl args B m ix l 0) .bad fun q=>.inl q.1 .undef q.2|_=>.bad
section
variable {R:Type}
def noOpt:PV D->PV D|.opt _ _ _=>.undef|v=>v
def dstV (T:Tt D)(C:Ch)(v:PV D):PV D:=match C with|[]=>noOpt v|C=>.opt C (EO T C) v
def UF (st:Y D)(o:YO)(v:PV D):Y D:=⟨UY st.T o.dst (dstV st.T o.C v),st.B,st.m⟩
def imp (st:Y D)(C:Ch)(b:Bool):Bool:=match C with|[]=>b|C=>cond (EO st.T C) b true
def y7H (C:Ch)(x:GA R):GA R:=match C with|[]=>x|_=>none
def newB (st:Y D)(o:YO)(b:KR D)(v:Nat->PV D):Y D:=⟨UY st.T o.dst (noOpt (v st.m)),Wc st.B st.m (some (st.m,b)),Nat.succ st.m⟩
def wrB (st:Y D)(o:YO)(i:Nat)(b:KR D):Y D:=⟨UY st.T o.dst .undef,Wc st.B i (some (st.m,b)),Nat.succ st.m⟩
def apB (st:Y D)(o:YO)(i:GA Nat)(b:KR D):Y D:=⟨UY st.T o.dst (.lsl st.m),Wc (match i with|some i=>Wc st.B i none|none=>st.B) st.m (some (st.m,b)),Nat.succ st.m⟩
def skipG (st:Y D)(o:YO)(K:Y D->GA R):GA R:=match o.C with|[]=>none|C=>cond (EO st.T C) none (K (UF st o .undef))
def fin (st:Y D)(o:YO)(K:Y D->GA R):WJ D->GA R|.bad=>skipG st o K|.val v=>K (UF st o v)|.par b v=>cond (imp st o.C b) (K (UF st o v)) none|.ld _ v=>K (UF st o v)|.mk b v=>y7H o.C (K (newB st o b v))|.wr i b=>y7H o.C (K (wrB st o i b))|.ap ck i b=>y7H o.C (cond ck (K (apB st o i b)) none)
def optG (st:Y D)(C:Ch){X:Type}(o:GA X)(d:X):GA X:=match C with|[]=>o|C=>cond (EO st.T C) o (some d)
def y9U (T:Tt D)(t:Nat)(b:Bool):Tt D:=match UJ T t with|.opt C _ _=>UI T t (.opt C true (.bool b))|_=>UI T t (.bool b)
def u4E (C:Ch):Tt D->(Tt D->GA R)->(Tt D->GA R)->GA R:=List.rec (fun T kt _=>kt T) (fun p C ih T kt kf=>ih T (fun T=>cond (x8H (GW C (UJ T p.1))) (cond p.2 (kt (y9U T p.1 true)) (kf (y9U T p.1 true))) (cond p.2 (kf (y9U T p.1 false)) (kt (y9U T p.1 false)))) kf) C
def dst1 (C:Ch)(v:PV D):PV D:=match C with|[]=>noOpt v|C=>.opt C true (noOpt v)
def dst0 (C:Ch)(d:PV D):PV D:=.opt C false d
def finC (st:Y D)(o:YO)(K:Y D->GA R):KB D->GA R|.bad=>skipG st o K|.tot v=>K (UF st o v)|.par b v=>cond (imp st o.C b) (K (UF st o v)) none|.opt _ x d out=>Option.bind (optG st o.C x d) fun x=>K (UF st o (out x))|.inl _ d run=>u4E o.C st.T (fun T=>run R fun v B m=>K ⟨UY T o.dst (dst1 o.C v),B,m⟩) (fun T=>K ⟨UY T o.dst (dst0 o.C d),st.B,st.m⟩)
def finP (st:Y D)(o:YO)(K:Y D->GA R):PrimR D->GA R|.bad=>none|.ok ck v B m=>y7H o.C (cond ck (K ⟨UY st.T o.dst (noOpt v),B,m⟩) none)
def tmpD:Yd->GA Nat|.t n=>some n|_=>none
def y1C (st:Y D)(C:Ch)(c a b:Yd):WJ D:=match Vu st.T C c,tmpD c with|.bool t,some n=>selP t (Vu st.T ((n,true)::C) a) (Vu st.T ((n,false)::C) b)|_,_=>.bad
def execO (tbl:Tbl D)(o:YO)(st:Y D)(K:Y D->GA R):GA R:=cond (chOk st.T o.C) (match o.op with|.call f args=>finC st o K (tbl f (args.map (Vu st.T o.C)) st.B st.m)|.prim p args=>finP st o K (u0G p (args.map (Vu st.T o.C)) st.B st.m)|.callv x args=>y7H o.C (finC st o K (selC tbl (Vu st.T o.C x) (args.map (Vu st.T o.C)) st.B st.m))|.pick c a b=>fin st o K (y1C st o.C c a b)|op=>fin st o K (Vt st.B (Vu st.T o.C) op)) none
def Wh (T:Tt D)(l:List Nat):Tt D:=List.rec T (fun t _ ih=>UI ih t .undef) l
def v6F (tbl:Tbl D)(l:List YO):Y D->(Y D->GA R)->GA R:=List.rec (fun st K=>K st) (fun o _ ih st K=>execO tbl o st fun st=>ih st K) l
abbrev Ws:=List (Nat×GA Nat×Bool)
def VU (x:Nat)(l:List Nat):Bool:=List.rec false (fun y _ ih=>cond (Nat.beq y x) true ih) l
def y0E (b:GA Nat)(l:List Nat):Bool:=match b with|some i=>VU i l|none=>false
def y1X (Dm:Nat)(tc:List Nat)(W:Ws):Bool:=List.rec true (fun x _ ih=>cond (cond (tb Dm x.1) true (!(cond x.2.2 true (y0E x.2.1 tc)))) ih false) W
def kpt (B B':Bt D)(i:Nat):Bool:=match WX B i,WX B' i with|some p,some q=>Nat.beq p.1 q.1|_,_=>false
def x6P (B B':Bt D)(tc:List Nat):List Nat:=List.rec [] (fun i _ ih=>cond (kpt B B' i) ih (i::ih)) tc
def x6X (tc:List Nat)(W:Ws):Ws:=List.rec [] (fun x _ ih=>(x.1,x.2.1,cond x.2.2 true (y0E x.2.1 tc))::ih) W
def u3T:PV D->Bool|.bool _|.int _ _|.str _|.nilp|.nils|.nilf|.nili|.lptr _ _|.lelt _ _|.lsl _=>true|_=>false
def v1C (l:List (PV D)):Bool:=List.rec true (fun v _ ih=>cond (u3T v) ih false) l
def vrefl:PV D->Bool|.agg l=>v1C l|.aggI _ _=>true|v=>u3T v
def x4Y (st:Y D)(W:Ws)(mk:Nat)(x:YD)(K:Y D->Ws->Nat->GA R):WJ D->GA R|.bad=>none|.val v=>(match x.kd with|.free=>K (UF st x.o v) W mk|_=>none)|.par b v=>(match x.kd with|.free=>cond (imp st x.o.C b) (K (UF st x.o v) W mk) none|_=>none)|.ld src v=>(match x.kd with|.load=>cond (cond (vrefl v) (match src with|some i=>Nat.ble (Nat.succ i) mk|none=>true) false) (K (UF st x.o v) ((x.i,src,false)::W) mk) none|.free=>none|.eff=>none)|.mk b v=>(match x.kd with|.free=>y7H x.o.C (K (newB st x.o b v) W mk)|_=>none)|.wr i b=>(match x.kd with|.eff=>cond (y1X x.D [i] W) (y7H x.o.C (K (wrB st x.o i b) (x6X [i] W) (Nat.succ st.m))) none|_=>none)|.ap ck i b=>match x.kd with|.eff=>cond (y1X x.D i.toList W) (y7H x.o.C (cond ck (K (apB st x.o i b) (x6X i.toList W) (Nat.succ st.m)) none)) none|_=>none
def u6M (st:Y D)(W:Ws)(x:YD)(K:Y D->Ws->Nat->GA R):KB D->GA R|.bad=>none|.tot v=>cond (y1X x.D [] W) (K (UF st x.o v) W st.m) none|.par b v=>cond (y1X x.D [] W) (cond (imp st x.o.C b) (K (UF st x.o v) W st.m) none) none|.opt _ y d out=>cond (y1X x.D [] W) (Option.bind (optG st x.o.C y d) fun y=>K (UF st x.o (out y)) W st.m) none|.inl tc d run=>u4E x.o.C st.T (fun T=>run R fun v B m=>cond (y1X x.D (x6P st.B B tc) W) (K ⟨UY T x.o.dst (dst1 x.o.C v),B,m⟩ (x6X (x6P st.B B tc) W) m) none) (fun T=>cond (y1X x.D [] W) (K ⟨UY T x.o.dst (dst0 x.o.C d),st.B,st.m⟩ W st.m) none)
def drawO (tbl:Tbl D)(x:YD)(st:Y D)(W:Ws)(mk:Nat)(K:Y D->Ws->Nat->GA R):GA R:=cond (chOk st.T x.o.C) (match x.o.op with|.call f args=>u6M st W x K (tbl f (args.map (Vu st.T x.o.C)) st.B st.m)|.prim _ _=>none|.callv _ _=>none|.pick c a b=>x4Y st W mk x K (y1C st x.o.C c a b)|op=>x4Y st W mk x K (Vt st.B (Vu st.T x.o.C) op)) none
def EV (tbl:Tbl D)(l:List YD):Y D->Ws->Nat->(Y D->GA R)->GA R:=List.rec (fun st _ _ K=>K st) (fun x _ ih st W mk K=>drawO tbl x st W mk fun st W mk=>ih st W mk K) l
def iter {A:Type}(N:Nat)(step:(A->GA R)->A->GA R)(x:A):GA R:=Nat.rec (fun _=>none) (fun _ again x=>step again x) N x
def extP:(ty:LTy)->Bt D->PV D->GA ty.ty|.int k,_,.int k' n=>cond (VW k k') (some n) none|.bool,_,.bool b=>some b|.str,_,.str s=>some s|.rowI _ _,_,.nils=>some []|.rowI e k,B,.lsl i=>(match WX B i with|some (_,.rowI e' k' l)=>cond (cond (Nat.beq e e') (VW k k') false) (some l) none|_=>none)|_,_,_=>none
def extS (ty:LTy)(st:Y D):WN->GA ty.ty|.tmp t=>extP ty st.B (UJ st.T t)|.cell i off=>(match WX st.B i with|some (_,.cells l)=>(match VF l off with|some v=>extP ty st.B v|none=>none)|_=>none)|.row i=>match ty,WX st.B i with|.rowI e k,some (_,.rowI e' k' l)=>cond (cond (Nat.beq e e') (VW k k') false) (some l) none|.iter,some (_,.iter s p)=>some (s,p)|_,_=>none
def extL:(h:Kh)->Y D->GA (Tup h)|[],_=>some ()|[p],st=>extS p.2 st p.1|p::q::r,st=>match extS p.2 st p.1,extL (q::r) st with|some a,some b=>some (a,b)|_,_=>none
def VM (st:Y D):(ty:LTy)->ty.ty->PV D×Y D|.int k,n=>(.int k n,st)|.bool,b=>(.bool b,st)|.str,s=>(.str s,st)|.rowI e k,l=>(.lsl st.m,⟨st.T,Wc st.B st.m (some (st.m,.rowI e k l)),Nat.succ st.m⟩)|.iter,_=>(.undef,st)
def VN (st:Y D)(ty:LTy)(x:ty.ty):WN->Y D|.tmp t=>(match VM st ty x with|(v,st')=>⟨UI st'.T t v,st'.B,st'.m⟩)|.cell i off=>(match VM st ty x with|(v,st')=>match WX st'.B i with|some (_,.cells l)=>(match setP l off [v]with|some l'=>⟨st'.T,Wc st'.B i (some (st'.m,.cells l')),Nat.succ st'.m⟩|none=>st')|_=>st')|.row i=>match ty,x with|.rowI e k,l=>⟨st.T,Wc st.B i (some (st.m,.rowI e k l)),Nat.succ st.m⟩|.iter,q=>⟨st.T,Wc st.B i (some (st.m,.iter q.1 q.2)),Nat.succ st.m⟩|_,_=>st
def VI:(h:Kh)->Tup h->Y D->Y D|[],_,st=>st|[p],x,st=>VN st p.2 x p.1|p::q::r,x,st=>VI (q::r) x.2 (VN st p.2 x.1 p.1)
def Gy (h:Kh):List Nat:=List.rec [] (fun p _ ih=>match p.1 with|.cell i _=>i::ih|.row i=>i::ih|_=>ih) h
def y9Q:LTy->PV D->GA Nat|.rowI _ _,.lsl i=>some i|_,_=>none
def z2H (st:Y D):WN->PV D|.tmp t=>UJ st.T t|.cell i off=>(match WX st.B i with|some (_,.cells l)=>(match VF l off with|some v=>v|none=>.undef)|_=>.undef)|.row _=>.undef
def x5M (h:Kh)(st:Y D):List Nat:=List.rec [] (fun p _ ih=>match y9Q p.2 (z2H st p.1)with|some i=>i::ih|none=>ih) h
def y3M (l:List Nat):Bool:=List.rec true (fun i l ih=>cond (VU i l) false ih) l
def z4M (B:Bt D)(hb:List Nat)(l:List Nat):Bool:=List.rec true (fun i _ ih=>cond (match WX B i with|some _=>false|none=>!(VU i hb)) ih false) l
def u9V (B:Bt D)(l:List Nat):Bt D:=List.rec B (fun i _ ih=>Wc ih i none) l
def keepC:PV D->PV D|.lptr i o=>.lptr i o|.nilp=>.nilp|.nils=>.nils|.nilf=>.nilf|.nili=>.nili|_=>.undef
def okC:PV D->PV D->Bool|.undef,_=>true|.lptr i o,.lptr j p=>cond (Nat.beq i j) (Nat.beq o p) false|.nilp,.nilp=>true|.nils,.nils=>true|.nilf,.nilf=>true|.nili,.nili=>true|_,_=>false
def okL (l:List (PV D)):List (PV D)->Bool:=List.rec (fun m=>List.casesOn m true (fun _ _=>false)) (fun v _ ih m=>List.casesOn m false (fun w m=>cond (okC v w) (ih m) false)) l
def u5R (h:Kh)(i:Nat):List Nat:=List.rec [] (fun p _ ih=>match p.1 with|.cell j off=>cond (Nat.beq i j) (off::ih) ih|_=>ih) h
def baseL (offs:List Nat)(l:List (PV D)):Nat->List (PV D):=List.rec (fun _=>[]) (fun v _ ih j=>(cond (VU j offs) .undef (keepC v))::ih (Nat.succ j)) l
def baseS (h:Kh)(m:Nat)(B:Bt D):WN->Bt D|.cell i _=>(match WX B i with|some (_,.cells l)=>Wc B i (some (m,.cells (baseL (u5R h i) l 0)))|_=>B)|.row i=>Wc B i none|.tmp _=>B
def z4H (h:Kh)(m:Nat)(l:Kh)(B:Bt D):Bt D:=List.rec B (fun p _ ih=>baseS h m ih p.1) l
def GU (h:Kh)(asg:List Nat)(st:Y D):Y D:=⟨Wh st.T asg,z4H h st.m h (u9V st.B (x5M h st)),Nat.succ st.m⟩
def y2X (m:Nat)(B B':Bt D)(h:Kh):Bool:=List.rec true (fun p _ ih=>cond (match p.1 with|.cell i _=>(match WX B i,WX B' i with|some (_,.cells l),some (_,.cells l')=>okL l l'|_,_=>false)|.row i=>Nat.ble (Nat.succ i) m|.tmp _=>true) ih false) h
def keptB (B B':Bt D)(l:List Nat)(m:Nat):Bool:=Nat.rec true (fun i ih=>cond (cond (VU i l) true (match WX B i,WX B' i with|some (s,_),some (s',_)=>Nat.beq s s'|none,_=>true|_,none=>false)) ih false) m
def u7F (h:Kh)(m:Nat)(st0:Y D)(again:Tup h->GA R)(st':Y D):GA R:=cond (cond (keptB st0.B st'.B (Gy h) m) (cond (y2X m st0.B st'.B h) (cond (y3M (x5M h st')) (z4M st0.B (Gy h) (x5M h st')) false) false) false) (match extL h st' with|some x'=>again x'|none=>none) none
def z5U (h:Kh)(m:Nat)(st0:Y D)(k:Ex->Y D->GA R)(again:Tup h->GA R):Ex->Y D->GA R|.normal,st'=>u7F h m st0 again st'|e,st'=>k e st'
def loopK (N:Nat)(sb:Y D->(Ex->Y D->GA R)->GA R)(h:Kh)(m:Nat)(st0:Y D)(k:Ex->Y D->GA R)(x:Tup h):GA R:=iter N (fun again x=>sb (VI h x st0) (z5U h m st0 k again)) x
def sem (tbl:Tbl D)(N:Nat)(c:YC):Y D->(Ex->Y D->GA R)->GA R:=YC.rec (motive:=fun _=>Y D->(Ex->Y D->GA R)->GA R) (fun st k=>k .normal st) (fun l clr st k=>v6F tbl l st fun st=>k .normal ⟨Wh st.T clr,st.B,st.m⟩) (fun l clr st k=>EV tbl l st [] st.m fun st=>k .normal ⟨Wh st.T clr,st.B,st.m⟩) (fun _ _ sa sb st k=>sa st fun e st=>match e with|.normal=>sb st k|e=>k e st) (fun c _ _ sa sb st k=>match Vu st.T [] c with|.bool b=>cond b (sa st k) (sb st k)|_=>none) (fun id _ sb st k=>sb st fun e st=>match e with|.exit i=>cond (Nat.beq i id) (k .normal st) (k (.exit i) st)|e=>k e st) (fun h asg _ sb st k=>u7F h st.m (GU h asg st) (loopK N sb h st.m (GU h asg st) k) st) (fun id st k=>k (.exit id) st) (fun st k=>k .ret st) c
end
end
section
variable {D R:Type}
def v7S (vs:List (PV D)):Nat->Tt D->Tt D:=List.rec (fun _ T=>T) (fun v _ ih k T=>ih (Nat.succ k) (UI T k v)) vs
inductive RV where
 |t (n:Nat)
 |c (a n:Nat) (agg:Bool)
 deriving Repr,Inhabited
def retV (st:Y D):RV->GA (PV D)|.t n=>some (GW [] (UJ st.T n))|.c a n agg=>match UJ st.T a with|.lptr i off=>(match WX st.B i with|some (_,.cells l)=>z6G agg off n l|_=>none)|_=>none
def retL (st:Y D)(l:List RV):GA (List (PV D)):=List.rec (some []) (fun r _ ih=>Option.casesOn (retV st r) none (fun v=>Option.casesOn ih none (fun vs=>some (v::vs)))) l
def retP (st:Y D):List RV->GA (PV D)|[r]=>retV st r|l=>Option.casesOn (retL st l) none (fun vs=>some (.tup vs))
def retK (st:Y D)(rs:List RV)(K:PV D->Y D->GA R):GA R:=Option.casesOn (retP st rs) none (fun v=>K v st)
def EM (tbl:Tbl D)(N:Nat)(c:YC)(rs:List RV)(args:List (PV D))(B:Bt D)(m:Nat)(K:PV D->Y D->GA R):GA R:=sem tbl N c ⟨v7S args 0 .leaf,B,m⟩ fun e st=>match e with|.normal=>retK st rs K|.ret=>retK st rs K|_=>none
end
end Go.Yec
