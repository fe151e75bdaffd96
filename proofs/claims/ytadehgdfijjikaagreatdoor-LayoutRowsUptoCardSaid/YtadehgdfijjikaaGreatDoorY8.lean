/-
  THE PURE EXECUTOR: one operation of a region, with its guards;calls.;THE PURE EXECUTOR: what an operation's result does to the states.;THE PURE EXECUTOR: one operation of a region is sound.
-/
import Derived.Test.YtadehgdfijjikaaGreatDoorY7
set_option linter.all false
namespace Go.Yec
open Go Go.Xec
variable [GT]
section
variable {D:Type}
def FunS (P:Program)(hk:Hook)(V:D->List (PV D))(f:FuncId)(args:List (PV D))(B:Bt D)(m:Nat)(tc:List Nat)(v:PV D)(B':Bt D)(m':Nat):Prop:=∀(X:Nat->Prop) (μ:Mu) (H:Hp) (n:Nat) (xs:List Value),HR V X μ B m H n->RepL V μ H (MX X μ B) args xs->∃xv H' n' μ',(∃k0,∀k,k0<=k->run P hk k (.call f xs) H n=.ok .ret (one xv) H' n')/\HR V X μ' B' m' H' n'/\Gr μ B m H n μ' B' m' H' n'/\Rep V μ' H' (MX X μ' B') v xv/\ ∀i s b x len,bget B i=some (s,b)->inN i tc=false->μ i=some (some x,len)->hget H' x=hget H x
def run' (P:Program)(hk:Hook)(k:Nat)(f:FuncId)(xs:List Value)(H:Hp)(n:Nat)(xv:Value)(H':Hp)(n':Nat):Prop:=run P hk k (.call f xs) H n=.ok .ret (one xv) H' n'
def x4V (P:Program)(hk:Hook)(V:D->List (PV D))(f:FuncId)(args:List (PV D))(B:Bt D)(m:Nat):CallR D->Prop|.bad=>True|.tot v=>FunS P hk V f args B m [] v B m|.par b v=>b=true->FunS P hk V f args B m [] v B m|.opt _ o _ out=>∀x,o=some x->FunS P hk V f args B m [] (out x) B m|.inl tc _ run=>∀(R:Type) (K:PV D->Bt D->Nat->Option R) (r:R),run R K=some r->∀(X:Nat->Prop) (μ:Mu) (H:Hp) (n:Nat) (xs:List Value),HR V X μ B m H n->RepL V μ H (MX X μ B) args xs->∃v B' m' xv H' n' μ',(∃k0,∀k,k0<=k->run' P hk k f xs H n xv H' n')/\HR V X μ' B' m' H' n'/\Gr μ B m H n μ' B' m' H' n'/\Rep V μ' H' (MX X μ' B') v xv/\ (∀i s b x len,bget B i=some (s,b)->inN i tc=false->μ i=some (some x,len)->hget H' x=hget H x)/\(∀i s b,bget B i=some (s,b)->inN i tc=false->bget B' i=some (s,b))/\K v B' m'=some r
def y1V (P:Program)(hk:Hook)(V:D->List (PV D))(tbl:Tbl D):Prop:=∀f args B m,x4V P hk V f args B m (tbl f args B m)
structure RegI (T:Tt D) (dn:Dn):Prop where
 opt:∀t C g v,pget T t=.opt C g v->(C,t)∈dn/\g=gOf T C/\C≠[]
 has:∀C t,(C,t)∈dn->C≠[]->∃g v,pget T t=.opt C g v
 cl:∀C t,(C,t)∈dn->∀p,p∈C->∃C',(C',p.1)∈dn
theorem x9P (T:Tt D)(p:Nat×Bool)(C:Ch):gOf T (p::C)=cond (gOf T C) (lit T C p) false:=rfl
theorem y1R (T:Tt D)(p:Nat×Bool)(C:Ch):chOk T (p::C)=cond (y7E (x3T C (pget T p.1))) (chOk T C) false:=rfl
theorem v5A {T T':Tt D}{C:Ch}{p:Nat×Bool}(h:pget T' p.1=pget T p.1):lit T' C p=lit T C p:=by{unfold lit;rw[h]}
theorem y1K {T T':Tt D}:∀{C:Ch},(∀p,p∈C->pget T' p.1=pget T p.1)->gOf T' C=gOf T C|[],_=>rfl|p::C,h=>by rw[x9P,x9P,y1K fun q hq=>h q (by simp[hq]),v5A (h p (by simp))]
theorem eqC_cons (p q:Nat×Bool)(l m:Ch):eqC (p::l) (q::m)=cond (cond (Nat.beq p.1 q.1) (cond p.2 q.2 (!q.2)) false) (eqC l m) false:=rfl
theorem u6C:∀{l m:Ch},eqC l m=true->l=m|[],[],_=>rfl|[],_::_,h=>by cases h|_::_,[],h=>by cases h|(a,b)::l,(c,d)::m,h=>by{(rw[eqC_cons]at h;obtain⟨h1,h2⟩:=x0D h;obtain⟨h3,h4⟩:=x0D h1;have e3:a=c:=x0U h3;rw[u6C h2,e3];have:b=d:=by cases b<;>cases d<;>first|rfl|(cases h4));rw[this]}
theorem z9Q {T:Tt D}{C':Ch}:∀{C:Ch},sufB C' C=true->gOf T C=true->gOf T C'=true|[],h,hg=>by{have h:eqC C' []=true:=h;rw[u6C h];rfl}|p::C,h,hg=>by{have h:cond (eqC C' (p::C)) true (sufB C' C)=true:=h;cases he:eqC C' (p::C)with|true=>{rw[u6C he];exact hg}|false=>{rw[he,cond_false]at h;rw[x9P]at hg;exact z9Q h (x0D hg).1}}
theorem u1D {t:Nat}{C:Ch}:∀{dn:Dn},hasD t C dn=true->(C,t)∈dn|[],h=>by cases h|q::dn,h=>by{have h:cond (cond (Nat.beq q.2 t) (eqC q.1 C) false) true (hasD t C dn)=true:=h;cases he:cond (Nat.beq q.2 t) (eqC q.1 C) false with|true=>{obtain⟨h1,h2⟩:=x0D he;have e1:=x0U h1;have e2:=u6C h2;obtain⟨a,b⟩:=q;simp only at e1 e2;rw[<-e1,<-e2];exact List.mem_cons_self}|false=>{rw[he,cond_false]at h;exact List.mem_cons_of_mem _ (u1D h)}}
theorem dIn_no {t:Nat}:∀{dn:Dn},dIn t dn=false->∀C,(C,t)∉dn|[],_,_=>by simp|q::dn,h,C=>by{have h:cond (Nat.beq q.2 t) true (dIn t dn)=false:=h;cases he:Nat.beq q.2 t with|true=>{rw[he]at h;cases h}|false=>{rw[he,cond_false]at h;intro hm;rcases List.mem_cons.1 hm with e|hm;·{subst e;simp at he};·{exact dIn_no h C hm}}}
def x7Y (d:Option Nat)(C:Ch)(dn:Dn):Dn:=match d with|some t=>(C,t)::dn|none=>dn
theorem RegI.set {T:Tt D}{dn:Dn}(h:RegI T dn){C:Ch}(hC:y3X dn C=true){d:Option Nat}{w:PV D}(hd:∀t,d=some t->dIn t dn=false)(hw:∀C' g v,w=.opt C' g v->C'=C/\g=gOf T C/\C≠[])(zG:C≠[]->∃g v,w=.opt C g v):RegI (pput T d w) (x7Y d C dn):=by{have keep:∀C' t,(C',t)∈dn->pget (pput T d w) t=pget T t:=fun C' t hm=>by{rw[x9J];split;·{rename_i e;exact absurd hm (dIn_no (hd t e) C')};·{rfl}};have cl0:∀p,p∈C->∃C',(C',p.1)∈dn:=fun p hp=>by{cases C with|nil=>{cases hp}|cons q C'=>{have hm:=u1D (show hasD q.1 C' dn=true from hC);rcases List.mem_cons.1 hp with rfl|hp;·{exact⟨C',hm⟩};·{exact h.cl C' q.1 hm p hp}}};have gk:∀C' t,(C',t)∈dn->gOf (pput T d w) C'=gOf T C':=fun C' t hm=>y1K fun p hp=>by{obtain⟨C2,h2⟩:=h.cl C' t hm p hp;exact keep C2 p.1 h2};have gC:gOf (pput T d w) C=gOf T C:=y1K fun p hp=>by{obtain⟨C2,h2⟩:=cl0 p hp;exact keep C2 p.1 h2};cases d with|none=>{exact h}|some d=>{refine⟨fun t C' g v hp=>?_,fun C' t hm ae=>?_,fun C' t hm p hp=>?_⟩;·{rw[x9J]at hp;split at hp;·{rename_i e;cases e;obtain⟨rfl,rfl,ae⟩:=hw C' g v hp;exact⟨List.mem_cons_self,gC.symm,ae⟩};·{obtain⟨h1,h2,h3⟩:=h.opt t C' g v hp;exact⟨List.mem_cons_of_mem _ h1,by rw[h2,gk C' t h1],h3⟩}};·{rcases List.mem_cons.1 hm with e|hm;·{cases e;obtain⟨g,v,e⟩:=zG ae;exact⟨g,v,by rw[x9J,if_pos rfl];exact e⟩};·{rw[keep C' t hm];exact h.has C' t hm ae}};·{rcases List.mem_cons.1 hm with e|hm;·{cases e;obtain⟨C2,h2⟩:=cl0 p hp;exact⟨C2,List.mem_cons_of_mem _ h2⟩};·{obtain⟨C2,h2⟩:=h.cl C' t hm p hp;exact⟨C2,List.mem_cons_of_mem _ h2⟩}}}}
variable {V:D->List (PV D)} {μ:Mu} {H:Hp} {P:Program} {hk:Hook} {o:Oper} {T:Tm} {X:Nat->Prop} {n:Nat} {st:Y D} {dn:Dn} {C:Ch}
theorem x2T (hS:SR V X μ st T H n)(hI:RegI st.T dn)(hg:gOf st.T C=true):OpdR V μ H (MX X μ st.B) T (opd st.T C):=fun x y hy=>by{cases x with|tmp t=>{cases hy;show Rep V μ H _ (x3T C (pget st.T t)) (tget T t);have hr:=hS.tr t;generalize hp:pget st.T t=p at hr;generalize tget T t=x at hr;unfold x3T;split;·{rename_i C' g v;cases hs:sufB C' C with|false=>{exact .undef _}|true=>{have:=(hI.opt t C' g v hp).2.1;rw[z9Q hs hg]at this;subst this;cases hr with|opt1 _ _ _ h=>{exact h}}};·{exact hr}}|const v=>{obtain⟨c,h1,rfl⟩:=x0C hy;exact(v6X h1).2}|global g=>{cases hy}|func f=>{cases hy;exact .fn f [] [] #[] #[] .nil .nil}}
def y4A (all:List Oper)(o:Oper)(C:Ch):Prop:=(o.guard=none/\C=[])\/∃j w t C',o.guard=some (j,w)/\(lget all j).bind (·.dst)=some t/\C=(t,w)::C'
theorem z1S {all:List Oper}{Cs:List Ch}(h:chOf all Cs o.guard=some C):y4A all o C:=by{cases hg:o.guard with|none=>{rw[hg]at h;cases h;exact .inl ⟨hg,rfl⟩}|some q=>{obtain⟨j,w⟩:=q;rw[hg]at h;obtain⟨t,h1,h2⟩:=x0A h;obtain⟨C',h3,rfl⟩:=x0C h2;exact .inr ⟨j,w,t,C',hg,h1,rfl⟩}}
theorem x4B {all:List Oper}{sz:Nat}(hS:SR V X μ st T H n)(hI:RegI st.T dn)(cn:y3X dn C=true)(ay:chOk st.T C=true)(hG:y4A all o C)(hd:y9V sz o.dst=true)(self:Task->Hp->Nat->Xec.R):(gOf st.T C=true->∀H2 n2,x3P self T H2 n2 (Xec.compI P sz all o)=y4B self T H2 n2 (x6B P o))/\(gOf st.T C=false->∀H2 n2,x3P self T H2 n2 (Xec.compI P sz all o)=.ok undef H2 n2)/\(Xec.compI P sz all o).dst=o.dst:=by{unfold Xec.compI;rw[hd,cond_true];rcases hG with⟨hg,rfl⟩|⟨j,w,t,C',hg,ht,rfl⟩;·{rw[hg];exact⟨fun _ _ _=>rfl,fun h=>(by cases h),rfl⟩};·{rw[hg];simp only[ht];refine⟨fun h H2 n2=>?_,fun h H2 n2=>?_,trivial⟩;(all_goals (rw[x9P]at h;rw[y1R]at ay;obtain⟨hb,_⟩:=x0D ay;have hm:=u1D (show hasD t C' dn=true from cn);have hr:=hS.tr t;show(match tget T t with|.bool b=>cond (cond w b (!b)) (y4B self T H2 n2 (x6B P o)) (.ok undef H2 n2)|_=>.ok undef H2 n2)=_));·{obtain⟨h1,h2⟩:=x0D h;have key:∃b,tget T t=.bool b/\x8H (x3T C' (pget st.T t))=b:=by{have:=x2T hS hI h1 (.tmp t) (.t t) rfl;have this:Rep V μ H (MX X μ st.B) (x3T C' (pget st.T t)) (tget T t):=this;generalize x3T C' (pget st.T t)=p at this hb;unfold y7E at hb;split at hb;·{rename_i b;exact⟨b,this.bool_of,rfl⟩};·{cases hb}};obtain⟨b,e1,e2⟩:=key;unfold lit at h2;rw[e2]at h2;rw[e1];show cond (cond w b (!b)) _ _=_;rw[h2];rfl};·{cases iW:gOf st.T C' with|true=>{rw[iW,cond_true]at h;have key:∃b,tget T t=.bool b/\x8H (x3T C' (pget st.T t))=b:=by{have:=x2T hS hI iW (.tmp t) (.t t) rfl;have this:Rep V μ H (MX X μ st.B) (x3T C' (pget st.T t)) (tget T t):=this;generalize x3T C' (pget st.T t)=p at this hb;unfold y7E at hb;split at hb;·{rename_i b;exact⟨b,this.bool_of,rfl⟩};·{cases hb}};obtain⟨b,e1,e2⟩:=key;unfold lit at h;rw[e2]at h;rw[e1];show cond (cond w b (!b)) _ _=_;rw[h];rfl}|false=>{(have ae:C'≠[]:=fun e=>by subst e;cases iW);obtain⟨g,v,e⟩:=hI.has C' t hm ae;have:=(hI.opt t C' g v e).2.1;rw[iW]at this;subst this;rw[e]at hr;generalize tget T t=z at hr;cases hr;rfl}}}}
end
variable [GT]
section
variable {D:Type} {V:D->List (PV D)} {μ:Mu} {H:Hp} {P:Program} {hk:Hook} {o:Oper} {T:Tm} {X:Nat->Prop} {n m:Nat} {st:Y D} {dn:Dn} {C:Ch} {B:Bt D}
theorem Rep.noOpt {M:Nat->Prop}{v:PV D}{x:Value}(h:Rep V μ H M v x):Rep V μ H M (noOpt v) x:=by{unfold Yec.noOpt;split;·{exact .undef _};·{exact h}}
theorem x7B (v:PV D)(C:Ch)(g:Bool)(w:PV D):noOpt v≠ .opt C g w:=by{unfold noOpt;split;·{simp};·{rename_i h;exact h C g w}}
theorem x8W {M:Nat->Prop}{Tt:Tt D}{v:PV D}{x:Value}(h1:gOf Tt C=true->Rep V μ H M v x)(h0:gOf Tt C=false->x=undef):Rep V μ H M (dstV Tt C v) x:=by{cases C with|nil=>{exact(h1 rfl).noOpt}|cons p C=>{show Rep V μ H M (.opt (p::C) (gOf Tt (p::C)) v) x;cases hg:gOf Tt (p::C)with|true=>{exact .opt1 _ _ _ (h1 hg)}|false=>{rw[h0 hg];exact .opt0 _ _}}}
theorem z3T {Tt:Tt D}{v:PV D}{C':Ch}{g:Bool}{w:PV D}(h:dstV Tt C v=.opt C' g w):C'=C/\g=gOf Tt C/\C≠[]:=by{cases C with|nil=>{exact absurd h (x7B _ _ _ _)}|cons p C=>{cases h;exact⟨rfl,rfl,by simp⟩}}
theorem z3U {Tt:Tt D}{v:PV D}(h:C≠[]):∃g w,dstV Tt C v=.opt C g w:=by{cases C with|nil=>{exact absurd rfl h}|cons p C=>{exact⟨_,_,rfl⟩}}
def updM (μ:Mu)(m n len:Nat):Mu:=fun j=>if j=m then some (some n,len)else μ j
theorem HR.ids (hr:HR V X μ B m H n){i s:Nat}{b:Blk D}(h:bget B i=some (s,b)):i<m:=by{obtain⟨_,ox,len,h1,_⟩:=hr.blk i s b h;exact hr.lm i _ h1}
noncomputable def z3V (B:Bt D):Option Nat->Bt D|some i=>bset B i none|none=>B
theorem v6S {oi:Option Nat}{i s:Nat}{b:Blk D}(h:bget (z3V B oi) i=some (s,b)):bget B i=some (s,b)/\oi≠some i:=by{cases oi with|none=>{exact⟨h,by simp⟩}|some j=>{have h:bget (bset B j none) i=some (s,b):=h;rw[x1A]at h;split at h;·{cases h};·{rename_i ae;exact⟨h,fun e=>ae (by cases e;rfl)⟩}}}
theorem HR.fresh_blk (hr:HR V X μ B m H n){oi:Option Nat}{H':Hp}{len:Nat}{b:Blk D}(h1:∀y,y≠n->(∀i x l,oi=some i->μ i=some (some x,l)->y≠x)->hget H' y=hget H y)(hl:∀i,oi=some i->∃s b,bget B i=some (s,b)) (hb:∀μ' H2 M',Keep μ H (MX X μ B) μ' H2 M'->μ' m=some (some n,len)->hget H2 n=hget H' n->BlkR V μ' H2 M' (some n) len b):Gr μ B m H n (updM μ m n len) (bset (z3V B oi) m (some (m,b))) (m+1) H' (n+1)/\HR V X (updM μ m n len) (bset (z3V B oi) m (some (m,b))) (m+1) H' (n+1):=by{have bU:∀i,i≠m->updM μ m n len i=μ i:=fun i h=>if_neg h;have eh:updM μ m n len m=some (some n,len):=if_pos rfl;have get:∀{i s c},bget (bset (z3V B oi) m (some (m,b))) i=some (s,c)->(i=m/\s=m/\c=b)\/(i≠m/\bget B i=some (s,c)/\oi≠some i):=fun{i s c} h=>by{rw[x1A]at h;split at h;·{rename_i e;cases h;exact .inl ⟨e,rfl,rfl⟩};·{rename_i e;exact .inr ⟨e,v6S h⟩}};have gr:Gr μ B m H n (updM μ m n len) (bset (z3V B oi) m (some (m,b))) (m+1) H' (n+1):=by{refine⟨by omega,by omega,fun i hi=>bU i (by omega),fun x hx dA=>h1 x (by omega) fun i y l hi hy e=>?_,fun i s c hi h=>?_,fun i s c x l hi h hm=>?_,fun i s c h hs=>?_,fun i s c x l hi h hs hm=>?_⟩;·{subst e;obtain⟨s,c,hc⟩:=hl i hi;exact dA i s c l hc hy};·{rcases get h with⟨e,_⟩|⟨_,h,_⟩;·{omega};·{exact⟨s,c,h⟩}};·{rcases get h with⟨e,_⟩|⟨_,h,_⟩;·{subst e;rw[eh]at hm;cases hm;exact .inl (Nat.le_refl _)};·{have:=hr.ids h;omega}};·{rcases get h with⟨_,e,_⟩|⟨_,h,_⟩;·{omega};·{exact h}};·{rcases get h with⟨e,_⟩|⟨_,h,uZ⟩;·{omega};·{have ai:=hr.lt i x l hm;refine h1 x (by omega) fun j y l' hj hy e=>?_;subst e;obtain⟨s',c',fP⟩:=hl j hj;have:=hr.inj i j s s' c c' x l l' h fP hm hy;subst this;exact uZ hj}}};have kp:=gr.keep hr;refine⟨gr,⟨fun i s c h=>?_,fun i j s s' c c' x a a' hi hj aT bB=>?_,fun i s c x l h hm=>?_,fun i x l hm=>?_,fun i q hm=>?_,fun x hx=>by have:=hr.xlt x hx;omega,fun x hx=>?_⟩⟩;·{rcases get h with⟨rfl,rfl,rfl⟩|⟨ae,h,uZ⟩;·{exact⟨by omega,some n,len,eh,hb _ _ _ kp eh rfl⟩};·{obtain⟨hs,ox,l,hm,au⟩:=hr.blk i s c h;refine⟨by omega,ox,l,by rw[bU i ae];exact hm,au.keep kp fun x hx=>?_⟩;subst hx;have ai:=hr.lt i x l hm;refine h1 x (by omega) fun j y l' hj hy e=>?_;subst e;obtain⟨s',c',fP⟩:=hl j hj;have:=hr.inj i j s s' c c' x l l' h fP hm hy;subst this;exact uZ hj}};·{rcases get hi with⟨rfl,_⟩|⟨ae,hi,_⟩<;>rcases get hj with⟨rfl,_⟩|⟨fG,hj,_⟩;·{rfl};·{rw[eh]at aT;cases aT;rw[bU j fG]at bB;have:=hr.lt _ _ _ bB;omega};·{rw[eh]at bB;cases bB;rw[bU i ae]at aT;have:=hr.lt _ _ _ aT;omega};·{rw[bU i ae]at aT;rw[bU j fG]at bB;exact hr.inj i j s s' c c' x a a' hi hj aT bB}};·{rcases get h with⟨rfl,_⟩|⟨ae,h,_⟩;·{rw[eh]at hm;cases hm;intro hx;have:=hr.xlt _ hx;omega};·{rw[bU i ae]at hm;exact hr.nx i s c x l h hm}};·{by_cases e:i=m;·{subst e;rw[eh]at hm;cases hm;omega};·{rw[bU i e]at hm;have:=hr.lt i x l hm;omega}};·{by_cases e:i=m;·{omega};·{rw[bU i e]at hm;have:=hr.lm i q hm;omega}};·{by_cases e:x=n;·{omega};·{rw[h1 x e fun i y l hi hy ee=>by subst ee;have:=hr.lt _ _ _ hy;omega];exact hr.fresh x (by omega)}}}
theorem HR.write_blk (hr:HR V X μ B m H n){i x len:Nat}{H':Hp}{s0:Nat}{b0 b:Blk D}(hi:bget B i=some (s0,b0))(hm:μ i=some (some x,len))(h1:∀y,y≠x->hget H' y=hget H y)(hb:∀M',Keep μ H (MX X μ B) μ H' M'->BlkR V μ H' M' (some x) len b):Gr μ B m H n μ (bset B i (some (m,b))) (m+1) H' n/\HR V X μ (bset B i (some (m,b))) (m+1) H' n:=by{have get:∀{j s c},bget (bset B i (some (m,b))) j=some (s,c)->(j=i/\s=m/\c=b)\/(j≠i/\bget B j=some (s,c)):=fun{j s c} h=>by{rw[x1A]at h;split at h;·{rename_i e;cases h;exact .inl ⟨e,rfl,rfl⟩};·{rename_i e;exact .inr ⟨e,h⟩}};have oJ:=hr.ids hi;have gr:Gr μ B m H n μ (bset B i (some (m,b))) (m+1) H' n:=by{refine⟨Nat.le_refl _,by omega,fun _ _=>rfl,fun y hy dA=>h1 y fun e=>?_,fun j s c hj h=>?_,fun j s c y l hj h bB=>?_,fun j s c h hs=>?_,fun j s c y l hj h hs bB=>?_⟩;·{subst e;exact dA i s0 b0 len hi hm};·{rcases get h with⟨rfl,_⟩|⟨_,h⟩;·{exact⟨s0,b0,hi⟩};·{exact⟨s,c,h⟩}};·{rcases get h with⟨rfl,_⟩|⟨_,h⟩;·{omega};·{have:=hr.ids h;omega}};·{rcases get h with⟨_,e,_⟩|⟨_,h⟩;·{omega};·{exact h}};·{rcases get h with⟨_,e,_⟩|⟨ae,h⟩;·{omega};·{refine h1 y fun e=>?_;subst e;exact ae (hr.inj j i s s0 c b0 _ l len h hi bB hm)}}};have kp:=gr.keep hr;have live:∀{j s c},bget (bset B i (some (m,b))) j=some (s,c)->∃s' c',bget B j=some (s',c'):=fun{j s c} h=>by{rcases get h with⟨rfl,_⟩|⟨_,h⟩;·{exact⟨s0,b0,hi⟩};·{exact⟨s,c,h⟩}};refine⟨gr,⟨fun j s c h=>?_,fun j k s s' c c' y a a' hj hk bB fp=>?_,fun j s c y l h bB=>?_,hr.lt,fun j q h=>by have:=hr.lm j q h;omega,hr.xlt,fun y hy=>?_⟩⟩;·{rcases get h with⟨rfl,rfl,rfl⟩|⟨ae,h⟩;·{exact⟨by omega,some x,len,hm,hb _ kp⟩};·{obtain⟨hs,ox,l,bB,au⟩:=hr.blk j s c h;refine⟨by omega,ox,l,bB,au.keep kp fun y hy=>h1 y fun e=>?_⟩;subst hy;subst e;exact ae (hr.inj j i s s0 c b0 _ l len h hi bB hm)}};·{obtain⟨s1,c1,q1⟩:=live hj;obtain⟨s2,c2,q2⟩:=live hk;exact hr.inj j k s1 s2 c1 c2 y a a' q1 q2 bB fp};·{obtain⟨s1,c1,q1⟩:=live h;exact hr.nx j s1 c1 y l q1 bB};·{have:=hr.lt i x len hm;rw[h1 y (by omega)];exact hr.fresh y hy}}
theorem SR.mk_put (hS:SR V X μ st T H n){μ':Mu}{B':Bt D}{m':Nat}{H':Hp}{n':Nat}(gr:Gr μ st.B st.m H n μ' B' m' H' n')(uJ:HR V X μ' B' m' H' n')(d:Option Tmp){v:PV D}{x:Value}(hv:Rep V μ' H' (MX X μ' B') v x):SR V X μ' ⟨pput st.T d v,B',m'⟩ (Xec.put T d x) H' n':=⟨uJ,fun t=>by{show Rep V μ' H' (MX X μ' B') (pget (pput st.T d v) t) _;rw[x9J,v2R];split;·{exact hv};·{exact(hS.tr t).keep (gr.keep hS.hr)}}⟩
theorem y0H {op:Op}{q:YOp}(hc:x1Z P op=some q):∀x∈op.operands.toList,okX x=true:=by{have p1:∀{f:Yd->YOp} {x:Operand} {q:YOp},y1 f x=some q->okX x=true:=fun h=>by{obtain⟨a,ha,rfl⟩:=x0G h;exact x8K ha};have p2:∀{f:Yd->Yd->YOp} {x y:Operand} {q:YOp},y2 f x y=some q->okX x=true/\okX y=true:=fun h=>by{obtain⟨a,b,ha,hb,rfl⟩:=x0V h;exact⟨x8K ha,x8K hb⟩};have pl:∀{l:List Operand} {r:List Yd},ydL l=some r->∀x∈l,okX x=true:=by{intro l;induction l with|nil=>{intro r _ x hx;cases hx}|cons a l ih=>{intro r h x hx;have h:((ydO a).bind fun c=>(ydL l).map fun r=>c::r)=some r:=h;obtain⟨c,h1,h2⟩:=x0A h;obtain⟨r',h3,_⟩:=x0C h2;rcases List.mem_cons.1 hx with rfl|hx;·{exact x8K h1};·{exact ih h3 x hx}}};have pp:∀{l:List (Nat×Operand)} {r:List (Nat×Yd)},y5M l=some r->∀p∈l,okX p.2=true:=by{intro l;induction l with|nil=>{intro r _ x hx;cases hx}|cons a l ih=>{intro r h x hx;rw[y0B]at h;obtain⟨c,h1,h2⟩:=x0A h;obtain⟨r',h3,_⟩:=x0C h2;rcases List.mem_cons.1 hx with rfl|hx;·{exact x8K h1};·{exact ih h3 x hx}}};(have a1:∀{x y:Operand},okX y=true->x∈(#[y]:Array Operand).toList->okX x=true:=fun h hx=>by simp at hx;subst hx;exact h);have a2:∀{x y z:Operand},okX y=true/\okX z=true->x∈(#[y,z]:Array Operand).toList->okX x=true:=fun h hx=>by{simp at hx;rcases hx with rfl|rfl;·{exact h.1};·{exact h.2}};intro x hx;unfold x1Z at hc;split at hc;·{exact a1 (p1 hc) hx};·{exact a1 (p1 hc) hx};·{exact a1 (p1 hc) hx};·{obtain⟨_,e1,h1⟩:=x0A hc;obtain⟨_,e2,h2⟩:=x0A h1;obtain⟨_,e3,rfl⟩:=x0C h2;simp[Op.operands]at hx;rcases hx with rfl|rfl|rfl;·{exact x8K e1};·{exact x8K e2};·{exact x8K e3}};·{unfold yBin at hc;split at hc<;>first|(cases hc;done)|(split at hc<;>first|(cases hc;done)|exact a2 (p2 hc) hx)};·{exact a1 (p1 hc) hx};·{exact a1 (p1 hc) hx};·{unfold z1Z at hc;split at hc;·{exact a1 (p1 hc) hx};·{exact a1 (p1 hc) hx};·{exact a1 (p1 hc) hx};·{exact a1 (p1 (x0B hc).2) hx};·{exact a1 (p1 (x0B hc).2) hx};·{exact a1 (p1 (x0B hc).2) hx};·{cases hc}};·{split at hc;·{exact a2 (p2 hc) hx};·{exact a2 (p2 (x0B hc).2) hx};·{cases hc}};·{rename_i t y lo hi;unfold y0R at hc;split at hc;·{obtain⟨_,e1,h1⟩:=x0A hc;obtain⟨_,e2,h2⟩:=x0A h1;obtain⟨_,e3,rfl⟩:=x0C h2;have po:∀{oo:Option Operand} {r:Option Yd},ydOpt oo=some r->∀z∈oo.toList,okX z=true:=fun{oo r} h z hz=>by{cases oo with|none=>{simp at hz}|some w=>{obtain⟨c,h1,_⟩:=x0C h;simp at hz;subst hz;exact x8K h1}};simp[Op.operands]at hx;rcases hx with rfl|hx|hx;·{exact x8K e1};·{exact po e2 x (by simpa using hx)};·{exact po e3 x (by simpa using hx)}};·{cases hc}};·{(rename_i b args ts;have aU:x∈args.toList:=by simpa[Op.operands,Call.operands]using hx);clear hx;have hx:=aU;clear aU;unfold x1D at hc;split at hc;·{rename_i ha _;rw[ha]at hx;split at hc;·{simp at hx;subst hx;exact p1 hc};·{simp at hx;subst hx;exact p1 hc};·{cases hc}};·{rename_i ha;rw[ha]at hx;simp at hx;rcases hx with rfl|rfl;·{exact(p2 hc).1};·{exact(p2 hc).2}};·{rename_i ha;rw[ha]at hx;simp at hx;rcases hx with rfl|rfl;·{exact(p2 hc).1};·{exact(p2 hc).2}};·{rename_i ha _;rw[ha]at hx;obtain⟨_,_,h1⟩:=x0A hc;obtain⟨_,_,h2⟩:=x0A h1;obtain⟨_,_,h3⟩:=x0A h2;obtain⟨_,_,h4⟩:=x0A h3;simp at hx;rcases hx with rfl|rfl;·{exact(p2 h4).1};·{exact(p2 h4).2}};·{cases hc}};·{rename_i f args ts;obtain⟨r,h1,_⟩:=x0C hc;simp[Op.operands,Call.operands]at hx;rcases hx with rfl|hx;·{rfl};·{exact pl h1 x (by simpa using hx)}};·{rename_i f args ts;obtain⟨r,h1,_⟩:=x0C hc;simp[Op.operands,Call.operands]at hx;rcases hx with rfl|hx;·{rfl};·{exact pl h1 x (by simpa using hx)}};·{exact a1 (p1 hc) hx};·{simp[Op.operands]at hx};·{obtain⟨_,_,h1⟩:=x0A hc;obtain⟨_,_,h2⟩:=x0A h1;obtain⟨_,h3⟩:=x0B h2;exact a1 (p1 h3) hx};·{obtain⟨_,_,h1⟩:=x0A hc;obtain⟨_,_,h2⟩:=x0A h1;obtain⟨_,_,h3⟩:=x0A h2;exact a1 (p1 h3) hx};·{obtain⟨_,_,h1⟩:=x0A hc;obtain⟨_,_,h2⟩:=x0A h1;exact a1 (p1 h2) hx};·{obtain⟨_,_,h1⟩:=x0A hc;exact a2 (p2 h1) hx};·{obtain⟨_,_,h1⟩:=x0A hc;obtain⟨_,_,h2⟩:=x0A h1;obtain⟨_,_,h3⟩:=x0A h2;obtain⟨_,h6,h5⟩:=x0A h3;simp[Op.operands]at hx;obtain⟨i,hx⟩:=hx;exact pp h6 (i,x) (by simpa using hx)};·{obtain⟨_,_,h1⟩:=x0A hc;obtain⟨_,_,h2⟩:=x0A h1;obtain⟨_,h6,h3⟩:=x0A h2;simp[Op.operands]at hx;obtain⟨i,hx⟩:=hx;exact pp h6 (i,x) (by simpa using hx)};·{unfold yIaddr at hc;split at hc;·{exact a2 (p2 (x0B hc).2) hx};·{exact a2 (p2 (x0B hc).2) hx};·{cases hc}};·{exact a1 (p1 hc) hx};·{split at hc;·{exact a1 (p1 hc) hx};·{cases hc}};·{exact a1 (p1 hc) hx};·{obtain⟨h0,h1⟩:=x0B hc;obtain⟨_,_,h2⟩:=x0A h1;obtain⟨_,_,h3⟩:=x0A h2;have:=v3A h0;subst this;exact a2 ⟨p1 h3,p1 h3⟩ hx};·{cases hc}}
end
variable [GT]
section
variable {D:Type} {V:D->List (PV D)} {μ:Mu} {H:Hp} {P:Program} {hk:Hook} {o:Oper} {T:Tm} {X:Nat->Prop} {n m:Nat} {st:Y D} {dn:Dn} {C:Ch} {B:Bt D} {R:Type}
theorem y9C {l:List Operand}(h:∀x∈l,okX x=true):x5Y l=true:=by{induction l with|nil=>rfl|cons a l ih=>{show cond (okX a) (x5Y l) false=true;rw[h a (by simp),ih fun x hx=>h x (by simp[hx])];rfl}}
def x8V:YOp->Bool|.call _ _=>true|.callv _ _=>true|_=>false
theorem x6K {y:YOp}(hc:x1Z P o.op=some y)(hn:x8V y=false):x6B P o=.op (x0N P o).f:=by{unfold x6B;split;·{rename_i f args ts ho;rw[ho]at hc;cases f with|func g=>{obtain⟨a,_,rfl⟩:=x0C (show(ydL args.toList).map (YOp.call g)=some y from hc);cases hn}|tmp t=>{obtain⟨a,_,rfl⟩:=x0C (show(ydL args.toList).map (YOp.callv (.t t))=some y from hc);cases hn}|_=>{cases hc}};·{rw[y9C (y0H hc)];rfl}}
theorem z1R {f:FuncId}{ys:List Yd}(hc:x1Z P o.op=some (.call f ys)):∃ args ts,o.op = .call { callee:= .value (.func f),args:=args,argTypes:=ts }/\ydL args.toList=some ys/\x6B P o = .call (.func f) args.toList:=by
  have hk:=y0H hc;have key:∀ op,x1Z P op=some (.call f ys)->∃ args ts,op = .call { callee:= .value (.func f),args:=args,argTypes:=ts }/\ydL args.toList=some ys:=by
    intro op hc;rcases x3S hc with h | ⟨t,a,rfl⟩ | ⟨s,d,x,e0,_,_,_,_,h⟩ | ⟨e,x,rfl⟩ | ⟨e,rfl⟩ | ⟨t,len,ps,rfl⟩ | ⟨t,a,v,rfl⟩ | ⟨args,ts,rfl⟩ | ⟨s,d,x,e0,_,_,_,h⟩
    . unfold x1Z at hc;split at hc
      all_goals first
        | (obtain ⟨a,_,h⟩:=x0G hc;cases h;done)
        | (obtain ⟨a,b,_,_,h⟩:=x0V hc;cases h;done)
        | (cases hc;done)
        | (obtain ⟨_,_,h1⟩:=x0A hc;obtain ⟨_,_,h2⟩:=x0A h1;obtain ⟨_,_,h3⟩:=x0C h2;cases h3;done)
        | (obtain ⟨a,h1,h2⟩:=x0C hc;cases h2;done)
        | (obtain ⟨a,h1,h2⟩:=x0C hc;cases h2;exact ⟨_,_,rfl,h1⟩)
        | skip
      . unfold yBin at hc;split at hc <;> first | (cases hc;done) | (split at hc <;> first | (cases hc;done) | (obtain ⟨a,b,_,_,h⟩:=x0V hc;cases h;done))
      . unfold z1Z at hc;split at hc
        . obtain ⟨a,_,h⟩:=x0G hc;cases h
        . obtain ⟨a,_,h⟩:=x0G hc;cases h
        . obtain ⟨a,_,h⟩:=x0G hc;cases h
        . obtain ⟨a,_,h⟩:=x0G (x0B hc).2;cases h
        . obtain ⟨a,_,h⟩:=x0G (x0B hc).2;cases h
        . obtain ⟨a,_,h⟩:=x0G (x0B hc).2;cases h
        . cases hc
      . split at hc
        . obtain ⟨a,b,_,_,h⟩:=x0V hc;cases h
        . obtain ⟨a,b,_,_,h⟩:=x0V (x0B hc).2;cases h
        . cases hc
      . unfold y0R at hc;split at hc
        . obtain ⟨_,_,h1⟩:=x0A hc;obtain ⟨_,_,h2⟩:=x0A h1;obtain ⟨_,_,h3⟩:=x0C h2;cases h3
        . cases hc
      . unfold x1D at hc;split at hc
        . split at hc
          . obtain ⟨a,_,h⟩:=x0G hc;cases h
          . obtain ⟨a,_,h⟩:=x0G hc;cases h
          . cases hc
        . obtain ⟨a,b,_,_,h⟩:=x0V hc;cases h
        . obtain ⟨a,b,_,_,h⟩:=x0V hc;cases h
        . obtain ⟨_,_,h1⟩:=x0A hc;obtain ⟨_,_,h2⟩:=x0A h1;obtain ⟨_,_,h3⟩:=x0A h2;obtain ⟨_,_,h4⟩:=x0A h3;obtain ⟨a,b,_,_,h⟩:=x0V h4;cases h
        . cases hc
      all_goals first
        | (unfold yAlloc at hc
           obtain ⟨z,_,h2⟩:=x0A hc;obtain ⟨cs,_,h4⟩:=x0A h2;cases aI:x2A P _ <;> rw [aI] at h4
           . cases h4
           . rw [cond_true] at h4;split at h4
             . obtain ⟨l,_,h5⟩:=x0C h4;cases h5
             . cases h4
             . cases h4)
        | (unfold yMake at hc
           obtain ⟨_,h1⟩:=x0B hc;obtain ⟨_,_,h2⟩:=x0A h1;obtain ⟨_,_,h3⟩:=x0A h2;obtain ⟨a,_,h⟩:=x0G h3;cases h;done)
        | (obtain ⟨_,_,h1⟩:=x0A hc;obtain ⟨_,_,h2⟩:=x0A h1;obtain ⟨_,_,h3⟩:=x0A h2;obtain ⟨_,_,h4⟩:=x0A h3;obtain ⟨_,_,h6⟩:=x0C h4;cases h6;done)
        | (obtain ⟨_,_,h1⟩:=x0A hc;obtain ⟨_,_,h2⟩:=x0A h1;obtain ⟨_,h3⟩:=x0B h2;obtain ⟨a,_,h⟩:=x0G h3;cases h;done)
        | (obtain ⟨_,_,h1⟩:=x0A hc;obtain ⟨_,_,h2⟩:=x0A h1;obtain ⟨_,_,h3⟩:=x0A h2;obtain ⟨a,_,h⟩:=x0G h3;cases h;done)
        | (obtain ⟨_,_,h1⟩:=x0A hc;obtain ⟨_,_,h2⟩:=x0A h1;obtain ⟨a,_,h⟩:=x0G h2;cases h;done)
        | (obtain ⟨_,_,h1⟩:=x0A hc;obtain ⟨a,b,_,_,h⟩:=x0V h1;cases h;done)
        | (obtain ⟨_,_,h1⟩:=x0A hc;obtain ⟨_,_,h2⟩:=x0A h1;obtain ⟨_,_,h3⟩:=x0A h2;obtain ⟨_,_,h4⟩:=x0A h3;obtain ⟨_,_,h5⟩:=x0A h4;obtain ⟨_,_,h6⟩:=x0C h5;cases h6;done)
        | (obtain ⟨_,_,h1⟩:=x0A hc;obtain ⟨_,_,h2⟩:=x0A h1;obtain ⟨_,_,h3⟩:=x0A h2;obtain ⟨_,h4⟩:=x0B h3;cases h4;done)
        | (split at hc <;> first | (cases hc;done) | (obtain ⟨a,_,h⟩:=x0G hc;cases h;done))
        | (unfold yIaddr at hc
           split at hc
           . obtain ⟨a,b,_,_,h⟩:=x0V (x0B hc).2;cases h
           . obtain ⟨a,b,_,_,h⟩:=x0V (x0B hc).2;cases h
           . cases hc)
    . obtain ⟨_,_,h1⟩:=x0A hc;obtain ⟨_,_,h2⟩:=x0A h1;obtain ⟨a,_,h⟩:=x0G h2;cases h
    . obtain ⟨a,_,h⟩:=x0G h;cases h
    . obtain ⟨a,_,h⟩:=x0G (show y1 (.box e) x=some _ from hc);cases h
    . have hc:yAlloc P e=some _:=hc;unfold yAlloc at hc;obtain ⟨z,_,h2⟩:=x0A hc;obtain ⟨cs,_,h4⟩:=x0A h2;cases aI:x2A P e <;> rw [aI] at h4
      . cases h4
      . rw [cond_true] at h4;split at h4
        . obtain ⟨l,_,h5⟩:=x0C h4;cases h5
        . cases h4
        . cases h4
    . obtain ⟨_,_,h1⟩:=x0A (show x1E P t len ps.toList=some _ from hc)
      obtain ⟨_,_,h2⟩:=x0A h1;obtain ⟨_,_,h3⟩:=x0A h2;obtain ⟨_,h4⟩:=x0B h3;cases h4
    . obtain ⟨_,_,h1⟩:=x0A hc;obtain ⟨a,b,_,_,h⟩:=x0V h1;cases h
    . have hc:x1D P .append args.toList ts.toList=some _:=hc;unfold x1D at hc;split at hc <;> first | (rename_i hh _ _;cases hh;done) | (rename_i hh _;cases hh;done) | (cases hc;done) | skip
      obtain ⟨_,_,h1⟩:=x0A hc;obtain ⟨_,_,h2⟩:=x0A h1;obtain ⟨_,_,h3⟩:=x0A h2;obtain ⟨_,_,h4⟩:=x0A h3;obtain ⟨a,b,_,_,h⟩:=x0V h4;cases h
    . rcases h with ⟨_,h⟩ | ⟨_,_,_,_,h⟩ <;> (obtain ⟨a,_,h⟩:=x0G h;cases h)
  obtain ⟨args,ts,h1,h2⟩:=key _ hc;refine ⟨args,ts,h1,h2, ?_⟩;unfold x6B;rw [h1];show cond (cond (okX (.func f)) (x5Y args.toList) false) _ _=_;have:x5Y args.toList=true:=y9C fun x hx=>hk x (by rw [h1];simp [Op.operands,Call.operands];exact .inr (by simpa using hx))
  rw [this];rfl
theorem u2T {f:Yd}{ys:List Yd}(hc:x1Z P o.op=some (.callv f ys)):∃ g args ts,o.op = .call { callee:= .value (.tmp g),args:=args,argTypes:=ts }/\f = .t g/\ydL args.toList=some ys/\x6B P o = .call (.tmp g) args.toList:=by
  have hk:=y0H hc;have key:∀ op,x1Z P op=some (.callv f ys)->∃ g args ts,op = .call { callee:= .value (.tmp g),args:=args,argTypes:=ts }/\f = .t g/\ydL args.toList=some ys:=by
    intro op hc;rcases x3S hc with h | ⟨t,a,rfl⟩ | ⟨s,d,x,e0,_,_,_,_,h⟩ | ⟨e,x,rfl⟩ | ⟨e,rfl⟩ | ⟨t,len,ps,rfl⟩ | ⟨t,a,v,rfl⟩ | ⟨args,ts,rfl⟩ | ⟨s,d,x,e0,_,_,_,h⟩
    . unfold x1Z at hc;split at hc
      all_goals first
        | (obtain ⟨a,_,h⟩:=x0G hc;cases h;done)
        | (obtain ⟨a,b,_,_,h⟩:=x0V hc;cases h;done)
        | (cases hc;done)
        | (obtain ⟨_,_,h1⟩:=x0A hc;obtain ⟨_,_,h2⟩:=x0A h1;obtain ⟨_,_,h3⟩:=x0C h2;cases h3;done)
        | (obtain ⟨a,h1,h2⟩:=x0C hc;cases h2;done)
        | (obtain ⟨a,h1,h2⟩:=x0C hc;cases h2;exact ⟨_,_,_,rfl,rfl,h1⟩)
        | skip
      . unfold yBin at hc;split at hc <;> first | (cases hc;done) | (split at hc <;> first | (cases hc;done) | (obtain ⟨a,b,_,_,h⟩:=x0V hc;cases h;done))
      . unfold z1Z at hc;split at hc
        . obtain ⟨a,_,h⟩:=x0G hc;cases h
        . obtain ⟨a,_,h⟩:=x0G hc;cases h
        . obtain ⟨a,_,h⟩:=x0G hc;cases h
        . obtain ⟨a,_,h⟩:=x0G (x0B hc).2;cases h
        . obtain ⟨a,_,h⟩:=x0G (x0B hc).2;cases h
        . obtain ⟨a,_,h⟩:=x0G (x0B hc).2;cases h
        . cases hc
      . split at hc
        . obtain ⟨a,b,_,_,h⟩:=x0V hc;cases h
        . obtain ⟨a,b,_,_,h⟩:=x0V (x0B hc).2;cases h
        . cases hc
      . unfold y0R at hc;split at hc
        . obtain ⟨_,_,h1⟩:=x0A hc;obtain ⟨_,_,h2⟩:=x0A h1;obtain ⟨_,_,h3⟩:=x0C h2;cases h3
        . cases hc
      . unfold x1D at hc;split at hc
        . split at hc
          . obtain ⟨a,_,h⟩:=x0G hc;cases h
          . obtain ⟨a,_,h⟩:=x0G hc;cases h
          . cases hc
        . obtain ⟨a,b,_,_,h⟩:=x0V hc;cases h
        . obtain ⟨a,b,_,_,h⟩:=x0V hc;cases h
        . obtain ⟨_,_,h1⟩:=x0A hc;obtain ⟨_,_,h2⟩:=x0A h1;obtain ⟨_,_,h3⟩:=x0A h2;obtain ⟨_,_,h4⟩:=x0A h3;obtain ⟨a,b,_,_,h⟩:=x0V h4;cases h
        . cases hc
      all_goals first
        | (unfold yAlloc at hc
           obtain ⟨z,_,h2⟩:=x0A hc;obtain ⟨cs,_,h4⟩:=x0A h2;cases aI:x2A P _ <;> rw [aI] at h4
           . cases h4
           . rw [cond_true] at h4;split at h4
             . obtain ⟨l,_,h5⟩:=x0C h4;cases h5
             . cases h4
             . cases h4)
        | (unfold yMake at hc
           obtain ⟨_,h1⟩:=x0B hc;obtain ⟨_,_,h2⟩:=x0A h1;obtain ⟨_,_,h3⟩:=x0A h2;obtain ⟨a,_,h⟩:=x0G h3;cases h;done)
        | (obtain ⟨_,_,h1⟩:=x0A hc;obtain ⟨_,_,h2⟩:=x0A h1;obtain ⟨_,_,h3⟩:=x0A h2;obtain ⟨_,_,h4⟩:=x0A h3;obtain ⟨_,_,h6⟩:=x0C h4;cases h6;done)
        | (obtain ⟨_,_,h1⟩:=x0A hc;obtain ⟨_,_,h2⟩:=x0A h1;obtain ⟨_,h3⟩:=x0B h2;obtain ⟨a,_,h⟩:=x0G h3;cases h;done)
        | (obtain ⟨_,_,h1⟩:=x0A hc;obtain ⟨_,_,h2⟩:=x0A h1;obtain ⟨_,_,h3⟩:=x0A h2;obtain ⟨a,_,h⟩:=x0G h3;cases h;done)
        | (obtain ⟨_,_,h1⟩:=x0A hc;obtain ⟨_,_,h2⟩:=x0A h1;obtain ⟨a,_,h⟩:=x0G h2;cases h;done)
        | (obtain ⟨_,_,h1⟩:=x0A hc;obtain ⟨a,b,_,_,h⟩:=x0V h1;cases h;done)
        | (obtain ⟨_,_,h1⟩:=x0A hc;obtain ⟨_,_,h2⟩:=x0A h1;obtain ⟨_,_,h3⟩:=x0A h2;obtain ⟨_,_,h4⟩:=x0A h3;obtain ⟨_,_,h5⟩:=x0A h4;obtain ⟨_,_,h6⟩:=x0C h5;cases h6;done)
        | (obtain ⟨_,_,h1⟩:=x0A hc;obtain ⟨_,_,h2⟩:=x0A h1;obtain ⟨_,_,h3⟩:=x0A h2;obtain ⟨_,h4⟩:=x0B h3;cases h4;done)
        | (split at hc <;> first | (cases hc;done) | (obtain ⟨a,_,h⟩:=x0G hc;cases h;done))
        | (unfold yIaddr at hc
           split at hc
           . obtain ⟨a,b,_,_,h⟩:=x0V (x0B hc).2;cases h
           . obtain ⟨a,b,_,_,h⟩:=x0V (x0B hc).2;cases h
           . cases hc)
    . obtain ⟨_,_,h1⟩:=x0A hc;obtain ⟨_,_,h2⟩:=x0A h1;obtain ⟨a,_,h⟩:=x0G h2;cases h
    . obtain ⟨a,_,h⟩:=x0G h;cases h
    . obtain ⟨a,_,h⟩:=x0G (show y1 (.box e) x=some _ from hc);cases h
    . have hc:yAlloc P e=some _:=hc;unfold yAlloc at hc;obtain ⟨z,_,h2⟩:=x0A hc;obtain ⟨cs,_,h4⟩:=x0A h2;cases aI:x2A P e <;> rw [aI] at h4
      . cases h4
      . rw [cond_true] at h4;split at h4
        . obtain ⟨l,_,h5⟩:=x0C h4;cases h5
        . cases h4
        . cases h4
    . obtain ⟨_,_,h1⟩:=x0A (show x1E P t len ps.toList=some _ from hc)
      obtain ⟨_,_,h2⟩:=x0A h1;obtain ⟨_,_,h3⟩:=x0A h2;obtain ⟨_,h4⟩:=x0B h3;cases h4
    . obtain ⟨_,_,h1⟩:=x0A hc;obtain ⟨a,b,_,_,h⟩:=x0V h1;cases h
    . have hc:x1D P .append args.toList ts.toList=some _:=hc;unfold x1D at hc;split at hc <;> first | (rename_i hh _ _;cases hh;done) | (rename_i hh _;cases hh;done) | (cases hc;done) | skip
      obtain ⟨_,_,h1⟩:=x0A hc;obtain ⟨_,_,h2⟩:=x0A h1;obtain ⟨_,_,h3⟩:=x0A h2;obtain ⟨_,_,h4⟩:=x0A h3;obtain ⟨a,b,_,_,h⟩:=x0V h4;cases h
    . rcases h with ⟨_,h⟩ | ⟨_,_,_,_,h⟩ <;> (obtain ⟨a,_,h⟩:=x0G h;cases h)
  obtain ⟨g,args,ts,h1,h0,h2⟩:=key _ hc;refine ⟨g,args,ts,h1,h0,h2, ?_⟩;unfold x6B;rw [h1];show cond (cond (okX (.tmp g)) (x5Y args.toList) false) _ _=_;have:x5Y args.toList=true:=y9C fun x hx=>hk x (by rw [h1];simp [Op.operands,Call.operands];exact .inr (by simpa using hx))
  rw [this];rfl
theorem y5L {M:Nat->Prop}{ρ:Yd->PV D}(hρ:OpdR V μ H M T ρ):∀{l:List Operand} {ys:List Yd},ydL l=some ys->RepL V μ H M (ys.map ρ) (l.map (ev T))|[],ys,h=>by cases h;exact .nil|x::l,ys,h=>by{have h:((ydO x).bind fun c=>(ydL l).map fun r=>c::r)=some ys:=h;obtain⟨c,h1,h2⟩:=x0A h;obtain⟨r,h3,rfl⟩:=x0C h2;exact .cons _ _ _ _ (hρ x c h1) (y5L hρ h3)}
def y1W (P:Program)(hk:Hook)(V:D->List (PV D))(X:Nat->Prop)(all:List Oper)(sz:Nat)(o:Oper)(C:Ch)(dn:Dn)(μ:Mu)(st:Y D)(T:Tm)(H:Hp)(n:Nat)(st':Y D):Prop:=∃xv H' n' μ',(∃k0,∀k,k0<=k->x3P (run P hk k) T H n (Xec.compI P sz all o)=.ok xv H' n')/\SR V X μ' st' (put T o.dst xv) H' n'/\Gr μ st.B st.m H n μ' st'.B st'.m H' n'/\ RegI st'.T (x7Y o.dst C dn)/\∀t,o.dst≠some t->pget st'.T t=pget st.T t
theorem x1B (T:Tt D)(d:Option Tmp)(v:PV D)(t:Nat)(h:d≠some t):pget (pput T d v) t=pget T t:=by rw[x9J,if_neg h]
variable {all:List Oper} {sz:Nat}
structure Pre (P:Program) (V:D->List (PV D)) (X:Nat->Prop) (all:List Oper) (o:Oper) (C:Ch) (dn:Dn) (sz:Nat) (μ:Mu) (st:Y D) (T:Tm) (H:Hp) (n:Nat):Prop where
 sr:SR V X μ st T H n
 reg:RegI st.T dn
 fit:y3X dn C=true
 ok:chOk st.T C=true
 gd:y4A all o C
 dst:y9V sz o.dst=true
 new:∀t,o.dst=some t->dIn t dn=false
theorem x9D (hp:Pre P V X all o C dn sz μ st T H n){v:PV D}(hv:gOf st.T C=true->∃w H' n' μ',(∃k0,∀k,k0<=k->y4B (run P hk k) T H n (x6B P o)=.ok w H' n')/\Gr μ st.B st.m H n μ' st.B st.m H' n'/\HR V X μ' st.B st.m H' n'/\Rep V μ' H' (MX X μ' st.B) v w){y:YOp}:y1W P hk V X all sz o C dn μ st T H n (setD st ⟨C,o.dst,y⟩ v):=by{have hg:=x4B (P:=P) hp.sr hp.reg hp.fit hp.ok hp.gd hp.dst;have dz:RegI (pput st.T o.dst (dstV st.T C v)) (x7Y o.dst C dn):=hp.reg.set hp.fit hp.new (fun C' g w e=>z3T e) (fun ae=>z3U ae);cases hC:gOf st.T C with|true=>{obtain⟨w,H',n',μ',⟨k0,h1⟩,h2,h3,h4⟩:=hv hC;refine⟨w,H',n',μ',⟨k0,fun k bW=>by rw[(hg _).1 hC];exact h1 k bW⟩,?_,h2,dz,fun t ht=>x1B _ _ _ _ ht⟩;exact hp.sr.mk_put h2 h3 o.dst (x8W (fun _=>h4) fun e=>by rw[hC]at e;cases e)}|false=>{refine⟨undef,H,n,μ,⟨0,fun k _=>by rw[(hg _).2.1 hC]⟩,?_,Gr.refl _ _ _ _ _,dz,fun t ht=>x1B _ _ _ _ ht⟩;exact hp.sr.put o.dst (x8W (fun e=>by rw[hC]at e;cases e) fun _=>rfl)}}
theorem z0Y {b:Bool}(h:imp st C b=true)(hg:gOf st.T C=true):b=true:=by{unfold imp at h;split at h;·{exact h};·{rw[hg]at h;exact h}}
theorem z3J (hp:Pre P V X all o C dn sz μ st T H n){y:YOp}(hc:x1Z P o.op=some y)(hn:x8V y=false){v:PV D}(h:gOf st.T C=true->ValR P o T V μ H (MX X μ st.B) v):y1W P hk V X all sz o C dn μ st T H n (setD st ⟨C,o.dst,y⟩ v):=x9D hp fun hg=>by{obtain⟨w,h1,h2⟩:=h hg;exact⟨w,H,n,μ,⟨0,fun k _=>by rw[x6K hc hn];exact h2 H n⟩,Gr.refl _ _ _ _ _,hp.sr.hr,h1⟩}
theorem x6H {x:Option R}{r:R}(h:y7H C x=some r):C=[]/\x=some r:=by{unfold y7H at h;split at h;·{exact⟨rfl,h⟩};·{cases h}}
theorem u6E (hp:Pre P V X all o [] dn sz μ st T H n){y:YOp}(hc:x1Z P o.op=some y)(hn:x8V y=false){w:PV D}{xv:Value}{B':Bt D}{m':Nat}{H':Hp}{n':Nat}{μ':Mu}(hx:(x0N P o).f T H n=.ok xv H' n')(gr:Gr μ st.B st.m H n μ' B' m' H' n')(hr:HR V X μ' B' m' H' n')(hw:Rep V μ' H' (MX X μ' B') w xv)(aM:∀C g v,w≠ .opt C g v):y1W P hk V X all sz o [] dn μ st T H n ⟨pput st.T o.dst w,B',m'⟩:=by{have hg:=x4B (P:=P) hp.sr hp.reg hp.fit hp.ok hp.gd hp.dst;refine⟨xv,H',n',μ',⟨0,fun k _=>by rw[(hg _).1 rfl,x6K hc hn];exact hx⟩,hp.sr.mk_put gr hr o.dst hw,gr,?_,fun t ht=>x1B _ _ _ _ ht⟩;exact hp.reg.set hp.fit hp.new (fun C' g v e=>absurd e (aM C' g v)) (fun ae=>absurd rfl ae)}
theorem mk_ok (hp:Pre P V X all o [] dn sz μ st T H n){y:YOp}(hc:x1Z P o.op=some y)(hn:x8V y=false){b:Blk D}{f:Nat->PV D}(h:opR st.B (opd st.T []) y=.mk b f):y1W P hk V X all sz o [] dn μ st T H n (newB st ⟨[],o.dst,y⟩ b f):=by{obtain⟨xl,e,len,w,h1,h2⟩:=mk_got (x2T hp.sr hp.reg rfl) hc h;have hf:=hp.sr.hr.fresh_blk (oi:=none) (H':=hset H n (.cells xl e)) (len:=len) (b:=b) (fun y hy _=>by rw[x0E,if_neg hy]) (fun i hi=>by cases hi) (fun μ' H2 M' kp hm hg=>(h2 μ' H2 M' st.m n kp hm (by rw[hg,x0E,if_pos rfl])).1);have hm:updM μ st.m n len st.m=some (some n,len):=if_pos rfl;have aj:=(h2 _ _ _ st.m n (hf.1.keep hp.sr.hr) hm (by rw[x0E,if_pos rfl])).2;exact u6E hp hc hn (h1 H n) hf.1 hf.2 aj.noOpt fun C g v=>x7B _ _ _ _}
theorem wr_ok (hp:Pre P V X all o [] dn sz μ st T H n){y:YOp}(hc:x1Z P o.op=some y)(hn:x8V y=false){i:Nat}{b:Blk D}(h:opR st.B (opd st.T []) y=.wr i b):y1W P hk V X all sz o [] dn μ st T H n (wrB st ⟨[],o.dst,y⟩ i b):=by{obtain⟨x,len,xl,e,s,b0,h1,h2,h3,h4⟩:=wr_got (x2T hp.sr hp.reg rfl) hp.sr.hr hc h;have hf:=hp.sr.hr.write_blk (H':=hset H x (.cells xl e)) (b:=b) h2 h1 (fun y hy=>by rw[x0E,if_neg hy]) (fun M' kp=>h4 μ _ M' kp (by rw[x0E,if_pos rfl]));exact u6E hp hc hn h3 hf.1 hf.2 (.undef _) fun C g v=>by simp}
theorem ap_ok (hp:Pre P V X all o [] dn sz μ st T H n){y:YOp}(hc:x1Z P o.op=some y)(hn:x8V y=false){oi:Option Nat}{b:Blk D}{ck:Bool}(h:opR st.B (opd st.T []) y=.ap ck oi b)(gN:ck=true):y1W P hk V X all sz o [] dn μ st T H n (apB st ⟨[],o.dst,y⟩ oi b):=by{obtain⟨xl,e,len,c,H',h1,h2,h3,h4,h5,h6⟩:=ap_got (x2T hp.sr hp.reg rfl) hp.sr.hr hc h gN;have hf:=hp.sr.hr.fresh_blk (oi:=oi) (H':=H') (len:=len) (b:=b) h4 h5 (fun μ' H2 M' kp hm hg=>h6 μ' H2 M' (by rw[hg];exact h3));(have hm:updM μ st.m n len st.m=some (some n,len):=if_pos rfl;have he:apB st ⟨[],o.dst,y⟩ oi b=⟨pput st.T o.dst (.lsl st.m),bset (z3V st.B oi) st.m (some (st.m,b)),st.m+1⟩:=by cases oi<;>rfl);rw[he];exact u6E hp hc hn h1 hf.1 hf.2 (.lsl st.m n len c hm h2) fun C g v=>by simp}
theorem v0F {op:Op}{c a b:Yd}(hc:x1Z P op=some (.pick c a b)):∃ oc oa ob,op = .pick oc oa ob/\ydO oc=some c/\ydO oa=some a/\ydO ob=some b:=by
  rcases x3S hc with h | ⟨t,a,rfl⟩ | ⟨s,d,x,e0,_,_,_,_,h⟩ | ⟨e,x,rfl⟩ | ⟨e,rfl⟩ | ⟨t,len,ps,rfl⟩ | ⟨t,a,v,rfl⟩ | ⟨args,ts,rfl⟩ | ⟨s,d,x,e0,_,_,_,h⟩
  . unfold x1Z at hc;split at hc
    all_goals first
      | (obtain ⟨a,_,h⟩:=x0G hc;cases h;done)
      | (obtain ⟨a,b,_,_,h⟩:=x0V hc;cases h;done)
      | (cases hc;done)
      | (obtain ⟨_,e1,h1⟩:=x0A hc;obtain ⟨_,e2,h2⟩:=x0A h1;obtain ⟨_,e3,h3⟩:=x0C h2;cases h3;exact ⟨_,_,_,rfl,e1,e2,e3⟩)
      | (obtain ⟨a,h1,h2⟩:=x0C hc;cases h2;done)
      | skip
    . unfold yBin at hc;split at hc <;> first | (cases hc;done) | (split at hc <;> first | (cases hc;done) | (obtain ⟨a,b,_,_,h⟩:=x0V hc;cases h;done))
    . unfold z1Z at hc;split at hc
      . obtain ⟨a,_,h⟩:=x0G hc;cases h
      . obtain ⟨a,_,h⟩:=x0G hc;cases h
      . obtain ⟨a,_,h⟩:=x0G hc;cases h
      . obtain ⟨a,_,h⟩:=x0G (x0B hc).2;cases h
      . obtain ⟨a,_,h⟩:=x0G (x0B hc).2;cases h
      . obtain ⟨a,_,h⟩:=x0G (x0B hc).2;cases h
      . cases hc
    . split at hc
      . obtain ⟨a,b,_,_,h⟩:=x0V hc;cases h
      . obtain ⟨a,b,_,_,h⟩:=x0V (x0B hc).2;cases h
      . cases hc
    . unfold y0R at hc;split at hc
      . obtain ⟨_,_,h1⟩:=x0A hc;obtain ⟨_,_,h2⟩:=x0A h1;obtain ⟨_,_,h3⟩:=x0C h2;cases h3
      . cases hc
    . unfold x1D at hc;split at hc
      . split at hc
        . obtain ⟨a,_,h⟩:=x0G hc;cases h
        . obtain ⟨a,_,h⟩:=x0G hc;cases h
        . cases hc
      . obtain ⟨a,b,_,_,h⟩:=x0V hc;cases h
      . obtain ⟨a,b,_,_,h⟩:=x0V hc;cases h
      . obtain ⟨_,_,h1⟩:=x0A hc;obtain ⟨_,_,h2⟩:=x0A h1;obtain ⟨_,_,h3⟩:=x0A h2;obtain ⟨_,_,h4⟩:=x0A h3;obtain ⟨a,b,_,_,h⟩:=x0V h4;cases h
      . cases hc
    all_goals first
      | (unfold yAlloc at hc
         obtain ⟨z,_,h2⟩:=x0A hc;obtain ⟨cs,_,h4⟩:=x0A h2;cases aI:x2A P _ <;> rw [aI] at h4
         . cases h4
         . rw [cond_true] at h4;split at h4
           . obtain ⟨l,_,h5⟩:=x0C h4;cases h5
           . cases h4
           . cases h4)
      | (unfold yMake at hc
         obtain ⟨_,h1⟩:=x0B hc;obtain ⟨_,_,h2⟩:=x0A h1;obtain ⟨_,_,h3⟩:=x0A h2;obtain ⟨a,_,h⟩:=x0G h3;cases h;done)
      | (obtain ⟨_,_,h1⟩:=x0A hc;obtain ⟨_,_,h2⟩:=x0A h1;obtain ⟨_,_,h3⟩:=x0A h2;obtain ⟨_,_,h4⟩:=x0A h3;obtain ⟨_,_,h6⟩:=x0C h4;cases h6;done)
      | (obtain ⟨_,_,h1⟩:=x0A hc;obtain ⟨_,_,h2⟩:=x0A h1;obtain ⟨_,h3⟩:=x0B h2;obtain ⟨a,_,h⟩:=x0G h3;cases h;done)
      | (obtain ⟨_,_,h1⟩:=x0A hc;obtain ⟨_,_,h2⟩:=x0A h1;obtain ⟨_,_,h3⟩:=x0A h2;obtain ⟨a,_,h⟩:=x0G h3;cases h;done)
      | (obtain ⟨_,_,h1⟩:=x0A hc;obtain ⟨_,_,h2⟩:=x0A h1;obtain ⟨a,_,h⟩:=x0G h2;cases h;done)
      | (obtain ⟨_,_,h1⟩:=x0A hc;obtain ⟨a,b,_,_,h⟩:=x0V h1;cases h;done)
      | (obtain ⟨_,_,h1⟩:=x0A hc;obtain ⟨_,_,h2⟩:=x0A h1;obtain ⟨_,_,h3⟩:=x0A h2;obtain ⟨_,_,h4⟩:=x0A h3;obtain ⟨_,_,h5⟩:=x0A h4;obtain ⟨_,_,h6⟩:=x0C h5;cases h6;done)
      | (obtain ⟨_,_,h1⟩:=x0A hc;obtain ⟨_,_,h2⟩:=x0A h1;obtain ⟨_,_,h3⟩:=x0A h2;obtain ⟨_,h4⟩:=x0B h3;cases h4;done)
      | (split at hc <;> first | (cases hc;done) | (obtain ⟨a,_,h⟩:=x0G hc;cases h;done))
      | (unfold yIaddr at hc
         split at hc
         . obtain ⟨a,b,_,_,h⟩:=x0V (x0B hc).2;cases h
         . obtain ⟨a,b,_,_,h⟩:=x0V (x0B hc).2;cases h
         . cases hc)
  . obtain ⟨_,_,h1⟩:=x0A hc;obtain ⟨_,_,h2⟩:=x0A h1;obtain ⟨a,_,h⟩:=x0G h2;cases h
  . obtain ⟨a,_,h⟩:=x0G h;cases h
  . obtain ⟨a,_,h⟩:=x0G (show y1 (.box e) x=some _ from hc);cases h
  . have hc:yAlloc P e=some _:=hc;unfold yAlloc at hc;obtain ⟨z,_,h2⟩:=x0A hc;obtain ⟨cs,_,h4⟩:=x0A h2;cases aI:x2A P e <;> rw [aI] at h4
    . cases h4
    . rw [cond_true] at h4;split at h4
      . obtain ⟨l,_,h5⟩:=x0C h4;cases h5
      . cases h4
      . cases h4
  . obtain ⟨_,_,h1⟩:=x0A (show x1E P t len ps.toList=some _ from hc)
    obtain ⟨_,_,h2⟩:=x0A h1;obtain ⟨_,_,h3⟩:=x0A h2;obtain ⟨_,h4⟩:=x0B h3;cases h4
  . obtain ⟨_,_,h1⟩:=x0A hc;obtain ⟨a,b,_,_,h⟩:=x0V h1;cases h
  . have hc:x1D P .append args.toList ts.toList=some _:=hc;unfold x1D at hc;split at hc <;> first | (rename_i hh _ _;cases hh;done) | (rename_i hh _;cases hh;done) | (cases hc;done) | skip
    obtain ⟨_,_,h1⟩:=x0A hc;obtain ⟨_,_,h2⟩:=x0A h1;obtain ⟨_,_,h3⟩:=x0A h2;obtain ⟨_,_,h4⟩:=x0A h3;obtain ⟨a,b,_,_,h⟩:=x0V h4;cases h
  . rcases h with ⟨_,h⟩ | ⟨_,_,_,_,h⟩ <;> (obtain ⟨a,_,h⟩:=x0G h;cases h)
theorem y4P (hp:Pre P V X all o C dn sz μ st T H n){c a b:Yd}(hc:x1Z P o.op=some (.pick c a b)){v:PV D}(h:Got (y1C st C c a b) v)(hg:gOf st.T C=true):ValR P o T V μ H (MX X μ st.B) v:=by{have key:∃oc oa ob,o.op=.pick oc oa ob/\ydO oc=some c/\ydO oa=some a/\ydO ob=some b:=v0F hc;obtain⟨oc,oa,ob,ho,h1,h2,h3⟩:=key;have hρ:=x2T hp.sr hp.reg hg;unfold y1C at h;split at h;·{rename_i t k e1 e2;have kI:ev T oc=.bool t:=(e1▸hρ oc c h1:Rep V μ H (MX X μ st.B) (.bool t) (ev T oc)).bool_of;have wb:c=.t k:=by{unfold tmpD at e2;split at e2;·{cases e2;rfl};·{cases e2}};have hl:∀w,t=w->gOf st.T ((k,w)::C)=true:=fun w hw=>by{rw[x9P,hg,cond_true];unfold lit;subst wb;have:x3T C (pget st.T k)=.bool t:=e1;show cond w (x8H (x3T C (pget st.T k))) (!(x8H (x3T C (pget st.T k))))=true;rw[this,hw];cases w<;>rfl};have bw:∀H2 n2,(x0N P o).f T H2 n2=.ok (cond t (ev T oa) (ev T ob)) H2 n2:=fun H2 n2=>by{(have:(x0N P o).f T H2 n2=z6N (ev T oc) fun t=>.ok (cond t (ev T oa) (ev T ob)) H2 n2:=by unfold x0N;rw[ho]);rw[this,kI];rfl};cases t with|true=>{have ra:=x2T hp.sr hp.reg (hl true rfl) oa a h2;generalize opd st.T ((k,true)::C) a=pa at h ra;generalize opd st.T ((k,false)::C) b=pb at h;refine⟨ev T oa,?_,bw⟩;unfold selP at h;split at h;·{obtain rfl:=x1F h;exact ra};·{cases hk:ikeq _ _<;>rw[hk]at h;·{exact(x0L h).elim};·{obtain rfl:=x1F h;exact ra}};·{obtain rfl:=x1F h;exact ra};·{obtain⟨_,rfl⟩:=x3Q h;exact ra};·{obtain⟨h0,_⟩:=x3Q h;cases h0};·{exact(x0L h).elim}}|false=>{have rb:=x2T hp.sr hp.reg (hl false rfl) ob b h3;generalize opd st.T ((k,true)::C) a=pa at h;generalize opd st.T ((k,false)::C) b=pb at h rb;refine⟨ev T ob,?_,bw⟩;unfold selP at h;split at h;·{obtain rfl:=x1F h;exact rb};·{cases hk:ikeq _ _<;>rw[hk]at h;·{exact(x0L h).elim};·{obtain rfl:=x1F h;rw[x4W hk];exact rb}};·{obtain rfl:=x1F h;exact rb};·{obtain⟨h0,_⟩:=x3Q h;cases h0};·{obtain⟨_,rfl⟩:=x3Q h;exact rb};·{exact(x0L h).elim}}};·{exact(x0L h).elim}}
end
end Go.Yec
