/-
  THE EXECUTOR: the plan of a region that draws its order: masks, what yG on what, the order, the temporaries.;THE EXECUTOR: a region that draws its order comes, in every order, to what the executor's one order comes to.;THE EXECUTOR: a region that draws its order: facts of the executor's own run.;THE EXECUTOR: a region that draws its order: in every order to the same.
-/
import Derived.Test.YtadehgdfijjikaaGreatDoorX4
set_option linter.all false
namespace Go.Xec
variable [GT]
open Go
theorem z9P (m i:Nat):tb m i=m.testBit i:=by{rw[Nat.testBit_eq_decide_div_mod_eq];unfold tb;rw[show Nat.shiftRight m i=m/2^i from Nat.shiftRight_eq_div_pow m i];by_cases h:m/2^i%2=1;·{rw[show Nat.mod (m/2^i) 2=m/2^i%2 from rfl,h];rfl};·{rw[show Nat.mod (m/2^i) 2=m/2^i%2 from rfl,x0J h];simp[h]}}
theorem z5M (i j:Nat):tb (bit i) j=decide (i=j):=by{rw[z9P,bit,show Nat.shiftLeft 1 i=2^i from Nat.one_shiftLeft i,Nat.testBit_two_pow]}
theorem y9N (a b i:Nat):tb (Nat.lor a b) i=(tb a i||tb b i):=by{rw[z9P,z9P,z9P];exact Nat.testBit_or a b i}
theorem z9N (i:Nat):tb 0 i=false:=by rw[z9P];simp
theorem z5P {a b i:Nat}(h:sub a b=true)(hi:tb a i=true):tb b i=true:=by{have e:Nat.land a b=a:=x0U h;rw[z9P]at hi|-;have:(a&&&b).testBit i=(a.testBit i&&b.testBit i):=Nat.testBit_and a b i;rw[show a&&&b=a from e,hi]at this;simpa using this.symm}
theorem tb_full {d m i:Nat}(h:Nat.beq d (Nat.sub (bit m) 1)=true):tb d i=decide (i<m):=by{rw[z9P,x0U h,bit,show Nat.shiftLeft 1 m=2^m from Nat.one_shiftLeft m];exact Nat.testBit_two_pow_sub_one m i}
theorem lnat_nil (i:Nat):lnat [] i=0:=rfl
theorem y2M:∀(l:List Nat) (i:Nat),lnat l i=(l[i]?).getD 0|[],i=>by simp[lnat_nil]|x::l,0=>rfl|x::l,i+1=>by{rw[List.getElem?_cons_succ];exact y2M l i}
def u7M (all:List Oper)(S:Nat->Prop):Prop:=∀i o,all[i]? =some o->S i->∀e∈o.after.toList,Region.binds .any e=true->S e.on
theorem y1L (acc:List Nat)(e:Edge)(es:List Edge):x6J acc (e::es)=cond (Region.binds .any e) (Nat.lor (Nat.lor (bit e.on) (lnat acc e.on)) (x6J acc es)) (x6J acc es):=rfl
theorem y0N (acc:List Nat):∀(es:List Edge) (j:Nat),tb (x6J acc es) j=true->∃e∈es,Region.binds .any e=true/\(j=e.on\/tb (lnat acc e.on) j=true)|[],j,h=>by rw[show x6J acc []=0 from rfl,z9N]at h;cases h|e::es,j,h=>by{rw[y1L]at h;cases hb:Region.binds .any e with|false=>{rw[hb,cond_false]at h;obtain⟨e',h1,h2⟩:=y0N acc es j h;exact⟨e',by simp[h1],h2⟩}|true=>{rw[hb,cond_true,y9N,y9N,z5M]at h;simp only[Bool.or_eq_true,decide_eq_true_eq]at h;rcases h with(h|h)|h;·{exact⟨e,by simp,hb,.inl h.symm⟩};·{exact⟨e,by simp,hb,.inr h⟩};·{obtain⟨e',h1,h2⟩:=y0N acc es j h;exact⟨e',by simp[h1],h2⟩}}}
def GoodD (all:List Oper)(acc:List Nat):Prop:=∀(i:Nat) (o:Oper),i<acc.length->all[i]? =some o->∀S:Nat->Prop,u7M all S->(∀e∈o.after.toList,Region.binds .any e=true->S e.on)->∀j,tb (lnat acc i) j=true->S j
theorem z1P (o:Oper)(ops:List Oper)(acc:List Nat):x9Z (o::ops) acc=x9Z ops (acc++[x6J acc o.after.toList]):=rfl
theorem z1N (all:List Oper):∀(ops pre:List Oper) (acc:List Nat),all=pre++ops->acc.length=pre.length->GoodD all acc->GoodD all (x9Z ops acc)/\(x9Z ops acc).length=all.length|[],pre,acc,h1,h2,h3=>⟨h3,by rw[show x9Z [] acc=acc from rfl,h2,h1];simp⟩|o::ops,pre,acc,h1,h2,h3=>by{rw[z1P];refine z1N all ops (pre++[o]) _ (by rw[h1];simp) (by simp[h2]) fun i o' hi ho S hS he j hj=>?_;rw[y2M]at hj;by_cases ai:i<acc.length;·{rw[List.getElem?_append_left ai,<-y2M]at hj;exact h3 i o' ai ho S hS he j hj};·{(have eI:i=acc.length:=by simp at hi;omega);subst eI;rw[List.getElem?_append_right (Nat.le_refl _)]at hj;simp at hj;have cZ:o'=o:=by{rw[h1,h2,List.getElem?_append_right (Nat.le_refl _)]at ho;simpa using ho.symm};subst cZ;obtain⟨e,e1,e2,e3⟩:=y0N acc _ j hj;rcases e3 with rfl|e3;·{exact he e e1 e2};·{have hl:e.on<acc.length:=by{rcases Nat.lt_or_ge e.on acc.length with h|h;·{exact h};·{rw[y2M,List.getElem?_eq_none h]at e3;rw[show(none:Option Nat).getD 0=0 from rfl,z9N]at e3;cases e3}};(have b8:e.on<all.length:=by rw[h1];simp;omega);exact h3 e.on all[e.on] hl (List.getElem?_eq_getElem b8) S hS (hS e.on _ (List.getElem?_eq_getElem b8) (he e e1 e2)) j e3}}}
theorem y3U (acc:List Nat):∀(es:List Edge) (e:Edge),e∈es->Region.binds .any e=true->tb (x6J acc es) e.on=true|x::es,e,h,hb=>by{rw[y1L];rcases List.mem_cons.1 h with rfl|h;·{rw[hb,cond_true,y9N,y9N,z5M];simp};·{have ih:=y3U acc es e h hb;cases hx:Region.binds .any x with|false=>{rw[cond_false];exact ih}|true=>{rw[cond_true,y9N,ih];simp}}}
def EdgeD (all:List Oper)(acc:List Nat):Prop:=∀(i:Nat) (o:Oper),i<acc.length->all[i]? =some o->∀e∈o.after.toList,Region.binds .any e=true->tb (lnat acc i) e.on=true
theorem y7X (all:List Oper):∀(ops pre:List Oper) (acc:List Nat),all=pre++ops->acc.length=pre.length->EdgeD all acc->EdgeD all (x9Z ops acc)|[],pre,acc,h1,h2,h3=>h3|o::ops,pre,acc,h1,h2,h3=>by{rw[z1P];refine y7X all ops (pre++[o]) _ (by rw[h1];simp) (by simp[h2]) fun i o' hi ho e he hb=>?_;rw[y2M];by_cases ai:i<acc.length;·{rw[List.getElem?_append_left ai,<-y2M];exact h3 i o' ai ho e he hb};·{(have eI:i=acc.length:=by simp at hi;omega);subst eI;rw[List.getElem?_append_right (Nat.le_refl _)];have cZ:o'=o:=by{rw[h1,h2,List.getElem?_append_right (Nat.le_refl _)]at ho;simpa using ho.symm};subst cZ;simpa using y3U acc _ e he hb}}
theorem u2L (all:List Oper):EdgeD all (x9Z all []):=y7X all all [] [] rfl rfl (fun i o h=>by cases h)
theorem u9Z (all:List Oper):GoodD all (x9Z all [])/\(x9Z all []).length=all.length:=z1N all all [] [] rfl rfl (fun i o h=>by cases h)
theorem z6L (D:List Nat)(m i:Nat)(ord:List Nat)(done:Nat):y2H D m (i::ord) done=cond (cond (Nat.ble (i+1) m) (cond (tb done i) false (sub (lnat D i) done)) false) (y2H D m ord (Nat.lor done (bit i))) false:=rfl
theorem y3H (D:List Nat)(m:Nat):∀(ord pre:List Nat) (done:Nat),(∀j,tb done j=true↔j∈pre)->pre.Nodup->(∀j∈pre,j<m)->y2H D m ord done=true->
    (pre++ord).Nodup/\(∀j,j∈pre++ord↔j<m)/\∀(l r:List Nat) (i:Nat),ord=l++i::r->∀j,tb (lnat D i) j=true->j∈pre++l
  |[],pre,done,h1,h2,h3,h=>by
    have h:Nat.beq done (Nat.sub (bit m) 1)=true:=h;refine⟨by simpa using h2,fun j=>?_,fun l r i e=>by simp at e⟩
    rw[List.append_nil,<-h1,tb_full h];simp
  |i::ord,pre,done,h1,h2,h3,h=>by
    rw[z6L]at h;obtain⟨a1,a2⟩:=x0D h;obtain⟨a3,a4⟩:=x0D a1;have a5:tb done i=false:=by
      cases hb:tb done i with
      |false=>rfl
      |true=>rw[hb]at a4;cases a4
    rw[a5,cond_false]at a4;have qJ:i∉pre:=fun hm=>by rw[(h1 i).2 hm]at a5;cases a5
    obtain⟨b1,b2,b3⟩:=y3H D m ord (pre++[i]) (Nat.lor done (bit i)) (fun j=>by
      rw[y9N,z5M];simp only[Bool.or_eq_true,decide_eq_true_eq,List.mem_append,List.mem_singleton,h1];constructor
      . rintro(h|h)
        . exact .inl h
        . exact .inr h.symm
      . rintro(h|h)
        . exact .inl h
        . exact .inr h.symm) (by
      rw[List.nodup_append];exact⟨h2,by simp,fun a ha b hb e=>by simp at hb;subst hb;subst e;exact qJ ha⟩) (fun j hj=>by
      rcases List.mem_append.1 hj with h|h
      . exact h3 j h
      . simp at h;subst h;exact x1H a3) a2
    refine⟨by simpa using b1,fun j=>by simpa using b2 j,fun l r k e j hj=>?_⟩
    cases l with
    |nil=>
      simp at e;obtain⟨rfl,rfl⟩:=e;rw[List.append_nil];exact(h1 j).1 (z5P a4 hj)
    |cons x l=>
      simp at e;obtain⟨rfl,e⟩:=e
      have:=b3 l r k e j hj
      simpa using this
theorem u0K {D:List Nat}{m:Nat}{ord:List Nat}(h:y2H D m ord 0=true):ord.Nodup/\(∀j,j∈ord↔j<m)/\∀(l r:List Nat) (i:Nat),ord=l++i::r->∀j,tb (lnat D i) j=true->j∈l:=by{have:=y3H D m ord [] 0 (fun j=>by rw[z9N];simp) List.nodup_nil (fun j h=>by cases h) h;simpa using this}
theorem inL_ok {t:Nat}:∀{l:List Nat},t∈l->inL t l=true|x::l,h=>by{have e:inL t (x::l)=cond (Nat.beq x t) true (inL t l):=rfl;rw[e];rcases List.mem_cons.1 h with rfl|h;·{rw[x0T rfl];rfl};·{rw[inL_ok h];cases Nat.beq x t<;>rfl}}
theorem u7T (D:List Nat)(i:Nat)(di:Option Tmp)(li:List Tmp)(o:Oper)(ops:List Oper)(j:Nat):u7U D i di li (o::ops) j=cond (u4Y D i j di o.dst li) (u7U D i di li ops (j+1)) false:=rfl
theorem z0G (D:List Nat)(i:Nat)(di:Option Tmp)(li:List Tmp):∀(ops:List Oper) (j:Nat),u7U D i di li ops j=true->∀k o,ops[k]? =some o->u4Y D i (j+k) di o.dst li=true|[],j,h,k,o,ho=>by simp at ho|x::ops,j,h,k,o,ho=>by{rw[u7T]at h;obtain⟨h1,h2⟩:=x0D h;cases k with|zero=>{simp at ho;subst ho;exact h1}|succ k=>{have:=z0G D i di li ops (j+1) h2 k o (by simpa using ho);rw[show j+(k+1)=j+1+k from by omega];exact this}}
theorem z6H (D:List Nat)(all:List Oper)(o:Oper)(ops:List Oper)(i:Nat):y2G D all (o::ops) i=cond (u7U D i o.dst (looks all o) all 0) (y2G D all ops (i+1)) false:=rfl
theorem y3F (D:List Nat)(all:List Oper):∀(ops:List Oper) (i:Nat),y2G D all ops i=true->∀k o,ops[k]? =some o->u7U D (i+k) o.dst (looks all o) all 0=true|[],i,h,k,o,ho=>by simp at ho|x::ops,i,h,k,o,ho=>by{rw[z6H]at h;obtain⟨h1,h2⟩:=x0D h;cases k with|zero=>{simp at ho;subst ho;exact h1}|succ k=>{have:=y3F D all ops (i+1) h2 k o (by simpa using ho);rw[show i+(k+1)=i+1+k from by omega];exact this}}
theorem y6J {D:List Nat}{all:List Oper}(h:y2G D all all 0=true){i j:Nat}{oi oj:Oper}(hi:all[i]? =some oi)(hj:all[j]? =some oj)(ae:i≠j){t:Tmp}(ht:oj.dst=some t):oi.dst≠some t/\(t∈looks all oi->tb (lnat D i) j=true\/tb (lnat D j) i=true):=by{have h1:=y3F D all all 0 h i oi hi;have h2:=z0G D _ _ _ all 0 h1 j oj hj;simp only[Nat.zero_add]at h2;unfold u4Y at h2;rw[x0J ae,cond_false]at h2;obtain⟨h3,h4⟩:=x0D h2;rw[ht]at h3 h4;refine⟨fun e=>?_,fun hm=>?_⟩;·{rw[e]at h3;simp[dstNe]at h3};·{simp only[inL_ok hm,cond_true]at h4;cases hb:tb (lnat D i) j with|true=>{exact .inl rfl}|false=>{rw[hb,cond_false]at h4;exact .inr h4}}}
theorem u0Z (P:Program)(sz:Nat)(all:List Oper)(D:List Nat)(i:Nat)(ord:List Nat):y7C P sz all D (i::ord)=(match lget all i with|some o=>⟨i,lnat D i,kdOf P o.op,compI P sz all o⟩::y7C P sz all D ord|none=>y7C P sz all D ord):=rfl
theorem y7B (P:Program)(sz:Nat)(all:List Oper)(D:List Nat):∀(ord:List Nat),(∀j∈ord,j<all.length)->(y7C P sz all D ord).map (·.i)=ord/\∀x∈y7C P sz all D ord,∃o,all[x.i]? =some o/\x.D=lnat D x.i/\x.kd=kdOf P o.op/\x.c=compI P sz all o|[],_=>⟨rfl,fun x hx=>by cases hx⟩|i::ord,h=>by{obtain⟨h1,h2⟩:=y7B P sz all D ord fun j hj=>h j (by simp[hj]);have hi:i<all.length:=h i (by simp);rw[u0Z,lget_eq,List.getElem?_eq_getElem hi];refine⟨by simp[h1],fun x hx=>?_⟩;rcases List.mem_cons.1 hx with rfl|hx;·{exact⟨all[i],List.getElem?_eq_getElem hi,rfl,rfl,rfl⟩};·{exact h2 x hx}}
structure Plan (P:Program) (sz:Nat) (all:List Oper) (L:List PI):Prop where
 item:∀(p:Nat) (x:PI),L[p]? =some x->∃o,all[x.i]? =some o/\x.kd=kdOf P o.op/\x.c=compI P sz all o
 uniq:∀(p q:Nat) (x y:PI),L[p]? =some x->L[q]? =some y->x.i=y.i->p=q
 full:∀(i:Nat) (o:Oper),all[i]? =some o->∃(p:Nat) (x:PI),L[p]? =some x/\x.i=i
 ahead:∀(p:Nat) (x:PI) (j:Nat),L[p]? =some x->tb x.D j=true->∃(q:Nat) (y:PI),q<p/\L[q]? =some y/\y.i=j
 hang:∀(p:Nat) (x:PI) (o:Oper) (S:Nat->Prop),L[p]? =some x->all[x.i]? =some o->u7M all S->(∀e∈o.after.toList,Region.binds .any e=true->S e.on)->∀j,tb x.D j=true->S j
 edge:∀(p:Nat) (x:PI) (o:Oper) (e:Edge),L[p]? =some x->all[x.i]? =some o->e∈o.after.toList->Region.binds .any e=true->tb x.D e.on=true
 dsts:∀(p q:Nat) (x y:PI) (ox oy:Oper) (t:Tmp),L[p]? =some x->L[q]? =some y->all[x.i]? =some ox->all[y.i]? =some oy->p≠q->oy.dst=some t->ox.dst≠some t
 looked:∀(p q:Nat) (x y:PI) (ox oy:Oper) (t:Tmp),L[p]? =some x->L[q]? =some y->all[x.i]? =some ox->all[y.i]? =some oy->p≠q->oy.dst=some t->t∈looks all ox->tb x.D y.i=true\/tb y.D x.i=true
theorem z0L {P:Program}{sz:Nat}{all:List Oper}{L:List PI}(h:y1B P sz all=some L):Plan P sz all L:=by{unfold y1B at h;simp only at h;generalize orderL (x9Z all []) (v4S (isEff P) all 0) (u5L P (x9Z all []) all 0) all.length ((List.range all.length).filter (tb (v4S (isEff P) all 0))) 0 0=ord at h;unfold u4W at h;cases hc:cond (y2H (x9Z all []) all.length ord 0) (y2G (x9Z all []) all all 0) false with|false=>{rw[hc]at h;cases h}|true=>{(rw[hc,cond_true]at h;cases h;obtain⟨c1,c2⟩:=x0D hc;obtain⟨o1,o2,o3⟩:=u0K c1;obtain⟨i1,i2⟩:=y7B P sz all (x9Z all []) ord fun j hj=>(o2 j).1 hj;obtain⟨d1,d2⟩:=u9Z all;generalize hL:y7C P sz all (x9Z all []) ord=L at*;have idx:∀(p:Nat) (x:PI),L[p]? =some x->ord[p]? =some x.i:=fun p x hx=>by rw[<-i1];simp[hx]);(have mem:∀(p:Nat) (x:PI),L[p]? =some x->x∈L:=fun p x hx=>List.mem_of_getElem? hx;have len:L.length=ord.length:=by rw[<-i1];simp);refine⟨fun p x hx=>?_,fun p q x y hx hy e=>?_,fun i o ho=>?_,fun p x j hx hj=>?_,fun p x o S hx ho hS he j hj=>?_,fun p x o e hx ho he hb=>?_,fun p q x y ox oy t hx hy uU uT ae ht=>?_,fun p q x y ox oy t hx hy uU uT ae ht hm=>?_⟩;·{obtain⟨o,a1,a2,a3,a4⟩:=i2 x (mem p x hx);exact⟨o,a1,a3,a4⟩};·{have hp:=idx p x hx;have hq:=idx q y hy;rw[<-e]at hq;have cu:=(List.getElem?_eq_some_iff.1 hp).1;exact(List.getElem?_inj cu o1).1 (hp.trans hq.symm)};·{(have:i∈ord:=(o2 i).2 (List.getElem?_eq_some_iff.1 ho).1;obtain⟨p,hp⟩:=List.getElem?_of_mem this;have cu:p<L.length:=by rw[len];exact(List.getElem?_eq_some_iff.1 hp).1);refine⟨p,L[p],List.getElem?_eq_getElem cu,?_⟩;have:=idx p _ (List.getElem?_eq_getElem cu);rw[hp]at this;exact(Option.some.inj this).symm};·{obtain⟨o,a1,a2,a3,a4⟩:=i2 x (mem p x hx);rw[a2]at hj;have hp:=idx p x hx;have cu:=(List.getElem?_eq_some_iff.1 hp).1;have mB:ord=ord.take p++x.i::ord.drop (p+1):=by{(have e1:ord[p]=x.i:=by rw[List.getElem?_eq_getElem cu]at hp;exact Option.some.inj hp);rw[<-e1];simp};have:=o3 _ _ _ mB j hj;obtain⟨q,hq⟩:=List.getElem?_of_mem this;have mF:=(List.getElem?_eq_some_iff.1 hq).1;simp at mF;rw[List.getElem?_take_of_lt (by omega)]at hq;(have xS:q<L.length:=by rw[len];omega);refine⟨q,L[q],by omega,List.getElem?_eq_getElem xS,?_⟩;have:=idx q _ (List.getElem?_eq_getElem xS);rw[hq]at this;exact(Option.some.inj this).symm};·{obtain⟨o',a1,a2,a3,a4⟩:=i2 x (mem p x hx);rw[a2]at hj;exact d1 x.i o (by rw[d2];exact(List.getElem?_eq_some_iff.1 ho).1) ho S hS he j hj};·{obtain⟨o',a1,a2,a3,a4⟩:=i2 x (mem p x hx);rw[a2];exact u2L all x.i o (by rw[d2];exact(List.getElem?_eq_some_iff.1 ho).1) ho e he hb};·{have:x.i≠y.i:=fun e=>ae (by{have hp:=idx p x hx;have hq:=idx q y hy;rw[<-e]at hq;exact(List.getElem?_inj (List.getElem?_eq_some_iff.1 hp).1 o1).1 (hp.trans hq.symm)});exact(y6J c2 uU uT this ht).1};·{have:x.i≠y.i:=fun e=>ae (by{have hp:=idx p x hx;have hq:=idx q y hy;rw[<-e]at hq;exact(List.getElem?_inj (List.getElem?_eq_some_iff.1 hp).1 o1).1 (hp.trans hq.symm)});obtain⟨_,_,a2,_,_⟩:=i2 x (mem p x hx);obtain⟨_,_,b2,_,_⟩:=i2 y (mem q y hy);rw[a2,b2];exact(y6J c2 uU uT this ht).2 hm}}}
open Go
variable [GT]
section
variable {P:Program} {self:Task->Hp->Nat->R}
theorem u2N {x:PI}{s s':DS}{r:OR}(h:y1M x s r=some s'):∃v H1 n1,r=.ok v H1 n1/\((n1=s.n/\s'.H=s.H)\/(n1=s.n+1/\∃o,hget H1 s.n=some o/\s'.H=hset s.H s.n o))/\s'.T=put s.T x.c.dst v/\s'.n=n1/\s'.K=s.K/\s'.E=s.E/\s'.A=cond (Nat.beq n1 s.n) s.A (Nat.lor s.A (bit x.i))/\s'.W=s.W:=by{cases r with|bad=>{cases h}|ok v H1 n1=>{have h:(joinH s.H H1 s.n n1).map (fun H''=>({s with T:=put s.T x.c.dst v,H:=H'',n:=n1,A:=cond (Nat.beq n1 s.n) s.A (Nat.lor s.A (bit x.i))}:DS))=some s':=h;cases hj:joinH s.H H1 s.n n1 with|none=>{rw[hj]at h;cases h}|some H2=>{rw[hj]at h;cases h;refine⟨v,H1,n1,rfl,?_,rfl,rfl,rfl,rfl,rfl,rfl⟩;unfold joinH at hj;cases hb:Nat.beq n1 s.n with|true=>{rw[hb,cond_true]at hj;cases hj;exact .inl ⟨x0U hb,rfl⟩}|false=>{rw[hb,cond_false]at hj;cases bI:Nat.beq n1 (Nat.succ s.n)with|false=>{rw[bI]at hj;cases hj}|true=>{rw[bI,cond_true]at hj;cases ho:hget H1 s.n with|none=>{rw[ho]at hj;cases hj}|some o=>{rw[ho]at hj;cases hj;exact .inr ⟨x0U bI,o,rfl,rfl⟩}}}}}}
theorem u2M {x:PI}{s s':DS}{r:OR}(h:y5C x s r=some s'):∃v H1 n1,r=.ok v H1 n1/\sub s.E x.D=true/\s'.T=put s.T x.c.dst v/\s'.H=s.H/\s'.n=s.n/\s'.K=s.K/\s'.E=s.E/\s'.A=s.A/\s'.W=⟨x.i,x.c,s.T,v⟩::s.W:=by{cases r with|bad=>{cases h}|ok v H1 n1=>{have h:cond (sub s.E x.D) (some ({s with T:=put s.T x.c.dst v,W:=⟨x.i,x.c,s.T,v⟩::s.W}:DS)) none=some s':=h;cases hb:sub s.E x.D with|false=>{rw[hb]at h;cases h}|true=>{rw[hb]at h;cases h;exact⟨v,H1,n1,rfl,rfl,rfl,rfl,rfl,rfl,rfl,rfl,rfl⟩}}}
theorem u9X {x:PI}{s s':DS}{r:OR}(h:z3X self x s r=some s'):∃v H1 n1,r=.ok v H1 n1/\sub s.E x.D=true/\sub s.A x.D=true/\y9M self x.D H1 n1 s.W=true/\s'.T=put s.T x.c.dst v/\s'.H=H1/\s'.n=n1/\s'.K=H1/\s'.E=Nat.lor s.E (bit x.i)/\s'.A=s.A/\s'.W=s.W:=by{cases r with|bad=>{cases h}|ok v H1 n1=>{have h:cond (cond (sub s.E x.D) (cond (sub s.A x.D) (y9M self x.D H1 n1 s.W) false) false) (some ({s with T:=put s.T x.c.dst v,H:=H1,n:=n1,K:=H1,E:=Nat.lor s.E (bit x.i)}:DS)) none=some s':=h;cases hb:cond (sub s.E x.D) (cond (sub s.A x.D) (y9M self x.D H1 n1 s.W) false) false with|false=>{rw[hb]at h;cases h}|true=>{rw[hb]at h;cases h;obtain⟨b1,b2⟩:=x0D hb;obtain⟨b3,b4⟩:=x0D b2;exact⟨v,H1,n1,rfl,b1,b3,b4,rfl,rfl,rfl,rfl,rfl,rfl,rfl⟩}}}
noncomputable def y7D (self:Task->Hp->Nat->R)(x:PI)(s:DS):OR:=match x.kd with|.free=>x3P self s.T .leaf s.n x.c|.load=>x3P self s.T s.K s.n x.c|.eff=>x3P self s.T s.H s.n x.c
def valR:OR->Value|.ok v _ _=>v|.bad=>undef
structure DRun (P:Program) (sf:Task->Hp->Nat->R) (sz:Nat) (all:List Oper) (L:List PI) (st:Nat->DS):Prop where
 plan:Plan P sz all L
 step:∀(p:Nat) (x:PI),L[p]? =some x->x2U sf x (st p)=some (st (p+1))
 e0:(st 0).E=0
 a0:(st 0).A=0
 k0:(st 0).K=(st 0).H
theorem drawL_cons (x:PI)(l:List PI)(s:DS):drawL self (x::l) s=(match x2U self x s with|some s=>drawL self l s|none=>.bad):=rfl
theorem z8K:∀(l:List PI) (s:DS) (ex:Ex) (T':Tm) (H':Hp) (n':Nat),drawL self l s=.ok ex T' H' n'->∃st:Nat->DS,st 0=s/\(∀(p:Nat) (x:PI),l[p]? =some x->x2U self x (st p)=some (st (p+1)))/\ex=.normal/\T'=(st l.length).T/\H'=(st l.length).H/\n'=(st l.length).n|[],s,ex,T',H',n',h=>by cases h;exact⟨fun _=>s,rfl,fun p x hx=>by simp at hx,rfl,rfl,rfl,rfl⟩|x::l,s,ex,T',H',n',h=>by{rw[drawL_cons]at h;cases hs:x2U self x s with|none=>{rw[hs]at h;cases h}|some s1=>{rw[hs]at h;obtain⟨st,h1,h2,h3,h4,h5,h6⟩:=z8K l s1 ex T' H' n' h;refine⟨fun p=>match p with|0=>s|p+1=>st p,rfl,fun p y hy=>?_,h3,h4,h5,h6⟩;cases p with|zero=>{simp at hy;subst hy;simp only[h1];exact hs}|succ p=>{exact h2 p y (by simpa using hy)}}}
section
variable {sz:Nat} {all:List Oper} {L:List PI} {st:Nat->DS}
structure FreeS (sf:Task->Hp->Nat->R) (x:PI) (s s':DS) (v:Value) (H1:Hp):Prop where
 run:x3P sf s.T .leaf s.n x.c=.ok v H1 s'.n
 heap:(s'.n=s.n/\s'.H=s.H)\/(s'.n=s.n+1/\∃o,hget H1 s.n=some o/\s'.H=hset s.H s.n o)
 K:s'.K=s.K
 E:s'.E=s.E
 A:s'.A=cond (Nat.beq s'.n s.n) s.A (Nat.lor s.A (bit x.i))
 W:s'.W=s.W
structure LoadS (sf:Task->Hp->Nat->R) (x:PI) (s s':DS) (v:Value):Prop where
 run:∃H1 n1,x3P sf s.T s.K s.n x.c=.ok v H1 n1
 dep:sub s.E x.D=true
 H:s'.H=s.H
 n:s'.n=s.n
 K:s'.K=s.K
 E:s'.E=s.E
 A:s'.A=s.A
 W:s'.W=⟨x.i,x.c,s.T,v⟩::s.W
structure EffS (sf:Task->Hp->Nat->R) (x:PI) (s s':DS) (v:Value):Prop where
 run:x3P sf s.T s.H s.n x.c=.ok v s'.H s'.n
 dep:sub s.E x.D=true
 depA:sub s.A x.D=true
 wts:y9M sf x.D s'.H s'.n s.W=true
 K:s'.K=s'.H
 E:s'.E=Nat.lor s.E (bit x.i)
 A:s'.A=s.A
 W:s'.W=s.W
theorem DRun.free (d:DRun P self sz all L st){p:Nat}{x:PI}(hx:L[p]? =some x)(hk:x.kd=.free):∃v H1,FreeS self x (st p) (st (p+1)) v H1/\(st (p+1)).T=put (st p).T x.c.dst v/\valR (y7D self x (st p))=v:=by{have h:=d.step p x hx;unfold x2U at h;rw[hk]at h;obtain⟨v,H1,n1,h1,h2,h3,rfl,h5,h6,h7,h8⟩:=u2N h;exact⟨v,H1,⟨h1,h2,h5,h6,h7,h8⟩,h3,by unfold y7D;rw[hk];simp only[h1];rfl⟩}
theorem DRun.load (d:DRun P self sz all L st){p:Nat}{x:PI}(hx:L[p]? =some x)(hk:x.kd=.load):∃v,LoadS self x (st p) (st (p+1)) v/\(st (p+1)).T=put (st p).T x.c.dst v/\valR (y7D self x (st p))=v:=by{have h:=d.step p x hx;unfold x2U at h;rw[hk]at h;obtain⟨v,H1,n1,h1,h2,h3,h4,h5,h6,h7,h8,h9⟩:=u2M h;exact⟨v,⟨⟨H1,n1,h1⟩,h2,h4,h5,h6,h7,h8,h9⟩,h3,by unfold y7D;rw[hk];simp only[h1];rfl⟩}
theorem DRun.eff (d:DRun P self sz all L st){p:Nat}{x:PI}(hx:L[p]? =some x)(hk:x.kd=.eff):∃v,EffS self x (st p) (st (p+1)) v/\(st (p+1)).T=put (st p).T x.c.dst v/\valR (y7D self x (st p))=v:=by{have h:=d.step p x hx;unfold x2U at h;rw[hk]at h;obtain⟨v,H1,n1,h1,h2,h3,h4,h5,rfl,rfl,h8,h9,aQ,ce⟩:=u9X h;exact⟨v,⟨h1,h2,h3,h4,h8,h9,aQ,ce⟩,h5,by unfold y7D;rw[hk];simp only[h1];rfl⟩}
theorem DRun.val (d:DRun P self sz all L st){p:Nat}{x:PI}(hx:L[p]? =some x):(st (p+1)).T=put (st p).T x.c.dst (valR (y7D self x (st p))):=by{cases hk:x.kd with|free=>{obtain⟨v,H1,_,h2,h3⟩:=d.free hx hk;rw[h3];exact h2}|load=>{obtain⟨v,_,h2,h3⟩:=d.load hx hk;rw[h3];exact h2}|eff=>{obtain⟨v,_,h2,h3⟩:=d.eff hx hk;rw[h3];exact h2}}
end
end
variable [GT]
section
variable {P:Program} {self:Task->Hp->Nat->R}
theorem x8R {T:Tm}{H H':Hp}{n n':Nat}{o:Oper}{v:Value}(h:x0X P T H n o=.ok v H' n'):H'=H/\n'=n:=by{unfold x0X at h;split at h;·{obtain⟨_,h2⟩:=x3A h;cases h2;exact⟨rfl,rfl⟩};·{cases h}}
theorem v0G {o:Oper}{T:Tm}{H H':Hp}{n n':Nat}{v:Value}(hk:kdOf P o.op=.load)(h:(x0N P o).f T H n=.ok v H' n'):H'=H/\n'=n:=by{(unfold kdOf at hk;split at hk<;>first|(cases hk;done)|skip);·{rename_i t a ho;unfold x0N at h;rw[ho]at h;unfold z8R at h;simp only at h;cases hb:x2C (P.underlying t)with|true=>{rw[hb,cond_true]at h;obtain⟨_,_,h2⟩:=x1S h;obtain⟨_,_,h3⟩:=x4M h2;obtain⟨_,_,h4⟩:=x1M h3;obtain⟨_,_,h5⟩:=x1M h4;cases h5;exact⟨rfl,rfl⟩}|false=>{rw[hb,cond_false]at h;obtain⟨_,_,h2⟩:=x1S h;obtain⟨_,_,h3⟩:=x4M h2;obtain⟨_,_,h4⟩:=x1M h3;obtain⟨_,_,h5⟩:=x1M h4;cases h5;exact⟨rfl,rfl⟩}};·{rename_i s d x ho;unfold x0N at h;rw[ho]at h;unfold x4N at h;simp only at h;cases hb:x9Y (P.underlying d)with|false=>{rw[hb,cond_false]at h;split at h;·{unfold y1T at h;obtain⟨_,h2⟩:=x4Z h;cases hs:x9Y (P.underlying s)with|true=>{exfalso;rw[y4V hs]at hk;cases hk}|false=>{rw[hs,cond_false]at h2;obtain⟨_,h3⟩:=x4Z h2;obtain⟨_,_,_,_,h4⟩:=z2V h3;obtain⟨_,_,h5⟩:=x1M h4;cases h5;exact⟨rfl,rfl⟩}};·{exact x8R (x3A h).2}}|true=>{rw[hb,cond_true]at h;split at h;·{obtain⟨_,h2⟩:=x4Z h;simp only at h2;unfold v3C at h2;split at h2;·{obtain⟨_,_,h4⟩:=x1M h2;obtain⟨_,_,h5⟩:=x1M h4;obtain⟨_,_,h6⟩:=x1M h5;cases h6;exact⟨rfl,rfl⟩};·{exact x8R (x3A h2).2}};·{exact x8R (x3A h).2}}}}
theorem v4Y {sz:Nat}{all:List Oper}{o:Oper}{T:Tm}{H H':Hp}{n n':Nat}{v:Value}(hk:kdOf P o.op=.load)(h:x3P self T H n (compI P sz all o)=.ok v H' n'):H'=H/\n'=n:=by{have hK:∀{v:Value} {H':Hp} {n':Nat},y4B self T H n (x6B P o)=.ok v H' n'->H'=H/\n'=n:=fun{v H' n'} h=>by{unfold x6B at h;split at h;·{rename_i f args ts ho;rw[ho]at hk;cases hk};·{cases hc:x5Y o.op.operands.toList with|false=>{rw[hc]at h;cases h}|true=>{rw[hc,cond_true]at h;exact v0G hk h}}};unfold compI at h;cases hd:y9V sz o.dst with|false=>{rw[hd]at h;cases h}|true=>{rw[hd,cond_true]at h;split at h;·{exact hK h};·{split at h;·{rename_i j want _ _ t ht;have h:(match tget T t with|.bool b=>cond (cond want b (!b)) (y4B self T H n (x6B P o)) (.ok undef H n)|_=>.ok undef H n)=.ok v H' n':=h;split at h;·{rename_i b _;cases hc:cond want b (!b)with|true=>{rw[hc,cond_true]at h;exact hK h}|false=>{rw[hc,cond_false]at h;cases h;exact⟨rfl,rfl⟩}};·{cases h;exact⟨rfl,rfl⟩}};·{cases h}}}}
theorem v1F {a b:Value}(h:veq0 a b=true):a=b:=by{unfold veq0 at h;split at h;·{rename_i x y;cases x<;>cases y<;>first|rfl|cases h};·{obtain⟨h1,h2⟩:=x0D h;rw[of_decide_eq_true h1,of_decide_eq_true h2]};·{rename_i x y;have:=of_decide_eq_true h;rw[show x=y from by cases x;cases y;simp at this;exact congrArg _ this]};·{rfl};·{obtain⟨h1,h2⟩:=x0D h;rw[x0U h1,x0U h2]};·{obtain⟨h1,h2⟩:=x0D h;rw[x0U h1,x0U h2]};·{obtain⟨h1,h2⟩:=x0D h;obtain⟨h3,h4⟩:=x0D h1;obtain⟨h5,h6⟩:=x0D h2;rw[x0U h3,x0U h4,x0U h5,x0U h6]};·{rfl};·{rfl};·{cases h}}
theorem y0D:∀{l m:List Value},veqL l m=true->l=m|[],[],_=>rfl|[],_::_,h=>by cases h|_::_,[],h=>by cases h|x::l,y::m,h=>by{have h:cond (veq0 x y) (veqL l m) false=true:=h;obtain⟨h1,h2⟩:=x0D h;rw[v1F h1,y0D h2]}
theorem u3V {a b:Value}(h:veq a b=true):a=b:=by{unfold veq at h;split at h;·{rename_i x y;rw[show x=y from Array.ext' (y0D h)]};·{rename_i f x y g c d;obtain⟨h1,h2⟩:=x0D h;obtain⟨h3,h4⟩:=x0D h2;rw[x0U h1,show x=c from Array.ext' (y0D h3),show y=d from Array.ext' (y0D h4)]};·{rename_i f x y g c d;obtain⟨h1,h2⟩:=x0D h;obtain⟨h3,h4⟩:=x0D h2;rw[x0U h1,show x=c from Array.ext' (y0D h3),show y=d from Array.ext' (y0D h4)]};·{rename_i x y;rw[show x=y from Array.ext' (y0D h)]};·{exact v1F h}}
section
variable {sz:Nat} {all:List Oper} {L:List PI} {st:Nat->DS}
theorem DRun.mono1 (d:DRun P self sz all L st)(hN:x3M P)(ah:∀t H n,x6W P t H n (self t H n)){p:Nat}{x:PI}(hx:L[p]? =some x):NoneOut (st p).H (st p).n (st (p+1)).H (st (p+1)).n:=by{cases hk:x.kd with|free=>{obtain⟨v,H1,f,_,_⟩:=d.free hx hk;rcases f.heap with⟨h1,h2⟩|⟨h1,o,h2,h3⟩;·{rw[h1,h2];exact NoneOut.refl _ _};·{rw[h1,h3];exact⟨by omega,fun i hi h0=>by rw[x0E,if_neg (by omega)];exact h0⟩}}|load=>{obtain⟨v,f,_,_⟩:=d.load hx hk;rw[f.H,f.n];exact NoneOut.refl _ _}|eff=>{obtain⟨v,f,_,_⟩:=d.eff hx hk;obtain⟨o,ho,_,hc⟩:=d.plan.item p x hx;have h:=f.run;rw[hc]at h;exact(x2W hN ah h).1.1}}
theorem DRun.mono (d:DRun P self sz all L st)(hN:x3M P)(ah:∀t H n,x6W P t H n (self t H n)){p:Nat}:∀{q:Nat},p<=q->q<=L.length->NoneOut (st p).H (st p).n (st q).H (st q).n|0,h1,h2=>by{(have:p=0:=by omega);subst this;exact NoneOut.refl _ _}|q+1,h1,h2=>by{rcases Nat.lt_or_ge q p with h|h;·{(have:p=q+1:=by omega);subst this;exact NoneOut.refl _ _};·{exact(d.mono hN ah h (by omega)).trans (d.mono1 hN ah (List.getElem?_eq_getElem (by omega)))}}
theorem DRun.effs (d:DRun P self sz all L st):∀(p:Nat),p<=L.length->∀(q:Nat) (y:PI),L[q]? =some y->y.kd=.eff->q<p->tb (st p).E y.i=true|0,_,_,_,_,_,h=>by omega|p+1,hp,q,y,hy,hk,h=>by{have hx:L[p]? =some L[p]:=List.getElem?_eq_getElem (by omega);have old:q<p->tb (st p).E y.i=true:=fun h=>d.effs p (by omega) q y hy hk h;by_cases hq:q=p;·{subst hq;rw[hy]at hx;cases hx;obtain⟨v,f,_,_⟩:=d.eff hy hk;rw[f.E,y9N,z5M];simp};·{have old:=old (by omega);cases iS:L[p].kd with|free=>{obtain⟨v,H1,f,_,_⟩:=d.free hx iS;rw[f.E];exact old}|load=>{obtain⟨v,f,_,_⟩:=d.load hx iS;rw[f.E];exact old}|eff=>{obtain⟨v,f,_,_⟩:=d.eff hx iS;rw[f.E,y9N,old];rfl}}}
theorem DRun.makers (d:DRun P self sz all L st):∀(p:Nat),p<=L.length->∀(q:Nat) (y:PI),L[q]? =some y->y.kd=.free->(st (q+1)).n=(st q).n+1->q<p->tb (st p).A y.i=true|0,_,_,_,_,_,_,h=>by omega|p+1,hp,q,y,hy,hk,ha,h=>by{have hx:L[p]? =some L[p]:=List.getElem?_eq_getElem (by omega);by_cases hq:q=p;·{subst hq;rw[hy]at hx;cases hx;obtain⟨v,H1,f,_,_⟩:=d.free hy hk;rw[f.A,ha,x0J (by omega),cond_false,y9N,z5M];simp};·{have old:=d.makers p (by omega) q y hy hk ha (by omega);cases iS:L[p].kd with|free=>{obtain⟨v,H1,f,_,_⟩:=d.free hx iS;rw[f.A];cases Nat.beq (st (p+1)).n (st p).n;·{rw[cond_false,y9N,old];rfl};·{exact old}}|load=>{obtain⟨v,f,_,_⟩:=d.load hx iS;rw[f.A];exact old}|eff=>{obtain⟨v,f,_,_⟩:=d.eff hx iS;rw[f.A];exact old}}}
theorem DRun.loads (d:DRun P self sz all L st):∀(p:Nat),p<=L.length->∀(q:Nat) (y:PI),L[q]? =some y->y.kd=.load->q<p->(⟨y.i,y.c,(st q).T,valR (y7D self y (st q))⟩:Wt)∈(st p).W|0,_,_,_,_,_,h=>by omega|p+1,hp,q,y,hy,hk,h=>by{have hx:L[p]? =some L[p]:=List.getElem?_eq_getElem (by omega);by_cases hq:q=p;·{subst hq;obtain⟨v,f,_,hv⟩:=d.load hy hk;rw[f.W,hv];simp};·{have old:=d.loads p (by omega) q y hy hk (by omega);cases iS:L[p].kd with|free=>{obtain⟨v,H1,f,_,_⟩:=d.free hx iS;rw[f.W];exact old}|load=>{obtain⟨v,f,_,_⟩:=d.load hx iS;rw[f.W];exact List.mem_cons_of_mem _ old}|eff=>{obtain⟨v,f,_,_⟩:=d.eff hx iS;rw[f.W];exact old}}}
theorem z5C {D:Nat}{H:Hp}{n:Nat}:∀{W:List Wt} {x:Wt},y9M self D H n W=true->x∈W->wtOk self D H n x=true|y::W,x,h,hx=>by{have h:cond (wtOk self D H n y) (y9M self D H n W) false=true:=h;obtain⟨h1,h2⟩:=x0D h;rcases List.mem_cons.1 hx with rfl|hx;·{exact h1};·{exact z5C h2 hx}}
def IsCut (L:List PI)(c:Nat):Prop:=c=0\/∃q y,c=q+1/\L[q]? =some y/\y.kd=.eff
def Calm (L:List PI)(c p:Nat):Prop:=∀q y,c<=q->q<p->L[q]? =some y->y.kd≠ .eff
theorem DRun.behind (d:DRun P self sz all L st){c:Nat}(hc:IsCut L c):∀(p:Nat),c<=p->p<=L.length->Calm L c p->(st p).K=(st c).H:=by{intro p;induction p with|zero=>{(intro h1 h2 h3;have:c=0:=by omega);subst this;exact d.k0}|succ p ih=>{intro h1 h2 h3;have hx:L[p]? =some L[p]:=List.getElem?_eq_getElem (by omega);rcases Nat.lt_or_ge p c with h|h;·{(have:c=p+1:=by omega);subst this;rcases hc with hc|⟨q,y,e,hy,hk⟩;·{omega};·{(have:q=p:=by omega);subst this;obtain⟨v,f,_,_⟩:=d.eff hy hk;exact f.K}};·{have ih:=ih h (by omega) fun q y a b=>h3 q y a (by omega);cases hk:L[p].kd with|free=>{obtain⟨v,H1,f,_,_⟩:=d.free hx hk;rw[f.K];exact ih}|load=>{obtain⟨v,f,_,_⟩:=d.load hx hk;rw[f.K];exact ih}|eff=>{exact absurd hk (h3 p _ h (by omega) hx)}}}}
theorem DRun.grow (d:DRun P self sz all L st)(hN:x3M P)(ah:∀t H n,x6W P t H n (self t H n))(h0:∀i,(st 0).n<=i->i<(st L.length).n->hget (st 0).H i=none){c:Nat}:∀(p:Nat),c<=p->p<=L.length->Calm L c p->∀i o,hget (st c).H i=some o->hget (st p).H i=some o:=by{intro p;induction p with|zero=>{(intro h1 h2 h3 i o h;have:c=0:=by omega);subst this;exact h}|succ p ih=>{intro h1 h2 h3 i o h;rcases Nat.lt_or_ge p c with bi|bi;·{(have:c=p+1:=by omega);subst this;exact h};·{have hx:L[p]? =some L[p]:=List.getElem?_eq_getElem (by omega);have ih:=ih bi (by omega) (fun q y a b=>h3 q y a (by omega)) i o h;cases hk:L[p].kd with|free=>{obtain⟨v,H1,f,_,_⟩:=d.free hx hk;rcases f.heap with⟨_,h5⟩|⟨h4,o',_,h5⟩;·{rw[h5];exact ih};·{rw[h5,x0E];split;·{rename_i e;subst e;have m0:=d.mono hN ah (Nat.zero_le p) (by omega);have m1:=d.mono hN ah (show p+1<=L.length by omega) (Nat.le_refl _);rw[m0.2 _ (.inr (Nat.le_refl _)) (h0 _ m0.1 (by have:=m1.1;omega))]at ih;cases ih};·{exact ih}}}|load=>{obtain⟨v,f,_,_⟩:=d.load hx hk;rw[f.H];exact ih}|eff=>{exact absurd hk (h3 p _ bi (by omega) hx)}}}}
theorem DRun.grown (d:DRun P self sz all L st){c:Nat}:∀(p:Nat),c<=p->p<=L.length->Calm L c p->∀i o,hget (st p).H i=some o->hget (st c).H i=some o\/∃q y,c<=q/\q<p/\L[q]? =some y/\y.kd=.free/\(st (q+1)).n=(st q).n+1/\i=(st q).n/\hget (st (q+1)).H i=some o:=by{intro p;induction p with|zero=>{(intro h1 h2 h3 i o h;have:c=0:=by omega);subst this;exact .inl h}|succ p ih=>{intro h1 h2 h3 i o h;rcases Nat.lt_or_ge p c with bi|bi;·{(have:c=p+1:=by omega);subst this;exact .inl h};·{have hx:L[p]? =some L[p]:=List.getElem?_eq_getElem (by omega);have ih:hget (st p).H i=some o->_:=ih bi (by omega) (fun q y a b=>h3 q y a (by omega)) i o;(have next:hget (st p).H i=some o->hget (st c).H i=some o\/∃q y,c<=q/\q<p+1/\L[q]? =some y/\y.kd=.free/\(st (q+1)).n=(st q).n+1/\i=(st q).n/\hget (st (q+1)).H i=some o:=fun h=>by{rcases ih h with h|⟨q,y,a1,a2,a3⟩;·{exact .inl h};·{exact .inr ⟨q,y,a1,by omega,a3⟩}});cases hk:L[p].kd with|free=>{obtain⟨v,H1,f,_,_⟩:=d.free hx hk;rcases f.heap with⟨_,h5⟩|⟨h4,o',_,h5⟩;·{rw[h5]at h;exact next h};·{by_cases e:i=(st p).n;·{exact .inr ⟨p,_,bi,by omega,hx,hk,h4,e,h⟩};·{rw[h5,x0E,if_neg e]at h;exact next h}}}|load=>{obtain⟨v,f,_,_⟩:=d.load hx hk;rw[f.H]at h;exact next h}|eff=>{exact absurd hk (h3 p _ bi (by omega) hx)}}}}
theorem DRun.dst (d:DRun P self sz all L st)(hN:x3M P)(ah:∀t H n,x6W P t H n (self t H n)){p:Nat}{x:PI}{o:Oper}(hx:L[p]? =some x)(ho:all[x.i]? =some o):x.c.dst=o.dst/\∀t,o.dst=some t->t<sz:=by{obtain⟨o',cZ,_,hc⟩:=d.plan.item p x hx;rw[ho]at cZ;cases cZ;cases hk:x.kd with|free=>{obtain⟨v,H1,f,_,_⟩:=d.free hx hk;have h:=f.run;rw[hc]at h|-;exact(x2W hN ah h).2}|load=>{obtain⟨v,f,_,_⟩:=d.load hx hk;obtain⟨_,_,h⟩:=f.run;rw[hc]at h|-;exact(x2W hN ah h).2}|eff=>{obtain⟨v,f,_,_⟩:=d.eff hx hk;have h:=f.run;rw[hc]at h|-;exact(x2W hN ah h).2}}
theorem tget_put (T:Tm)(d:Option Tmp)(v:Value)(t:Nat):tget (put T d v) t=if d=some t then v else tget T t:=by{cases d with|none=>{simp[put]}|some e=>{simp only[put,x8N,Option.some.injEq];by_cases h:t=e;·{simp[h]};·{rw[if_neg h,if_neg (fun x=>h x.symm)]}}}
def Writes (L:List PI)(all:List Oper)(t:Tmp)(q:Nat)(y:PI):Prop:=L[q]? =some y/\∃o,all[y.i]? =some o/\o.dst=some t
theorem Writes.uniq (pl:Plan P sz all L){t:Tmp}{p q:Nat}{x y:PI}(h1:Writes L all t p x)(h2:Writes L all t q y):p=q/\x=y:=by{obtain⟨a1,o1,a2,a3⟩:=h1;obtain⟨b1,o2,b2,b3⟩:=h2;by_cases e:p=q;·{subst e;rw[a1]at b1;cases b1;exact⟨rfl,rfl⟩};·{exact absurd a3 (pl.dsts p q x y o1 o2 t a1 b1 a2 b2 e b3)}}
theorem DRun.tmp (d:DRun P self sz all L st)(hN:x3M P)(ah:∀t H n,x6W P t H n (self t H n))(t:Tmp):∀(p:Nat),p<=L.length->((∃q y,q<p/\Writes L all t q y/\tget (st p).T t=valR (y7D self y (st q)))\/((∀q y,q<p->¬Writes L all t q y)/\tget (st p).T t=tget (st 0).T t))|0,_=>.inr ⟨fun q y h=>by omega,rfl⟩|p+1,hp=>by{have hx:L[p]? =some L[p]:=List.getElem?_eq_getElem (by omega);obtain⟨o,ho,_,_⟩:=d.plan.item p _ hx;obtain⟨hd,_⟩:=d.dst hN ah hx ho;have hv:=d.val hx;rw[hv,tget_put,hd];by_cases e:o.dst=some t;·{rw[if_pos e];exact .inl ⟨p,_,by omega,⟨hx,o,ho,e⟩,rfl⟩};·{rw[if_neg e];rcases d.tmp hN ah t p (by omega)with⟨q,y,h1,h2,h3⟩|⟨h1,h2⟩;·{exact .inl ⟨q,y,by omega,h2,h3⟩};·{refine .inr ⟨fun q y hq hw=>?_,h2⟩;by_cases f7:q=p;·{subst f7;obtain⟨w1,o',w2,w3⟩:=hw;rw[hx]at w1;cases w1;rw[ho]at w2;cases w2;exact e w3};·{exact h1 q y (by omega) hw}}}}
end
end
variable [GT]
section
variable {P:Program} {self:Task->Hp->Nat->R}
theorem Ext.within {β γ δ:Bm}{G G' G'':Gp}{n n' m m':Nat}{w w' w'':World}(h1:Ext P β G n w γ G' n' w')(h2:Ext P γ G' m w' δ G'' m' w'')(hl:∀i,i<n\/n'<=i->i<m\/m'<=i)(hf:Fresh β n n'):Ext P β G n w δ G'' n' w'':=by{have e1:=h1.le hf;refine⟨fun i hi=>?_,h2.wr,Nat.le_trans h1.size h2.size,fun b hb ho=>?_,fun i o b g1 g2 g3=>?_,fun i g=>h2.keep i (h1.keep i g),fun i b g hb=>?_,h2.os.trans h1.os,h2.out.trans h1.out,h2.tape.trans h1.tape⟩;·{rw[h2.same i (hl i hi),h1.same i hi]};·{rw[h2.frame b (by have:=h1.size;omega) ?_,h1.frame b hb ho];intro i o c g1 g2 g3 g4;rcases h1.orig i o c g1 g2 g3 with h|⟨j,p,d,q1,q2,q3,q4⟩;·{omega};·{exact ho j p d q1 q2 q3 (q4.trans g4)}};·{rcases h2.orig i o b g1 g2 g3 with h|⟨j,p,c,q1,q2,q3,q4⟩;·{exact .inl (Nat.le_trans h1.size h)};·{rcases h1.orig j p c q1 q2 q3 with h|⟨k,r,d,r1,r2,r3,r4⟩;·{exact .inl (q4▸h)};·{exact .inr ⟨k,r,d,r1,r2,r3,r4.trans q4⟩}}};·{rw[h2.kept i b (h1.keep i g) (e1 i b hb),h1.kept i b g hb]}}
theorem y4Y:hget .leaf=fun _=>none:=rfl
theorem WR.lay {β:Bm}{G:Gp}{w:World}(h:WR P β G w){i:Nat}{o:AObj}(hi:G i=some o):β i≠none:=fun e=>by{obtain⟨b,q,h1,_⟩:=h.obj i o hi;rw[e]at h1;cases h1}
section
variable {sz:Nat} {all:List Oper} {L:List PI} {st:Nat->DS}
def TV (self:Task->Hp->Nat->R)(L:List PI)(all:List Oper)(st:Nat->DS)(S:Nat->Prop)(t:Tmp)(v:Value):Prop:=(∃q y,Writes L all t q y/\S y.i/\v=valR (y7D self y (st q)))\/((∀q y,Writes L all t q y->¬S y.i)/\v=tget (st 0).T t)
def v7Y (L:List PI)(st:Nat->DS)(q:Nat)(y:PI):Prop:=L[q]? =some y/\y.kd=.free/\(st (q+1)).n=(st q).n+1
structure Inv (P:Program) (sf:Task->Hp->Nat->R) (sz:Nat) (all:List Oper) (L:List PI) (st:Nat->DS) (β0:Bm) (w0:World) (ds:List Deferred) (S:Nat->Prop) (a:Act) (w:World) (β:Bm) (G:Gp) (c:Nat):Prop where
 clo:u7M all S
 cle:c<=L.length
 cut:IsCut L c
 effs:∀q y,L[q]? =some y->y.kd=.eff->(S y.i↔q<c)
 inG:∀i o,hget (st c).H i=some o->G i=some o
 outG:∀i o,G i=some o->hget (st c).H i=some o\/(hget (st c).H i=none/\∃q y,c<=q/\v7Y L st q y/\S y.i/\i=(st q).n)
 newG:∀q y,c<=q->v7Y L st q y->S y.i->G (st q).n=hget (st (q+1)).H (st q).n
 tmp:∀t v,TV sf L all st S t v->VR β v (a.tmps.getD t undef)
 size:a.tmps.size=sz
 dfr:a.defers=ds
 ext:Ext P β0 (hget (st 0).H) (st 0).n w0 β G (st L.length).n w
 fresh:∀q y,L[q]? =some y->¬S y.i->Fresh β (st q).n (st (q+1)).n
structure Hyp (P:Program) (sf:Task->Hp->Nat->R) (sz:Nat) (all:List Oper) (L:List PI) (st:Nat->DS) (β0:Bm):Prop where
 run:DRun P sf sz all L st
 names:x3M P
 sound:∀t H n,x6W P t H n (sf t H n)
 none0:∀i,(st 0).n<=i->i<(st L.length).n->hget (st 0).H i=none
 free0:Fresh β0 (st 0).n (st L.length).n
variable {β0:Bm} {w0:World} {ds:List Deferred}
theorem Hyp.le (h:Hyp P self sz all L st β0){p q:Nat}(Ai:p<=q)(hq:q<=L.length):(st p).n<=(st q).n:=(h.run.mono h.names h.sound Ai hq).1
theorem Hyp.none (h:Hyp P self sz all L st β0){p:Nat}(hp:p<=L.length){i:Nat}(h1:(st p).n<=i)(h2:i<(st L.length).n):hget (st p).H i=none:=by{have m:=h.run.mono h.names h.sound (Nat.zero_le p) hp;exact m.2 i (.inr h1) (h.none0 i (by have:=m.1;omega) h2)}
theorem x8G {p:Nat}{x:PI}(hx:L[p]? =some x):p<L.length:=(List.getElem?_eq_some_iff.1 hx).1
theorem Hyp.apart (h:Hyp P self sz all L st β0){p q:Nat}{x y:PI}(hx:L[p]? =some x)(hy:L[q]? =some y)(ae:q≠p){i:Nat}(h1:(st q).n<=i)(h2:i<(st (q+1)).n):i<(st p).n\/(st (p+1)).n<=i:=by{have:=x8G hx;have:=x8G hy;rcases Nat.lt_or_ge q p with hl|hl;·{have:=h.le (show q+1<=p from hl) (by omega);omega};·{have:=h.le (show p+1<=q by omega) (by omega);omega}}
section
variable {S:Nat->Prop} {a:Act} {w:World} {β:Bm} {G:Gp} {c:Nat}
theorem Inv.looked (v:Inv P self sz all L st β0 w0 ds S a w β G c)(h:Hyp P self sz all L st β0){p:Nat}{x:PI}{o:Oper}(hx:L[p]? =some x)(ho:all[x.i]? =some o)(hS:¬S x.i)(he:∀e∈o.after.toList,Region.binds .any e=true->S e.on) {t:Tmp} (ht:t∈looks all o):VR β (tget (st p).T t) (a.tmps.getD t undef):=by{refine v.tmp t _ ?_;have pl:=h.run.plan;have key:∀q y,Writes L all t q y->(q<p->S y.i)/\(S y.i->q<p):=fun q y hw=>by{obtain⟨b1,oy,b2,b3⟩:=hw;by_cases f7:q=p;·{subst f7;rw[hx]at b1;cases b1;exact⟨fun h=>by omega,fun h=>absurd h hS⟩};·{rcases pl.looked p q x y o oy t hx b1 ho b2 (fun e=>f7 e.symm) b3 ht with hd|hd;·{refine⟨fun _=>pl.hang p x o S hx ho v.clo he _ hd,fun _=>?_⟩;obtain⟨q',y',c1,c2,c3⟩:=pl.ahead p x _ hx hd;have:=pl.uniq q q' y y' b1 c2 c3.symm;omega};·{obtain⟨q',y',c1,c2,c3⟩:=pl.ahead q y _ b1 hd;have:=pl.uniq p q' x y' hx c2 c3.symm;refine⟨fun hl=>by omega,fun hs=>absurd (pl.hang q y oy S b1 b2 v.clo (v.clo _ _ b2 hs) _ hd) hS⟩}}};rcases h.run.tmp h.names h.sound t p (Nat.le_of_lt (x8G hx))with⟨q,y,a1,a2,a3⟩|⟨a1,a2⟩;·{exact .inl ⟨q,y,a2,(key q y a2).1 a1,a3⟩};·{exact .inr ⟨fun q y hw hs=>a1 q y ((key q y hw).2 hs) hw,a2⟩}}
theorem Inv.tmp' (v:Inv P self sz all L st β0 w0 ds S a w β G c)(h:Hyp P self sz all L st β0){p:Nat}{x:PI}{o:Oper}(hx:L[p]? =some x)(ho:all[x.i]? =some o){γ:Bm}{cv:Value}(hv:VR γ (valR (y7D self x (st p))) cv)(aK:∀i c,β i=some c->γ i=some c) (t:Tmp) (u:Value) (hu:TV self L all st (fun i=>S i\/i=x.i) t u):VR γ u ((a.put o.dst cv).tmps.getD t undef):=by{have pl:=h.run.plan;have du:=(h.run.dst h.names h.sound hx ho).2;have eq:(a.put o.dst cv).tmps.getD t undef=if o.dst=some t then cv else a.tmps.getD t undef:=by{cases hd:o.dst with|none=>{simp[Act.put]}|some d=>{simp only[Act.put,Option.some.injEq];rw[u5X _ _ _ _ (by rw[v.size];exact du d hd)];by_cases e:t=d;·{simp[e]};·{rw[if_neg e,if_neg (fun x=>e x.symm)]}}};rw[eq];by_cases e:o.dst=some t;·{rw[if_pos e];have hw:Writes L all t p x:=⟨hx,o,ho,e⟩;rcases hu with⟨q,y,h1,_,rfl⟩|⟨h1,_⟩;·{obtain⟨rfl,rfl⟩:=hw.uniq pl h1;exact hv};·{exact absurd (.inr rfl) (h1 p x hw)}};·{rw[if_neg e];refine(v.tmp t u ?_).mono aK;rcases hu with⟨q,y,h1,h2|h2,rfl⟩|⟨h1,rfl⟩;·{exact .inl ⟨q,y,h1,h2,rfl⟩};·{(obtain⟨b1,oy,b2,b3⟩:=h1;have:oy=o:=by rw[h2,ho]at b2;exact(Option.some.inj b2).symm);subst this;exact absurd b3 e};·{exact .inr ⟨fun q y hw hs=>h1 q y hw (.inl hs),rfl⟩}}}
theorem Inv.clo' (v:Inv P self sz all L st β0 w0 ds S a w β G c){x:PI}{o:Oper}(ho:all[x.i]? =some o)(he:∀e∈o.after.toList,Region.binds .any e=true->S e.on):u7M all (fun i=>S i\/i=x.i):=by{intro i o' cZ hi e hm hb;rcases hi with hi|rfl;·{exact .inl (v.clo i o' cZ hi e hm hb)};·{rw[ho]at cZ;cases cZ;exact .inl (he e hm hb)}}
theorem x9F (a:Act)(d:Option Tmp)(v:Value):(a.put d v).tmps.size=a.tmps.size/\(a.put d v).defers=a.defers:=by{cases d<;>simp[Act.put]}
theorem Inv.made (v:Inv P self sz all L st β0 w0 ds S a w β G c)(h:Hyp P self sz all L st β0){q:Nat}{y:PI}(hm:v7Y L st q y)(hq:q<c):S y.i:=by{rcases v.cut with rfl|⟨e,z,rfl,hz,hk⟩;·{omega};·{have ae:q≠e:=fun x=>by{subst x;obtain⟨m1,m2,_⟩:=hm;rw[hz]at m1;cases m1;rw[hk]at m2;cases m2};obtain⟨u,f,_,_⟩:=h.run.eff hz hk;have hA:=h.run.makers e (Nat.le_of_lt (x8G hz)) q y hm.1 hm.2.1 hm.2.2 (by omega);obtain⟨oz,qu,_,_⟩:=h.run.plan.item e z hz;have hSz:S z.i:=(v.effs e z hz hk).2 (by omega);exact h.run.plan.hang e z oz S hz qu v.clo (v.clo _ _ qu hSz) _ (z5P f.depA hA)}}
theorem Inv.free (v:Inv P self sz all L st β0 w0 ds S a w β G c)(h:Hyp P self sz all L st β0){p:Nat}{x:PI}{o:Oper}(hx:L[p]? =some x)(ho:all[x.i]? =some o)(hk:x.kd=.free)(hS:¬S x.i)(he:∀e∈o.after.toList,Region.binds .any e=true->S e.on)
    {ops:Array Oper} (aA:ops.toList=all) {ro:Option Nat} {Q:Exit->Act->World->Prop} {K:Act->World->Prop}
    (hK:∀a' w' β' G' c',Inv P self sz all L st β0 w0 ds (fun i=>S i\/i=x.i) a' w' β' G' c'->K a' w'):wpOpIn (fen ro) 0 P ops Q x.i K a w:=by
  obtain⟨u,H1,f,_,cI⟩:=h.run.free hx hk;obtain⟨o',cZ,_,hc⟩:=h.run.plan.item p x hx;rw[ho]at cZ;cases cZ;have bD:=f.run;rw[hc]at bD;obtain⟨⟨s1,s2⟩,_,_⟩:=x2W h.names h.sound bD;have dQ:=v.fresh p x hx hS;refine s2 β w a ro K Q ops x.i aA (by rw[<-Array.getElem?_toList,aA];exact ho) (fun t ht=>v.looked h hx ho hS he ht) (v.ext.wr.sub fun i o e=>by rw[y4Y]at e;cases e) dQ fun γ cv w' hv hE=>hK _ _ γ (fun i=>if(st p).n<=i/\i<(st (p+1)).n then hget H1 i else G i) c ?_
  have hp:=x8G hx;have lenle:(st (p+1)).n<=(st L.length).n:=h.le hp (Nat.le_refl _);have zle:(st 0).n<=(st p).n:=h.le (Nat.zero_le p) (Nat.le_of_lt hp);have aK:=hE.le dQ;have noG:∀i o,(st p).n<=i/\i<(st (p+1)).n->G i=some o->False:=fun i o hi hg=>v.ext.wr.lay hg (dQ i hi.1 hi.2);have outN:∀i,¬((st p).n<=i/\i<(st (p+1)).n)->hget H1 i=none:=fun i hi=>s1.2 i (by omega) (by rw[y4Y])
  have hb:=hE.beside dQ v.ext.wr (fun i o e=>by rw[y4Y]at e;cases e) (K':=fun i=>if(st p).n<=i/\i<(st (p+1)).n then hget H1 i else G i) (fun i o e=>by
    by_cases hi:(st p).n<=i/\i<(st (p+1)).n
    . simp only[if_pos hi]at e;exact .inl e
    . simp only[if_neg hi]at e;exact .inr ⟨outN i hi,by rw[y4Y],e⟩) (fun i e=>by
    by_cases hi:(st p).n<=i/\i<(st (p+1)).n
    . exact(noG i _ hi e).elim
    . simp only[if_neg hi];exact e)
  have fE:∀(i:Nat),(st p).n<=i/\i<(st (p+1)).n->hget H1 i=hget (st (p+1)).H i:=fun i hi=>by
    rcases f.heap with⟨h1,_⟩|⟨h1,o',h2,h3⟩
    . omega
    . have:i=(st p).n:=by omega
      subst this;rw[h3,x0E,if_pos rfl,h2]
  have lT:∀q y,L[q]? =some y->(S y.i\/y.i=x.i)->q≠p->S y.i:=fun q y hy hs ae=>by
    rcases hs with hs|hs
    . exact hs
    . exact absurd (h.run.plan.uniq q p y x hy hx hs) ae
  refine⟨v.clo' ho he,v.cle,v.cut,fun q y hy el=>?_,fun i o e=>?_,fun i o e=>?_,fun q y hq hm hs=>?_,v.tmp' h hx ho (by rw[cI];exact hv) aK,(x9F a _ _).1.trans v.size,(x9F a _ _).2.trans v.dfr,v.ext.within hb (fun i hi=>by omega) h.free0,fun q y hy iK=>?_⟩
  . rw[<-v.effs q y hy el];refine⟨fun hs=>lT q y hy hs fun e=>?_,.inl⟩;subst e;rw[hx]at hy;cases hy;rw[hk]at el;cases el
  . by_cases hi:(st p).n<=i/\i<(st (p+1)).n
    . exact(noG i o hi (v.inG i o e)).elim
    . simp only[if_neg hi];exact v.inG i o e
  . by_cases hi:(st p).n<=i/\i<(st (p+1)).n
    . refine .inr ⟨?_,p,x,?_,?_⟩
      . cases hg:hget (st c).H i with
        |none=>rfl
        |some o'=>exact(noG i o' hi (v.inG i o' hg)).elim
      . have hm:v7Y L st p x:=⟨hx,hk,by rcases f.heap with⟨h1,_⟩|⟨h1,_⟩<;>omega⟩
        rcases Nat.lt_or_ge p c with hl|hl
        . exact absurd (v.made h hm hl) hS
        . exact hl
      . rcases f.heap with⟨h1,_⟩|⟨h1,_⟩
        . omega
        . exact⟨⟨hx,hk,h1⟩,.inr rfl,by omega⟩
    . simp only[if_neg hi]at e;rcases v.outG i o e with h1|⟨h1,q,y,h2,h3,h4,h5⟩
      . exact .inl h1
      . exact .inr ⟨h1,q,y,h2,h3,.inl h4,h5⟩
  . by_cases f7:q=p
    . subst f7
      have:=hm.2.2
      rw[if_pos (by omega)]
      exact fE _ (by omega)
    . have:=h.apart hx hm.1 f7 (i:=(st q).n) (Nat.le_refl _) (by have:=hm.2.2;omega)
      rw[if_neg (by omega)]
      exact v.newG q y hq hm (lT q y hm.1 hs f7)
  . have f7:q≠p:=fun e=>iK (by subst e;rw[hx]at hy;cases hy;exact .inr rfl)
    intro i h1 h2;rw[hE.same i (h.apart hx hy f7 h1 h2)];exact v.fresh q y hy (fun hs=>iK (.inl hs)) i h1 h2
theorem Inv.load (v:Inv P self sz all L st β0 w0 ds S a w β G c)(h:Hyp P self sz all L st β0){p:Nat}{x:PI}{o:Oper}(hx:L[p]? =some x)(ho:all[x.i]? =some o)(hk:x.kd=.load)(hS:¬S x.i)(he:∀e∈o.after.toList,Region.binds .any e=true->S e.on) {ops:Array Oper} (aA:ops.toList=all) {ro:Option Nat} {Q:Exit->Act->World->Prop} {K:Act->World->Prop} (hK:∀a' w' β' G' c',Inv P self sz all L st β0 w0 ds (fun i=>S i\/i=x.i) a' w' β' G' c'->K a' w'):wpOpIn (fen ro) 0 P ops Q x.i K a w:=by{obtain⟨u,f,_,cI⟩:=h.run.load hx hk;obtain⟨o',cZ,bQ,hc⟩:=h.run.plan.item p x hx;rw[ho]at cZ;cases cZ;have hp:=x8G hx;have ahead:∀q y,L[q]? =some y->y.kd=.eff->q<p->q<c:=fun q y hy el hq=>by{have:=h.run.effs p (Nat.le_of_lt hp) q y hy el hq;exact(v.effs q y hy el).1 (h.run.plan.hang p x o S hx ho v.clo he _ (z5P f.dep this))};have now:∃m H1 n1,x3P self (st p).T (st c).H m x.c=.ok u H1 n1:=by{rcases Nat.lt_or_ge p c with hl|hl;·{rcases v.cut with rfl|⟨e,z,rfl,hz,qW⟩;·{omega};·{have ae:p≠e:=fun y=>by{subst y;rw[hz]at hx;cases hx;rw[qW]at hk;cases hk};obtain⟨uz,fz,_,_⟩:=h.run.eff hz qW;have hw:=h.run.loads e (Nat.le_of_lt (x8G hz)) p x hx hk (by omega);have hw:=z5C fz.wts hw;unfold wtOk at hw;obtain⟨oz,qu,_,_⟩:=h.run.plan.item e z hz;have hSz:S z.i:=(v.effs e z hz qW).2 (by omega);cases hb:tb z.D x.i with|true=>{exact absurd (h.run.plan.hang e z oz S hz qu v.clo (v.clo _ _ qu hSz) _ hb) hS}|false=>{simp only[hb,cond_false]at hw;split at hw;·{rename_i v' H' n' hs;refine⟨(st (e+1)).n,H',n',?_⟩;rw[hs,<-u3V hw,cI]};·{cases hw}}}};·{(have calm:Calm L c p:=fun q y h1 h2 hy el=>by have:=ahead q y hy el h2;omega);have:=h.run.behind v.cut p hl (Nat.le_of_lt hp) calm;obtain⟨H1,n1,hr⟩:=f.run;rw[this]at hr;exact⟨_,H1,n1,hr⟩}};obtain⟨m,H1,n1,bD⟩:=now;rw[hc]at bD;obtain⟨e1,e2⟩:=v4Y (by rw[<-bQ];exact hk) bD;(subst e1;subst e2;obtain⟨⟨s1,s2⟩,_,_⟩:=x2W h.names h.sound bD;have dQ:Fresh β n1 n1:=fun i a b=>by omega);refine s2 β w a ro K Q ops x.i aA (by rw[<-Array.getElem?_toList,aA];exact ho) (fun t ht=>v.looked h hx ho hS he ht) (v.ext.wr.sub v.inG) dQ fun γ cv w' hv hE=>hK _ _ γ G c ?_;have aK:=hE.le dQ;have hb:=hE.beside dQ v.ext.wr v.inG (K':=G) (fun i o e=>by{cases hg:hget (st c).H i with|some o'=>{have:=v.inG i o' hg;rw[e]at this;cases this;exact .inl rfl}|none=>{exact .inr ⟨rfl,rfl,e⟩}}) (fun i e=>e);have lT:∀(q:Nat) (y:PI),L[q]? =some y->(S y.i\/y.i=x.i)->y.kd≠ .load->S y.i:=fun q y hy hs ae=>by{rcases hs with hs|hs;·{exact hs};·{have:=h.run.plan.uniq q p y x hy hx hs;subst this;rw[hx]at hy;cases hy;exact absurd hk ae}};refine⟨v.clo' ho he,v.cle,v.cut,fun q y hy el=>?_,v.inG,fun i o e=>?_,fun q y hq hm hs=>?_,v.tmp' h hx ho (by rw[cI];exact hv) aK,(x9F a _ _).1.trans v.size,(x9F a _ _).2.trans v.dfr,v.ext.within hb (fun i hi=>by omega) h.free0,fun q y hy iK=>?_⟩;·{rw[<-v.effs q y hy el];exact⟨fun hs=>lT q y hy hs (by rw[el];simp),.inl⟩};·{rcases v.outG i o e with h1|⟨h1,q,y,h2,h3,h4,h5⟩;·{exact .inl h1};·{exact .inr ⟨h1,q,y,h2,h3,.inl h4,h5⟩}};·{exact v.newG q y hq hm (lT q y hm.1 hs (by rw[hm.2.1];simp))};·{intro i h1 h2;rw[hE.same i (by omega)];exact v.fresh q y hy (fun hs=>iK (.inl hs)) i h1 h2}}
theorem Inv.eff (v:Inv P self sz all L st β0 w0 ds S a w β G c)(h:Hyp P self sz all L st β0){p:Nat}{x:PI}{o:Oper}(hx:L[p]? =some x)(ho:all[x.i]? =some o)(hk:x.kd=.eff)(hS:¬S x.i)(he:∀e∈o.after.toList,Region.binds .any e=true->S e.on)
    {ops:Array Oper} (aA:ops.toList=all) {ro:Option Nat} {Q:Exit->Act->World->Prop} {K:Act->World->Prop}
    (hK:∀a' w' β' G' c',Inv P self sz all L st β0 w0 ds (fun i=>S i\/i=x.i) a' w' β' G' c'->K a' w'):wpOpIn (fen ro) 0 P ops Q x.i K a w:=by
  obtain⟨u,f,_,cI⟩:=h.run.eff hx hk;obtain⟨o',cZ,bQ,hc⟩:=h.run.plan.item p x hx;rw[ho]at cZ;cases cZ;have hp:=x8G hx;have bi:c<=p:=by
    rcases Nat.lt_or_ge p c with hl|hl
    . exact absurd ((v.effs p x hx hk).2 hl) hS
    . exact hl
  have ahead:∀q y,L[q]? =some y->y.kd=.eff->q<p->S y.i:=fun q y hy el hq=>
    h.run.plan.hang p x o S hx ho v.clo he _ (z5P f.dep (h.run.effs p (Nat.le_of_lt hp) q y hy el hq))
  have calm:Calm L c p:=fun q y h1 h2 hy el=>by have:=(v.effs q y hy el).1 (ahead q y hy el h2);omega
  have made:∀q y,v7Y L st q y->q<p->S y.i:=fun q y hm hq=>
    h.run.plan.hang p x o S hx ho v.clo he _ (z5P f.depA (h.run.makers p (Nat.le_of_lt hp) q y hm.1 hm.2.1 hm.2.2 hq))
  have subH:∀i o,hget (st p).H i=some o->G i=some o:=fun i o e=>by
    rcases h.run.grown p bi (Nat.le_of_lt hp) calm i o e with h1|⟨q,y,h1,h2,h3,h4,h5,rfl,h7⟩
    . exact v.inG i o h1
    . rw[v.newG q y h1 ⟨h3,h4,h5⟩ (made q y ⟨h3,h4,h5⟩ h2)];exact h7
  have grow:∀i o,hget (st c).H i=some o->hget (st p).H i=some o:=h.run.grow h.names h.sound h.none0 p bi (Nat.le_of_lt hp) calm;have bD:=f.run;rw[hc]at bD;obtain⟨⟨s1,s2⟩,_,_⟩:=x2W h.names h.sound bD;have dQ:=v.fresh p x hx hS;refine s2 β w a ro K Q ops x.i aA (by rw[<-Array.getElem?_toList,aA];exact ho) (fun t ht=>v.looked h hx ho hS he ht) (v.ext.wr.sub subH) dQ fun γ cv w' hv hE=>hK _ _ γ (fun i=>match hget (st (p+1)).H i with|some o=>some o|none=>match hget (st p).H i with|some _=>none|none=>G i) (p+1) ?_
  have lenle:(st (p+1)).n<=(st L.length).n:=h.le hp (Nat.le_refl _);have zle:(st 0).n<=(st p).n:=h.le (Nat.zero_le p) (Nat.le_of_lt hp);have aK:=hE.le dQ;have hb:=hE.beside dQ v.ext.wr subH (K':=fun i=>match hget (st (p+1)).H i with|some o=>some o|none=>match hget (st p).H i with|some _=>none|none=>G i) (fun i o e=>by
    cases h1:hget (st (p+1)).H i with
    |some o'=>simp only[h1]at e;exact .inl e
    |none=>
      cases h2:hget (st p).H i with
      |some o'=>simp only[h1,h2]at e;cases e
      |none=>simp only[h1,h2]at e;exact .inr ⟨rfl,rfl,e⟩) (fun i e=>by
    cases h2:hget (st p).H i with
    |some o'=>
      have:=subH i o' h2
      rw[e]at this;cases this;rw[hE.keep i h2]
    |none=>
      cases h1:hget (st (p+1)).H i with
      |none=>exact e
      |some o'=>
        by_cases hi:(st p).n<=i/\i<(st (p+1)).n
        . exact absurd (dQ i hi.1 hi.2) (v.ext.wr.lay e)
        . rw[s1.2 i (by omega) h2]at h1;cases h1)
  have lT:∀q y,L[q]? =some y->(S y.i\/y.i=x.i)->q≠p->S y.i:=fun q y hy hs ae=>by
    rcases hs with hs|hs
    . exact hs
    . exact absurd (h.run.plan.uniq q p y x hy hx hs) ae
  refine⟨v.clo' ho he,hp,.inr ⟨p,x,rfl,hx,hk⟩,fun q y hy el=>⟨fun hs=>?_,fun hq=>?_⟩,fun i o e=>?_,fun i o e=>?_,fun q y hq hm hs=>?_,v.tmp' h hx ho (by rw[cI];exact hv) aK,(x9F a _ _).1.trans v.size,(x9F a _ _).2.trans v.dfr,v.ext.within hb (fun i hi=>by omega) h.free0,fun q y hy iK=>?_⟩
  . by_cases e:q=p
    . omega
    . have:=(v.effs q y hy el).1 (lT q y hy hs e);omega
  . by_cases e:q=p
    . subst e;rw[hx]at hy;cases hy;exact .inr rfl
    . exact .inl (ahead q y hy el (by omega))
  . simp only[e]
  . cases h1:hget (st (p+1)).H i with
    |some o'=>simp only[h1]at e;exact .inl e
    |none=>
      cases h2:hget (st p).H i with
      |some o'=>simp only[h1,h2]at e;cases e
      |none=>
        simp only[h1,h2]at e;refine .inr ⟨rfl,?_⟩;rcases v.outG i o e with g1|⟨g1,q,y,g2,g3,g4,g5⟩
        . rw[grow i o g1]at h2;cases h2
        . refine⟨q,y,?_,g3,.inl g4,g5⟩;rcases Nat.lt_trichotomy q p with hl|hl|hl
          . have e':=v.newG q y g2 g3 g4;rw[<-g5,e]at e';have cq:Calm L (q+1) p:=fun r z r1 r2=>calm r z (by omega) r2
            have:=h.run.grow h.names h.sound h.none0 p (show q+1<=p from hl) (Nat.le_of_lt hp) cq i o e'.symm
            rw[h2]at this;cases this
          . subst hl;obtain⟨m1,m2,_⟩:=g3;rw[hx]at m1;cases m1;rw[hk]at m2;cases m2
          . omega
  . have mF:=x8G hm.1;have f7:q≠p:=by omega
    have l1:=h.le (show p+1<=q by omega) (Nat.le_of_lt mF)
    have l2:=h.le (show q+1<=L.length by omega) (Nat.le_refl _)
    have l3:=hm.2.2;have z1:hget (st (p+1)).H (st q).n=none:=h.none hp l1 (by omega)
    have z2:hget (st p).H (st q).n=none:=h.none (Nat.le_of_lt hp) (by have:=s1.1;omega) (by omega)
    simp only[z1,z2];exact v.newG q y (by omega) hm (lT q y hm.1 hs f7)
  . have f7:q≠p:=fun e=>iK (by subst e;rw[hx]at hy;cases hy;exact .inr rfl)
    intro i h1 h2;rw[hE.same i (h.apart hx hy f7 h1 h2)];exact v.fresh q y hy (fun hs=>iK (.inl hs)) i h1 h2
end
end
end
end Go.Xec
