/-
  THE PURE EXECUTOR: a region that draws its order is sound.
-/
import Derived.Test.YtadehgdfijjikaaGreatDoorY7
set_option linter.all false
namespace Go.Yec
open Go Go.Xec
variable [GT]
section
variable {D:Type} {V:D->List (PV D)} {μ:Mu} {H:Hp} {P:Program} {hk:Hook} {o:Oper} {T:Tm} {X:Nat->Prop} {n m:Nat} {st:Y D} {dn:Dn} {C:Ch} {B:Bt D} {R:Type} {all:List Oper} {sz:Nat} {tbl:Tbl D}
theorem z5H {M:Nat->Prop}{v:PV D}{x:Value}(h:Rep V μ H M v x)(hv:u3T v=true):veq0 x x=true:=by
  cases h <;> first | (cases hv;done) | skip
  . rename_i b;cases b <;> rfl
  . simp [veq0]
  . simp [veq0]
  . rfl
  . exact (by show cond (Nat.beq 0 0) (Nat.beq 0 0) false=true;rfl)
  . rfl
  . rfl
  . simp [veq0]
  . simp [veq0]
  . simp [veq0]
  . rfl
theorem z5F {M:Nat->Prop}:∀ {l:List (PV D)} {m:List Value}, RepL V μ H M l m->v1C l=true->veqL m m=true
  | [],_, .nil,_=>rfl
  | v::l,_, .cons _ x _ m h t,hv=>by
    have hv:cond (u3T v) (v1C l) false=true:=hv;obtain ⟨h1,h2⟩:=x0D hv;show cond (veq0 x x) (veqL m m) false=true;rw [z5H h h1,z5F t h2];rfl
theorem z5G (k:IntKind):∀ l:List Int,veqL (l.map (Value.int k)) (l.map (Value.int k))=true
  | []=>rfl
  | x::l=>by
    show cond (veq0 (.int k x) (.int k x)) (veqL (l.map (Value.int k)) (l.map (Value.int k))) false=true;rw [z5G k l];simp [veq0]
theorem veq_refl {M:Nat->Prop}{v:PV D}{x:Value}(h:Rep V μ H M v x)(hv:vrefl v=true):veq x x=true:=by
  cases v with
  | agg l=>cases h with | agg _ a h=>exact z5F h hv
  | aggI k l=>cases h with | aggI _ _ a ha=>show veqL a.toList a.toList=true;rw [ha];exact z5G k l
  | _ =>
    have h0:=z5H h hv;generalize x=z at h h0;cases h <;> first | exact h0 | (cases hv;done)
theorem v1E:veq undef undef=true:=rfl
theorem v1S {a b c:Nat}(h1:sub a b=true)(h2:sub b c=true):sub a c=true:=by
  have e1:a &&& b=a:=x0U h1;have e2:b &&& c=b:=x0U h2;have:a &&& c=a:=by
    calc a &&& c=(a &&& b) &&& c:=by rw [e1]
      _=a &&& (b &&& c):=Nat.and_assoc _ _ _
      _=a:=by rw [e2,e1]
  exact x0T this
theorem sub_refl (a:Nat):sub a a=true:=x0T (Nat.and_self a)
theorem sub_or {a b c:Nat}(h:sub a b=true):sub (Nat.lor a c) (Nat.lor b c)=true:=by
  have e:a &&& b=a:=x0U h;refine x0T ?_;show (a ||| c) &&& (b ||| c)=a ||| c
  apply Nat.eq_of_testBit_eq;intro i
  have:=congrArg (fun x=>x.testBit i) e
  simp only [Nat.testBit_and] at this;simp only [Nat.testBit_and,Nat.testBit_or];revert this;cases a.testBit i <;> cases b.testBit i <;> cases c.testBit i <;> simp
theorem sub_orr {a b c:Nat}(h:sub a b=true):sub a (Nat.lor b c)=true:=by
  have e:a &&& b=a:=x0U h;refine x0T ?_;show a &&& (b ||| c)=a
  apply Nat.eq_of_testBit_eq;intro i
  have:=congrArg (fun x=>x.testBit i) e
  simp only [Nat.testBit_and] at this;simp only [Nat.testBit_and,Nat.testBit_or];revert this;cases a.testBit i <;> cases b.testBit i <;> cases c.testBit i <;> simp
def EP (μ:Mu)(B:Bt D)(H:Hp)(src:Option Nat)(x:Wt):Prop :=
  veq x.v x.v=true/\(∀ i,src=some i->∃ s b,bget B i=some (s,b))/\∀ (self:Task->Hp->Nat->Xec.R) H2 n2,(∀ i y len,src=some i->μ i=some (some y,len)->hget H2 y=hget H y)->x3P self x.T H2 n2 x.c = .ok x.v H2 n2
inductive WsR (μ:Mu) (B:Bt D) (H:Hp):Ws->List Wt->Prop
  | nil:WsR μ B H [] []
  | cons (i:Nat) (src:Option Nat) (old:Bool) (x:Wt) (W:Ws) (L:List Wt) (hi:x.i=i) (h:old=false->EP μ B H src x) (t:WsR μ B H W L):WsR μ B H ((i,src,old)::W) (x::L)
theorem WsR.keep {μ':Mu}{B':Bt D}{H':Hp}(bN:∀ i s b,bget B i=some (s,b)->μ' i=μ i)(hl:∀ i s b,bget B i=some (s,b)->∃ s' b',bget B' i=some (s',b'))(hH:∀ i s b x len,bget B i=some (s,b)->μ i=some (some x,len)->hget H' x=hget H x):∀ {W:Ws} {L:List Wt}, WsR μ B H W L->WsR μ' B' H' W L
  | _,_, .nil=> .nil
  | _, _, .cons i src old x W L hi h t => .cons i src old x W L hi (fun ho => by
      obtain ⟨h1,h2,h3⟩:=h ho;refine ⟨h1,fun j hj=>?_,fun self H2 n2 hs=>h3 self H2 n2 fun j y len hj hy=>?_⟩
      . obtain ⟨s,b,hb⟩:=h2 j hj;exact hl j s b hb
      . obtain ⟨s,b,hb⟩:=h2 j hj;rw [hs j y len hj (by rw [bN j s b hb];exact hy),hH j s b y len hb hy]) (t.keep bN hl hH)
theorem y0C (tc:List Nat)(x:Nat×Option Nat×Bool)(W:Ws):x6X tc (x::W)=(x.1,x.2.1,cond x.2.2 true (y0E x.2.1 tc))::x6X tc W:=rfl
theorem u7N (Dm:Nat)(tc:List Nat)(x:Nat×Option Nat×Bool)(W:Ws):y1X Dm tc (x::W)=cond (cond (tb Dm x.1) true (!(cond x.2.2 true (y0E x.2.1 tc)))) (y1X Dm tc W) false:=rfl
theorem WsR.turn {μ':Mu}{B':Bt D}{H':Hp}{tc:List Nat}(bN:∀ i s b,bget B i=some (s,b)->μ' i=μ i)(hl:∀ i s b,bget B i=some (s,b)->inN i tc=false->∃ s' b',bget B' i=some (s',b'))(hH:∀ i s b x len,bget B i=some (s,b)->inN i tc=false->μ i=some (some x,len)->hget H' x=hget H x):∀ {W:Ws} {L:List Wt}, WsR μ B H W L->WsR μ' B' H' (x6X tc W) L
  | _,_, .nil=> .nil
  | _,_, .cons i src old x W L hi h t=>by
    rw [y0C];refine .cons i src _ x _ L hi (fun ho=>?_) (t.turn bN hl hH);have eZ:old=false:=by cases old <;> first | rfl | (cases ho)
    subst eZ;have ho:y0E src tc=false:=ho;obtain ⟨h1,h2,h3⟩:=h rfl;have nt:∀ j,src=some j->inN j tc=false:=fun j hj=>by subst hj;exact ho
    refine ⟨h1,fun j hj=>?_,fun self H2 n2 hs=>h3 self H2 n2 fun j y len hj hy=>?_⟩
    . obtain ⟨s,b,hb⟩:=h2 j hj;exact hl j s b hb (nt j hj)
    . obtain ⟨s,b,hb⟩:=h2 j hj;rw [hs j y len hj (by rw [bN j s b hb];exact hy),hH j s b y len hb (nt j hj) hy]
theorem wts_ok {self:Task->Hp->Nat->Xec.R}{H':Hp}{n':Nat}{Dm:Nat}{tc:List Nat}(hH:∀ i s b x len,bget B i=some (s,b)->inN i tc=false->μ i=some (some x,len)->hget H' x=hget H x):∀ {W:Ws} {L:List Wt}, WsR μ B H W L->y1X Dm tc W=true->y9M self Dm H' n' L=true
  | _,_, .nil,_=>rfl
  | _,_, .cons i src old x W L hi h t,hc=>by
    rw [u7N] at hc;obtain ⟨h1,h2⟩:=x0D hc;show cond (wtOk self Dm H' n' x) (y9M self Dm H' n' L) false=true;rw [wts_ok hH t h2];have:wtOk self Dm H' n' x=true:=by
      unfold wtOk;rw [hi];cases hb:tb Dm i with
      | true=>rfl
      | false =>
        rw [cond_false];have h1:cond (tb Dm i) true (!(cond old true (y0E src tc)))=true:=h1;rw [hb,cond_false] at h1;have eZ:old=false:=by cases old <;> first | rfl | (cases h1)
        subst eZ;have ho:y0E src tc=false:=by simpa using h1
        obtain ⟨e1,e2,e3⟩:=h rfl
        have:=e3 self H' n' fun j y len hj hy=>by
          obtain ⟨s,b,hb⟩:=e2 j hj;exact hH j s b y len hb (by subst hj;exact ho) hy
        rw [this];exact e1
    rw [this];rfl
structure DR (P:Program) (V:D->List (PV D)) (X:Nat->Prop) (μ:Mu) (st:Y D) (W:Ws) (mk:Nat) (dn:Dn) (E A:Nat) (s:DS):Prop where
  sr:SR V X μ st s.T s.H s.n
  reg:RegI st.T dn
  K:∀ i x len,i<mk->μ i=some (some x,len)->hget s.K x=hget s.H x
  mkle:mk <= st.m
  E:s.E=E
  A:sub s.A A=true
  W:WsR μ st.B s.H W s.W
inductive MadeD (P:Program) (sz:Nat) (all:List Oper):List PI->List YD->Prop
  | nil:MadeD P sz all [] []
  | cons (x:PI) (o:Oper) (C:Ch) (y:YOp) (L:List PI) (l:List YD) (h1:x1Z P o.op=some y) (h2:y9V sz o.dst=true) (h3:y4A all o C) (h4:x.c=Xec.compI P sz all o) (h5:x.kd=kdOf P o.op) (t:MadeD P sz all L l):MadeD P sz all (x::L) (⟨x.i,x.D,dkOf x.kd,⟨C,o.dst,y⟩⟩::l)
theorem val_any (hp:Pre P V X all o C dn sz μ st T H n){y:YOp}{v:PV D}(h:gOf st.T C=true->∃ w,Rep V μ H (MX X μ st.B) v w/\∀ (self:Task->Hp->Nat->Xec.R) H2 n2,(∀ i x len,(none:Option Nat)=some i->μ i=some (some x,len)->hget H2 x=hget H x)->y4B self T H2 n2 (x6B P o) = .ok w H2 n2) :
    ∃ xv,(∀ (self:Task->Hp->Nat->Xec.R) H2 n2,x3P self T H2 n2 (Xec.compI P sz all o) = .ok xv H2 n2)/\SR V X μ (setD st ⟨C,o.dst,y⟩ v) (put T o.dst xv) H n/\RegI (setD st ⟨C,o.dst,y⟩ v).T (x7Y o.dst C dn)/\(∀ t,o.dst≠some t->pget (setD st ⟨C,o.dst,y⟩ v).T t=pget st.T t)/\(Xec.compI P sz all o).dst=o.dst:=by
  have hg:=x4B (P:=P) hp.sr hp.reg hp.fit hp.ok hp.gd hp.dst;have cP:RegI (pput st.T o.dst (dstV st.T C v)) (x7Y o.dst C dn):=hp.reg.set hp.fit hp.new (fun C' g w e=>z3T e) (fun ac=>z3U ac);cases hC:gOf st.T C with
  | true =>
    obtain ⟨w,h1,h2⟩:=h hC;exact ⟨w,fun self H2 n2=>(by rw [(hg self).1 hC];exact h2 self H2 n2 fun _ _ _ e=>by cases e),hp.sr.put o.dst (x8W (fun _=>h1) fun e=>by rw [hC] at e;cases e),cP,fun t ht=>x1B _ _ _ _ ht,(hg fun _ _ _=> .bad).2.2⟩
  | false =>
    exact ⟨undef,fun self H2 n2=>(by rw [(hg self).2.1 hC]),hp.sr.put o.dst (x8W (fun e=>by rw [hC] at e;cases e) fun _=>rfl),cP,fun t ht=>x1B _ _ _ _ ht,(hg fun _ _ _=> .bad).2.2⟩
theorem ld_any (hp:Pre P V X all o C dn sz μ st T H n){y:YOp}(hc:x1Z P o.op=some y)(hn:x8V y=false){src:Option Nat}{v:PV D}(h:opR st.B (opd st.T C) y = .ld src v)(hv:vrefl v=true) :
    ∃ xv,(∀ (self:Task->Hp->Nat->Xec.R) H2 n2,(∀ i x len,src=some i->μ i=some (some x,len)->hget H2 x=hget H x)->x3P self T H2 n2 (Xec.compI P sz all o) = .ok xv H2 n2)/\veq xv xv=true/\SR V X μ (setD st ⟨C,o.dst,y⟩ v) (put T o.dst xv) H n/\RegI (setD st ⟨C,o.dst,y⟩ v).T (x7Y o.dst C dn)/\(∀ t,o.dst≠some t->pget (setD st ⟨C,o.dst,y⟩ v).T t=pget st.T t)/\(Xec.compI P sz all o).dst=o.dst:=by
  have hg:=x4B (P:=P) hp.sr hp.reg hp.fit hp.ok hp.gd hp.dst;have cP:RegI (pput st.T o.dst (dstV st.T C v)) (x7Y o.dst C dn):=hp.reg.set hp.fit hp.new (fun C' g w e=>z3T e) (fun ac=>z3U ac);cases hC:gOf st.T C with
  | true =>
    obtain ⟨w,h1,h2⟩:=ld_got (x2T hp.sr hp.reg hC) hp.sr.hr hc h;exact ⟨w,fun self H2 n2 hs=>(by rw [(hg self).1 hC,x6K hc hn];exact h2 H2 n2 hs),veq_refl h1 hv,hp.sr.put o.dst (x8W (fun _=>h1) fun e=>by rw [hC] at e;cases e),cP,fun t ht=>x1B _ _ _ _ ht,(hg fun _ _ _=> .bad).2.2⟩
  | false =>
    exact ⟨undef,fun self H2 n2 _=>(by rw [(hg self).2.1 hC]),v1E,hp.sr.put o.dst (x8W (fun e=>by rw [hC] at e;cases e) fun _=>rfl),cP,fun t ht=>x1B _ _ _ _ ht,(hg fun _ _ _=> .bad).2.2⟩
noncomputable def eaE (x:YD)(E:Nat):Nat:=match x.kd with
  | .eff=>Nat.lor E (bit x.i)
  | _=>E
noncomputable def eaA (x:YD)(A:Nat):Nat:=match x.kd with
  | .free=>cond (isMk x.o.op) (Nat.lor A (bit x.i)) A
  | _=>A
theorem x9E {B B':Bt D}{i:Nat}:∀ {tc:List Nat}, inN i (x6P B B' tc)=false->inN i tc=false\/∃ s b b',bget B i=some (s,b)/\bget B' i=some (s,b')
  | [],_=> .inl rfl
  | j::tc,h=>by
    have h:inN i (cond (kpt B B' j) (x6P B B' tc) (j::x6P B B' tc))=false:=h;show cond (Nat.beq j i) true (inN i tc)=false\/_;cases hj:Nat.beq j i with
    | false =>
      cases hk:kpt B B' j with
      | true=>rw [hk] at h;exact x9E h
      | false =>
        rw [hk] at h;have h:cond (Nat.beq j i) true (inN i (x6P B B' tc))=false:=h;rw [hj] at h;exact x9E h
    | true =>
      have e:=Nat.eq_of_beq_eq_true hj;subst e;right;cases hk:kpt B B' j with
      | false =>
        rw [hk] at h;have h:cond (Nat.beq j j) true (inN j (x6P B B' tc))=false:=h;rw [hj] at h;cases h
      | true =>
        unfold kpt at hk;cases h1:bget B j with
        | none=>rw [h1] at hk;cases hk
        | some p =>
          cases h2:bget B' j with
          | none=>rw [h1,h2] at hk;cases hk
          | some q =>
            rw [h1,h2] at hk;obtain ⟨a,b⟩:=p;obtain ⟨c,d⟩:=q;have e:=Nat.eq_of_beq_eq_true hk;simp only at e;subst e;exact ⟨_,_,_,rfl,rfl⟩
theorem v3G (x:YD)(l:List YD)(E A:Nat):okEA (x::l) E A=(match x.kd with
  | .free=>okEA l E (cond (isMk x.o.op) (Nat.lor A (bit x.i)) A)
  | .load=>cond (sub E x.D) (okEA l E A) false
  | .eff=>cond (cond (sub E x.D) (sub A x.D) false) (okEA l (Nat.lor E (bit x.i)) A) false):=rfl
theorem v3F {x:YD}{l:List YD}{E A:Nat}(h:okEA (x::l) E A=true):(x.kd ≠ .free->sub E x.D=true)/\(x.kd = .eff->sub A x.D=true)/\okEA l (eaE x E) (eaA x A)=true:=by
  rw [v3G] at h;unfold eaE eaA;split at h
  . rename_i hk;rw [hk];exact ⟨fun e=>absurd rfl e,fun e=>(by cases e),h⟩
  . rename_i hk;rw [hk];obtain ⟨h1,h2⟩:=x0D h;exact ⟨fun _=>h1,fun e=>(by cases e),h2⟩
  . rename_i hk;rw [hk];obtain ⟨h1,h2⟩:=x0D h;obtain ⟨h3,h4⟩:=x0D h1;exact ⟨fun _=>h3,fun _=>h4,h2⟩
def z4Z (P:Program)(hk:Hook)(V:D->List (PV D))(X:Nat->Prop)(x:PI)(dst:Option Tmp)(dn':Dn)(E' A':Nat)(μ:Mu)(st:Y D)(s:DS)(st':Y D)(W':Ws)(mk':Nat):Prop :=
  ∃ μ' s',(∃ k0, ∀ k,k0 <= k->x2U (run P hk k) x s=some s')/\DR P V X μ' st' W' mk' dn' E' A' s'/\Gr μ st.B st.m s.H s.n μ' st'.B st'.m s'.H s'.n/\∀ t,dst≠some t->pget st'.T t=pget st.T t
variable {s:DS} {W:Ws} {mk E A:Nat} {x:PI}
theorem d_free (hd:DR P V X μ st W mk dn E A s)(hx:x.kd = .free)(hc:x.c=Xec.compI P sz all o){st':Y D}{xv:Value}(h1:∀ (self:Task->Hp->Nat->Xec.R) H2 n2,x3P self s.T H2 n2 (Xec.compI P sz all o) = .ok xv H2 n2)(cH:(Xec.compI P sz all o).dst=o.dst)(hB:st'.B=st.B)(hm:st'.m=st.m)
    (h2:SR V X μ st' (put s.T o.dst xv) s.H s.n) {dn':Dn} (h3:RegI st'.T dn') (h4:∀ t,o.dst≠some t->pget st'.T t=pget st.T t) {A':Nat} (hA:sub s.A A'=true):z4Z P hk V X x o.dst dn' E A' μ st s st' W mk:=by
  refine ⟨μ, { s with T:=put s.T o.dst xv }, ⟨0,fun k _=>?_⟩,⟨h2,h3,hd.K,by rw [hm];exact hd.mkle,hd.E,hA,by rw [hB];exact hd.W⟩,by rw [hB,hm];exact Gr.refl _ _ _ _ _,h4⟩
  unfold x2U;rw [hx,hc];show y1M x s (x3P (run P hk k) s.T .leaf s.n (Xec.compI P sz all o))=_;rw [h1];show Option.map (fun H''=>({ T:=put s.T x.c.dst xv,H:=H'',n:=s.n,K:=s.K,E:=s.E,A:=cond (Nat.beq s.n s.n) s.A (Nat.lor s.A (bit x.i)),W:=s.W }:DS)) (cond (Nat.beq s.n s.n) (some s.H) (cond (Nat.beq s.n s.n.succ) ((hget .leaf s.n).map fun o=>hset s.H s.n o) none))=_;rw [Nat.beq_refl,cond_true,cond_true,hc,cH];rfl
theorem d_load (hd:DR P V X μ st W mk dn E A s)(hx:x.kd = .load)(hc:x.c=Xec.compI P sz all o){y:YOp}{src:Option Nat}{xv:Value}{v:PV D}(h1:∀ (self:Task->Hp->Nat->Xec.R) H2 n2,(∀ i y len,src=some i->μ i=some (some y,len)->hget H2 y=hget s.H y)->x3P self s.T H2 n2 (Xec.compI P sz all o) = .ok xv H2 n2)(hv:veq xv xv=true)(qE:∀ i,src=some i->i<mk)(aA:∀ i,src=some i->∃ s0 b,bget st.B i=some (s0,b))(br:sub E x.D=true)
    (cH:(Xec.compI P sz all o).dst=o.dst) (h2:SR V X μ (setD st ⟨C,o.dst,y⟩ v) (put s.T o.dst xv) s.H s.n) {dn':Dn} (h3:RegI (setD st ⟨C,o.dst,y⟩ v).T dn') (h4:∀ t,o.dst≠some t->pget (setD st ⟨C,o.dst,y⟩ v).T t=pget st.T t):z4Z P hk V X x o.dst dn' E A μ st s (setD st ⟨C,o.dst,y⟩ v) ((x.i,src,false)::W) mk:=by
  refine ⟨μ, { s with T:=put s.T o.dst xv,W:=⟨x.i,x.c,s.T,xv⟩::s.W }, ⟨0,fun k _=>?_⟩,⟨h2,h3,hd.K,hd.mkle,hd.E,hd.A, .cons x.i src false _ W _ rfl (fun _=>⟨hv,aA,fun self H2 n2 hs=>by rw [hc];exact h1 self H2 n2 hs⟩) hd.W⟩,Gr.refl _ _ _ _ _,h4⟩
  unfold x2U;rw [hx];show y5C x s (x3P (run P hk k) s.T s.K s.n x.c)=_;rw [hc,h1 (run P hk k) s.K s.n fun i y len hi hy=>hd.K i y len (qE i hi) hy];unfold y5C;show cond (sub s.E x.D) _ none=_;rw [hd.E,br,cond_true,hc,cH]
theorem d_eff (hd:DR P V X μ st W mk dn E A s)(hx:x.kd = .eff)(hc:x.c=Xec.compI P sz all o){tc:List Nat}{xv:Value}{H':Hp}{n':Nat}{μ':Mu}{st':Y D}(h1:∃ k0, ∀ k,k0 <= k->x3P (run P hk k) s.T s.H s.n (Xec.compI P sz all o) = .ok xv H' n')(cH:(Xec.compI P sz all o).dst=o.dst)(aK:sub E x.D=true)(aW:sub A x.D=true)(hW:y1X x.D tc W=true)
    (h2:SR V X μ' st' (put s.T o.dst xv) H' n') (gr:Gr μ st.B st.m s.H s.n μ' st'.B st'.m H' n') {dn':Dn} (h3:RegI st'.T dn') (h4:∀ t,o.dst≠some t->pget st'.T t=pget st.T t)
    (hH:∀ i s0 b x len,bget st.B i=some (s0,b)->inN i tc=false->μ i=some (some x,len)->hget H' x=hget s.H x) (hl:∀ i s0 b,bget st.B i=some (s0,b)->inN i tc=false->∃ s' b',bget st'.B i=some (s',b')):z4Z P hk V X x o.dst dn' (Nat.lor E (bit x.i)) A μ st s st' (x6X tc W) st'.m:=by
  obtain ⟨k0,h1⟩:=h1;refine ⟨μ', { s with T:=put s.T o.dst xv,H:=H',n:=n',K:=H',E:=Nat.lor s.E (bit x.i) }, ⟨k0,fun k bG=>?_⟩,⟨h2,h3,fun _ _ _ _ _=>rfl,Nat.le_refl _,by rw [hd.E],hd.A, ?_⟩,gr,h4⟩
  . unfold x2U;rw [hx];show z3X (run P hk k) x s (x3P (run P hk k) s.T s.H s.n x.c)=_;rw [hc,h1 k bG];unfold z3X;show cond (cond (sub s.E x.D) (cond (sub s.A x.D) (y9M (run P hk k) x.D H' n' s.W) false) false) _ none=_;rw [hd.E,aK,v1S hd.A aW,wts_ok hH hd.W hW,hc,cH];rfl
  . exact hd.W.turn (fun i s0 b hb=>gr.mu i (hd.sr.hr.ids hb)) hl hH
theorem ld_live {ρ:Yd->PV D}{y:YOp}{i:Nat}{v:PV D}(h:opR B ρ y = .ld (some i) v):∃ s b,bget B i=some (s,b):=by
  cases hp:y3D y with
  | true=>have:=z0P (B:=B) (ρ := ρ) y hp;rw [h] at this;cases this
  | false =>
    cases y <;> first | (cases hp;done) | skip
    . rename_i x;have h:(match ρ x with
        | .lsl i=>match bget B i with
          | some (_, .rowI _ k l)=>cond (ikeq k .u8) (.ld (some i) (.str (x1R l))) .bad
          | _=> .bad
        | _=>(.bad:OpR D))=OpR.ld (some i) v:=h
      split at h
      . split at h
        . rename_i hb;cases hk:ikeq _ .u8 <;> rw [hk] at h <;> cases h
          exact ⟨_,_,hb⟩
        . cases h
      . cases h
    . rename_i e x;have h:x2E (ρ x) (fun s=>OpR.mk (.rowI e .u8 (x0S s)) (fun i=> .lsl i)) = .ld (some i) v:=h;unfold x2E at h;split at h <;> cases h
    . rename_i x;have h:(match ρ x with
        | .lsl i=>match bget B i with
          | some (_, .rowI _ _ (_::_))=> .ld (some i) (.lsl i)
          | _=> .bad
        | _=>(.bad:OpR D))=OpR.ld (some i) v:=h
      split at h
      . split at h
        . rename_i hb;cases h;exact ⟨_,_,hb⟩
        . cases h
      . cases h
    . rename_i e x;have h:cond (y4D (ρ x)) (OpR.mk (z8X e (ρ x)) (fun i=> .lptr i 0)) .bad = .ld (some i) v:=h;cases hb:y4D (ρ x) <;> rw [hb] at h <;> cases h
    . cases h
    . cases h
    . rename_i k agg x;have h:ldR B k agg (ρ x) = .ld (some i) v:=h;unfold ldR at h;split at h
      . split at h
        . rename_i hb;obtain ⟨u,_,h2⟩:=x0Y (z:=(OpR.bad:OpR D)) h (by simp)
          cases h2;exact ⟨_,_,hb⟩
        . cases h
      . split at h
        . rename_i hb;cases agg
          . cases h;exact ⟨_,_,hb⟩
          . cases h
        . cases h
      . split at h
        . rename_i hb;cases agg
          . rw [cond_false] at h;generalize Nat.beq _ _=c at h;cases c
            . cases h
            . cases h;exact ⟨_,_,hb⟩
          . cases h
        . cases h
      . cases h
    . rename_i k x w;have h:stR B k (ρ w) (ρ x) = .ld (some i) v:=h;rcases y2A (B:=B) k (ρ w) (ρ x) with ⟨_,_,h3⟩ | h3 <;> rw [h3] at h <;> cases h
    . rename_i e k len ps;have h:Option.casesOn (motive:=fun _=>OpR D) (bslL k (ps.map fun p=>(p.1, ρ p.2)) (repI len)) .bad (fun l=> .mk (.rowI e k l) (fun i=> .lsl i)) = .ld (some i) v:=h;cases hb:bslL k (ps.map fun p=>(p.1, ρ p.2)) (repI len) <;> rw [hb] at h <;> cases h
    . rename_i e a b;have h:appR B e (ρ a) (ρ b) = .ld (some i) v:=h;rcases x9V (B:=B) e (ρ a) (ρ b) with ⟨_,_,_,h6⟩ | h6 <;> rw [h6] at h <;> cases h
theorem mk_isMk {ρ:Yd->PV D}{y:YOp}{b:Blk D}{f:Nat->PV D}(h:opR B ρ y = .mk b f):isMk y=true:=by
  cases hp:y3D y with
  | true=>have:=z0P (B:=B) (ρ := ρ) y hp;rw [h] at this;cases this
  | false =>
    cases y <;> first | (cases hp;done) | rfl | skip
    . rename_i x;have h:(match ρ x with
        | .lsl i=>match bget B i with
          | some (_, .rowI _ k l)=>cond (ikeq k .u8) (.ld (some i) (.str (x1R l))) .bad
          | _=> .bad
        | _=>(.bad:OpR D))=OpR.mk b f:=h
      split at h
      . split at h
        . cases hk:ikeq _ .u8 <;> rw [hk] at h <;> cases h
        . cases h
      . cases h
    . rename_i x;have h:(match ρ x with
        | .lsl i=>match bget B i with
          | some (_, .rowI _ _ (_::_))=> .ld (some i) (.lsl i)
          | _=> .bad
        | _=>(.bad:OpR D))=OpR.mk b f:=h
      split at h
      . split at h <;> cases h
      . cases h
    . rename_i k agg x;rcases y6Z (B:=B) k agg (ρ x) with ⟨_,_,h4⟩ | h4
      . have h:ldR B k agg (ρ x) = .mk b f:=h;rw [h4] at h;cases h
      . have h:ldR B k agg (ρ x) = .mk b f:=h;rw [h4] at h;cases h
    . rename_i k x w;have h:stR B k (ρ w) (ρ x) = .mk b f:=h;rcases y2A (B:=B) k (ρ w) (ρ x) with ⟨_,_,h3⟩ | h3 <;> rw [h3] at h <;> cases h
    . rename_i e a c;have h:appR B e (ρ a) (ρ c) = .mk b f:=h;rcases x9V (B:=B) e (ρ a) (ρ c) with ⟨_,_,_,h6⟩ | h6 <;> rw [h6] at h <;> cases h
theorem d_mk (hd:DR P V X μ st W mk dn E A s)(hx:x.kd = .free)(hc:x.c=Xec.compI P sz all o)(hp:Pre P V X all o [] dn sz μ st s.T s.H s.n){y:YOp}(hy:x1Z P o.op=some y)(hn:x8V y=false){b:Blk D}{f:Nat->PV D}(h:opR st.B (opd st.T []) y = .mk b f) :
    z4Z P hk V X x o.dst (x7Y o.dst [] dn) E (Nat.lor A (bit x.i)) μ st s (newB st ⟨[],o.dst,y⟩ b f) W mk:=by
  obtain ⟨xl,e,len,w,h1,h2⟩:=mk_got (x2T hp.sr hp.reg rfl) hy h;have hf:=hp.sr.hr.fresh_blk (oi:=none) (H':=hset s.H s.n (.cells xl e)) (len:=len) (b:=b) (fun y hy _=>by rw [x0E,if_neg hy]) (fun i hi=>by cases hi)
    (fun μ' H2 M' kp hm hg=>(h2 μ' H2 M' st.m s.n kp hm (by rw [hg,x0E,if_pos rfl])).1)
  have hm:updM μ st.m s.n len st.m=some (some s.n,len):=if_pos rfl;have bN:∀ i,i≠st.m->updM μ st.m s.n len i=μ i:=fun i h=>if_neg h;have aj:=(h2 _ _ _ st.m s.n (hf.1.keep hp.sr.hr) hm (by rw [x0E,if_pos rfl])).2
  have hg:=x4B (P:=P) hp.sr hp.reg hp.fit hp.ok hp.gd hp.dst;have eZ:∀ i s0 c,bget st.B i=some (s0,c)->bget (bset (z3V st.B none) st.m (some (st.m,b))) i=some (s0,c):=fun i s0 c hb=>by
    have:=hp.sr.hr.ids hb
    rw [x1A,if_neg (by omega)];exact hb
  refine ⟨_, { s with T:=put s.T o.dst (w s.n),H:=hset s.H s.n (.cells xl e),n:=s.n+1,A:=Nat.lor s.A (bit x.i) }, ⟨0,fun k _=>?_⟩,⟨hp.sr.mk_put hf.1 hf.2 o.dst aj.noOpt, ?_,fun i y l hi hy=>?_,by have:=hd.mkle;show mk <= st.m+1;omega,hd.E,sub_or hd.A, ?_⟩,hf.1,fun t ht=>x1B _ _ _ _ ht⟩
  . unfold x2U;rw [hx,hc];show y1M x s (x3P (run P hk k) s.T .leaf s.n (Xec.compI P sz all o))=_;rw [(hg _).1 rfl,x6K hy hn];show y1M x s ((x0N P o).f s.T .leaf s.n)=_;rw [h1];show Option.map (fun H''=>({ T:=put s.T x.c.dst (w s.n),H:=H'',n:=s.n+1,K:=s.K,E:=s.E,A:=cond (Nat.beq (s.n+1) s.n) s.A (Nat.lor s.A (bit x.i)),W:=s.W }:DS)) (cond (Nat.beq (s.n+1) s.n) (some s.H) (cond (Nat.beq (s.n+1) s.n.succ) ((hget (hset .leaf s.n (.cells xl e)) s.n).map fun o=>hset s.H s.n o) none))=_;rw [x0J (show s.n+1≠s.n by omega),cond_false,cond_false,x0T (show s.n+1=s.n.succ from rfl),cond_true,x0E,if_pos rfl,hc,(hg fun _ _ _=> .bad).2.2]
    rfl
  . exact hp.reg.set hp.fit hp.new (fun C' g v e=>absurd e (x7B _ _ _ _)) (fun ac=>absurd rfl ac)
  . have ai:i≠st.m:=by have:=hd.mkle;omega
    rw [bN i ai] at hy;have tv:=hp.sr.hr.lt i y l hy;show hget s.K y=hget (hset s.H s.n (.cells xl e)) y;rw [x0E,if_neg (by omega)]
    exact hd.K i y l hi hy
  . refine hd.W.keep (fun i s0 c hb=>bN i (by have:=hp.sr.hr.ids hb;omega)) (fun i s0 c hb=>⟨s0,c,eZ i s0 c hb⟩) fun i s0 c y l hb hy=>?_
    have tv:=hp.sr.hr.lt i y l hy;show hget (hset s.H s.n (.cells xl e)) y=_;rw [x0E,if_neg (by omega)]
theorem drawO_ok (hT:y1V P hk V tbl){C:Ch}{y:YOp}(h1:x1Z P o.op=some y)(h2:y9V sz o.dst=true)(h3:y4A all o C)(h4:x.c=Xec.compI P sz all o)(h5:x.kd=kdOf P o.op)(hd:DR P V X μ st W mk dn E A s)(bT:y3X dn C=true)(fb:∀ t,o.dst=some t->dIn t dn=false)
    (e1:dkOf x.kd ≠ .free->sub E x.D=true) (e2:dkOf x.kd = .eff->sub A x.D=true) {K:Y D->Ws->Nat->Option R} {r:R} (h:drawO tbl ⟨x.i,x.D,dkOf x.kd,⟨C,o.dst,y⟩⟩ st W mk K=some r) :
    ∃ st' W' mk',z4Z P hk V X x o.dst (x7Y o.dst C dn) (eaE ⟨x.i,x.D,dkOf x.kd,⟨C,o.dst,y⟩⟩ E) (eaA ⟨x.i,x.D,dkOf x.kd,⟨C,o.dst,y⟩⟩ A) μ st s st' W' mk'/\K st' W' mk'=some r:=by
  unfold drawO at h;obtain ⟨aC,h⟩:=x0B h;have hp:Pre P V X all o C dn sz μ st s.T s.H s.n:=⟨hd.sr,hd.reg,bT,aC,h3,h2,fb⟩;have kk:∀ {d:DK}, dkOf x.kd=d->(d = .free->x.kd = .free)/\(d = .load->x.kd = .load)/\(d = .eff->x.kd = .eff):=fun {d} e=>by
    subst e;cases x.kd <;> exact ⟨fun e=>by cases e <;> rfl,fun e=>by cases e <;> rfl,fun e=>by cases e <;> rfl⟩
  have free:∀ {y:YOp} {v:PV D}, x1Z P o.op=some y->x8V y=false->(gOf st.T C=true->ValR P o s.T V μ s.H (MX X μ st.B) v)->dkOf x.kd = .free->K (setD st ⟨C, o.dst, y⟩ v) W mk=some r ->
      ∃ st' W' mk',z4Z P hk V X x o.dst (x7Y o.dst C dn) (eaE ⟨x.i,x.D,dkOf x.kd,⟨C,o.dst,y⟩⟩ E) (eaA ⟨x.i,x.D,dkOf x.kd,⟨C,o.dst,y⟩⟩ A) μ st s st' W' mk'/\K st' W' mk'=some r:=fun {y v} hc hn hv bC h=>by
    obtain ⟨xv,q1,q2,q3,q4,q5⟩:=val_any (y:=y) hp (v:=v) fun hg=>by
      obtain ⟨w,w1,w2⟩:=hv hg;exact ⟨w,w1,fun self H2 n2 _=>by rw [x6K hc hn];exact w2 H2 n2⟩
    refine ⟨_,W,mk, ?_,h⟩;have hE:eaE ⟨x.i,x.D,dkOf x.kd,⟨C,o.dst,y⟩⟩ E=E:=by unfold eaE;rw [bC]
    rw [hE];refine d_free (st':=setD st ⟨C,o.dst,y⟩ v) hd ((kk bC).1 rfl) h4 q1 q5 rfl rfl q2 q3 q4 ?_;unfold eaA;rw [bC];show sub s.A (cond (isMk y) (Nat.lor A (bit x.i)) A)=true;cases isMk y
    . exact hd.A
    . exact sub_orr hd.A
  have eff:∀ {y:YOp} {tc:List Nat} {xv:Value} {H':Hp} {n':Nat} {μ':Mu} {st':Y D}, (∃ k0, ∀ k, k0 <= k->x3P (run P hk k) s.T s.H s.n (Xec.compI P sz all o) = .ok xv H' n')->dkOf x.kd = .eff->y1X x.D tc W=true->SR V X μ' st' (put s.T o.dst xv) H' n'->Gr μ st.B st.m s.H s.n μ' st'.B st'.m H' n'->RegI st'.T (x7Y o.dst C dn)->(∀ t, o.dst≠some t->pget st'.T t=pget st.T t) ->
      (∀ i s0 b x len,bget st.B i=some (s0,b)->inN i tc=false->μ i=some (some x,len)->hget H' x=hget s.H x)->(∀ i s0 b,bget st.B i=some (s0,b)->inN i tc=false->∃ s' b',bget st'.B i=some (s',b'))->K st' (x6X tc W) st'.m=some r ->
      ∃ st' W' mk',z4Z P hk V X x o.dst (x7Y o.dst C dn) (eaE ⟨x.i,x.D,dkOf x.kd,⟨C,o.dst,y⟩⟩ E) (eaA ⟨x.i,x.D,dkOf x.kd,⟨C,o.dst,y⟩⟩ A) μ st s st' W' mk'/\K st' W' mk'=some r:=fun {y tc xv H' n' μ' st'} q1 bC hW q2 q3 q4 q5 q6 q7 h=>by
    refine ⟨st',x6X tc W,st'.m, ?_,h⟩;have hE:eaE ⟨x.i,x.D,dkOf x.kd,⟨C,o.dst,y⟩⟩ E=Nat.lor E (bit x.i):=by unfold eaE;rw [bC]
    have hA:eaA ⟨x.i,x.D,dkOf x.kd,⟨C,o.dst,y⟩⟩ A=A:=by unfold eaA;rw [bC]
    rw [hE,hA];have hg:=x4B (P:=P) hp.sr hp.reg hp.fit hp.ok hp.gd hp.dst;exact d_eff (st':=st') hd ((kk bC).2.2 rfl) h4 q1 (hg fun _ _ _=> .bad).2.2 (e1 (by rw [bC];simp)) (e2 bC) hW q2 q3 q4 q5 q6 q7
  have op:∀ {y:YOp}, x1Z P o.op=some y->x8V y=false->x4Y st W mk ⟨x.i, x.D, dkOf x.kd, ⟨C, o.dst, y⟩⟩ K (opR st.B (opd st.T C) y)=some r ->
      ∃ st' W' mk',z4Z P hk V X x o.dst (x7Y o.dst C dn) (eaE ⟨x.i,x.D,dkOf x.kd,⟨C,o.dst,y⟩⟩ E) (eaA ⟨x.i,x.D,dkOf x.kd,⟨C,o.dst,y⟩⟩ A) μ st s st' W' mk'/\K st' W' mk'=some r:=fun {y} hc hn h=>by
    cases hr:opR st.B (opd st.T C) y with
    | bad=>rw [hr] at h;cases h
    | val v =>
      rw [hr] at h;unfold x4Y at h;simp only at h;split at h
      . rename_i bC;exact free hc hn (fun hg=>z2B (x2T hd.sr hd.reg hg) hd.sr.hr hc (.inl hr)) bC h
      . cases h
    | par b v =>
      rw [hr] at h;unfold x4Y at h;simp only at h;split at h
      . rename_i bC;obtain ⟨q1,q2⟩:=x0B h;exact free hc hn (fun hg=>z2B (x2T hd.sr hd.reg hg) hd.sr.hr hc (.inr (by rw [hr,z0Y q1 hg]))) bC q2
      . cases h
    | ld src v =>
      rw [hr] at h;unfold x4Y at h;simp only at h;split at h
      . rename_i bC;obtain ⟨q1,q2⟩:=x0B h;obtain ⟨q3,q4⟩:=x0D q1;obtain ⟨xv,w1,w2,w3,w4,w5,w6⟩:=ld_any hp hc hn hr q3;refine ⟨_,_,mk, ?_,q2⟩;have hE:eaE ⟨x.i,x.D,dkOf x.kd,⟨C,o.dst,y⟩⟩ E=E:=by unfold eaE;rw [bC]
        have hA:eaA ⟨x.i,x.D,dkOf x.kd,⟨C,o.dst,y⟩⟩ A=A:=by unfold eaA;rw [bC]
        rw [hE,hA];refine d_load hd ((kk bC).2.1 rfl) h4 w1 w2 (fun i hi=>?_) (fun i hi=>?_) (e1 (by rw [bC];simp)) w6 w3 w4 w5
        . subst hi;exact x1H q4
        . subst hi;exact ld_live hr
      . cases h
      . cases h
    | mk b f =>
      rw [hr] at h;unfold x4Y at h;simp only at h;split at h
      . rename_i bC;obtain ⟨rfl,q2⟩:=x6H h;have hE:eaE ⟨x.i,x.D,dkOf x.kd,⟨[],o.dst,y⟩⟩ E=E:=by unfold eaE;rw [bC]
        have hA:eaA ⟨x.i,x.D,dkOf x.kd,⟨[],o.dst,y⟩⟩ A=Nat.lor A (bit x.i):=by
          unfold eaA;rw [bC];show cond (isMk y) _ _=_;rw [mk_isMk hr];rfl
        exact ⟨_,W,mk,by rw [hE,hA];exact d_mk hd ((kk bC).1 rfl) h4 hp hc hn hr,q2⟩
      . cases h
    | wr i b =>
      rw [hr] at h;unfold x4Y at h;simp only at h;split at h
      . rename_i bC;obtain ⟨q1,q2⟩:=x0B h;obtain ⟨rfl,q3⟩:=x6H q2;obtain ⟨x',len,xl,e,s0,b0,w1,w2,w3,w4⟩:=wr_got (x2T hp.sr hp.reg rfl) hp.sr.hr hc hr;have hf:=hp.sr.hr.write_blk (H':=hset s.H x' (.cells xl e)) (b:=b) w2 w1 (fun y hy=>by rw [x0E,if_neg hy]) (fun M' kp=>w4 μ _ M' kp (by rw [x0E,if_pos rfl]))
        have hg:=x4B (P:=P) hp.sr hp.reg hp.fit hp.ok hp.gd hp.dst;refine eff (tc:=[i]) (st':=wrB st ⟨[],o.dst,y⟩ i b) ⟨0,fun k _=>by rw [(hg _).1 rfl,x6K hc hn];exact w3⟩ bC q1 (hp.sr.mk_put hf.1 hf.2 o.dst (.undef _)) hf.1 (hp.reg.set hp.fit hp.new (fun C' g v e=>by cases e) (fun ac=>absurd rfl ac)) (fun t ht=>x1B _ _ _ _ ht) (fun j sj bj y' l hj kX iS=>?_) (fun j sj bj hj kX=>?_) q3
        . have lB:j≠i:=fun e=>by subst e;simp [inN] at kX
          rw [x0E,if_neg fun e=>by subst e;exact lB (hp.sr.hr.inj j i sj s0 bj b0 _ l len hj w2 iS w1)]
        . have lB:j≠i:=fun e=>by subst e;simp [inN] at kX
          exact ⟨sj,bj,by show bget (bset st.B i (some (st.m,b))) j=_;rw [x1A,if_neg lB];exact hj⟩
      . cases h
    | ap ck i b =>
      rw [hr] at h;unfold x4Y at h;simp only at h;split at h
      . rename_i bC;obtain ⟨q1,q2⟩:=x0B h;obtain ⟨rfl,q3⟩:=x6H q2;obtain ⟨q4,q5⟩:=x0B q3;obtain ⟨xl,e,len,c,H',w1,w2,w3,w4,w5,w6⟩:=ap_got (x2T hp.sr hp.reg rfl) hp.sr.hr hc hr q4;have hf:=hp.sr.hr.fresh_blk (oi:=i) (H':=H') (len:=len) (b:=b) w4 w5 (fun μ' H2 M' kp hm hg=>w6 μ' H2 M' (by rw [hg];exact w3))
        have hm:updM μ st.m s.n len st.m=some (some s.n,len):=if_pos rfl;have he:apB st ⟨[],o.dst,y⟩ i b=⟨pput st.T o.dst (.lsl st.m),bset (z3V st.B i) st.m (some (st.m,b)),st.m+1⟩:=by cases i <;> rfl
        have hg:=x4B (P:=P) hp.sr hp.reg hp.fit hp.ok hp.gd hp.dst;have nJ:∀ j,inN j i.toList=false->i≠some j:=fun j hj e=>by subst e;simp [inN] at hj
        rw [he] at q5;refine eff (tc:=i.toList) (st':=⟨pput st.T o.dst (.lsl st.m),bset (z3V st.B i) st.m (some (st.m,b)),st.m+1⟩) ⟨0,fun k _=>by rw [(hg _).1 rfl,x6K hc hn];exact w1⟩ bC q1 (hp.sr.mk_put hf.1 hf.2 o.dst (.lsl st.m s.n len c hm w2)) hf.1 (hp.reg.set hp.fit hp.new (fun C' g v e=>by cases e) (fun ac=>absurd rfl ac)) (fun t ht=>x1B _ _ _ _ ht) (fun j sj bj y' l hj kX iS=>?_) (fun j sj bj hj kX=>?_) q5
        . have tv:=hp.sr.hr.lt j y' l iS;refine w4 y' (by omega) fun k z l' hk hz e=>?_
          subst e;obtain ⟨sk,bk,bI⟩:=w5 k hk
          have:=hp.sr.hr.inj j k sj sk bj bk _ l l' hj bI iS hz
          subst this;exact nJ j kX hk
        . have pV:=hp.sr.hr.ids hj;refine ⟨sj,bj, ?_⟩;rw [x1A,if_neg (by omega)]
          cases i with
          | none=>exact hj
          | some i0 =>
            show bget (bset st.B i0 none) j=_;rw [x1A,if_neg fun e=>nJ j kX (by rw [e])]
            exact hj
      . cases h
  cases y with
  | call f ys =>
    have h:u6M st W ⟨x.i,x.D,dkOf x.kd,⟨C,o.dst, .call f ys⟩⟩ K (tbl f (ys.map (opd st.T C)) st.B st.m)=some r:=h;obtain ⟨args,ts,ho,hy,hK⟩:=z1R h1;have bC:dkOf x.kd = .eff:=by rw [h5,ho];rfl
    have aq:=hT f (ys.map (opd st.T C)) st.B st.m;have hg:=x4B (P:=P) hp.sr hp.reg hp.fit hp.ok hp.gd hp.dst;have cP:∀ v,RegI (pput st.T o.dst (dstV st.T C v)) (x7Y o.dst C dn):=fun v=>hp.reg.set hp.fit hp.new (fun C' g w e=>z3T e) (fun ac=>z3U ac);have pure:∀ {v:PV D}, (gOf st.T C=true->FunS P hk V f (ys.map (opd st.T C)) st.B st.m [] v st.B st.m)->y1X x.D [] W=true->K (setD st ⟨C, o.dst, .call f ys⟩ v) W st.m=some r ->
        ∃ st' W' mk',z4Z P hk V X x o.dst (x7Y o.dst C dn) (eaE ⟨x.i,x.D,dkOf x.kd,⟨C,o.dst, .call f ys⟩⟩ E) (eaA ⟨x.i,x.D,dkOf x.kd,⟨C,o.dst, .call f ys⟩⟩ A) μ st s st' W' mk'/\K st' W' mk'=some r:=fun {v} hF hW h=>by
      have wt:∀ W:Ws,x6X [] W=W:=fun W=>by
        induction W with
        | nil=>rfl
        | cons x W ih =>
          rw [y0C,ih];obtain ⟨a,b,c⟩:=x;cases b <;> cases c <;> rfl
      have h:K (setD st ⟨C,o.dst, .call f ys⟩ v) (x6X [] W) (setD st ⟨C,o.dst, .call f ys⟩ v).m=some r:=by rw [wt];exact h
      cases hC:gOf st.T C with
      | true =>
        obtain ⟨w,H',n', μ',⟨k0,w1⟩,w2,w3,w4,w5⟩:=u5Z hp hy hK (hF hC) hC;exact eff (tc:=[]) (st':=setD st ⟨C,o.dst, .call f ys⟩ v) ⟨k0,fun k bG=>by rw [(hg _).1 hC];exact w1 k bG⟩ bC hW (hp.sr.mk_put w2 w3 o.dst (x8W (fun _=>w4) fun e=>by rw [hC] at e;cases e)) w2 (cP v) (fun t ht=>x1B _ _ _ _ ht) w5 (fun i s0 b hb _=>⟨s0,b,hb⟩) h
      | false =>
        exact eff (tc:=[]) (st':=setD st ⟨C,o.dst, .call f ys⟩ v) ⟨0,fun k _=>by rw [(hg _).2.1 hC]⟩ bC hW (hp.sr.put o.dst (x8W (fun e=>by rw [hC] at e;cases e) fun _=>rfl)) (Gr.refl _ _ _ _ _) (cP v) (fun t ht=>x1B _ _ _ _ ht) (fun _ _ _ _ _ _ _ _=>rfl) (fun i s0 b hb _=>⟨s0,b,hb⟩) h
    cases hr:tbl f (ys.map (opd st.T C)) st.B st.m with
    | bad=>rw [hr] at h;cases h
    | tot v =>
      rw [hr] at h aq;obtain ⟨q1,q2⟩:=x0B h;exact pure (fun _=>aq) q1 q2
    | par b v =>
      rw [hr] at h aq;obtain ⟨q1,q2⟩:=x0B h;obtain ⟨q3,q4⟩:=x0B q2;exact pure (fun hg=>aq (z0Y q3 hg)) q1 q4
    | opt X' y' d out =>
      rw [hr] at h aq;obtain ⟨q1,q2⟩:=x0B h;obtain ⟨a,q3,q4⟩:=x0A q2;exact pure (fun hg=>aq a (v2X q3 hg)) q1 q4
    | inl tc d rn =>
      rw [hr] at h aq;have wt:∀ W:Ws,x6X [] W=W:=fun W=>by
        induction W with
        | nil=>rfl
        | cons x W ih =>
          rw [y0C,ih];obtain ⟨a,b,c⟩:=x;cases b <;> cases c <;> rfl
      rcases z2G hp.reg (fun _=>rfl) hp.ok h with ⟨T',e,hC,h⟩ | ⟨T',e,hC,h⟩
      . have cw:=y5L (x2T hp.sr hp.reg hC) hy;obtain ⟨v,B',m',xv,H',n', μ',⟨k0,q1⟩,q2,q3,q4,q5,q6,q7⟩:=aq R _ r h X μ s.H s.n _ hp.sr.hr cw;obtain ⟨hW,q7⟩:=x0B q7;have hh:∀ i s0 b y len,bget st.B i=some (s0,b)->inN i (x6P st.B B' tc)=false->μ i=some (some y,len)->hget H' y=hget s.H y:=fun i s0 b y len hb hn hm=>by
          rcases x9E hn with hn | ⟨s1,b1,b2,h2,h3⟩
          . exact q5 i s0 b y len hb hn hm
          . rw [h2] at hb;cases hb;exact q3.kept i _ b2 y len (hp.sr.hr.lm i _ hm) h3 (hp.sr.hr.blk i _ _ h2).1 hm
        have hl:∀ i s0 b,bget st.B i=some (s0,b)->inN i (x6P st.B B' tc)=false->∃ s' b',bget B' i=some (s',b'):=fun i s0 b hb hn=>by
          rcases x9E hn with hn | ⟨s1,b1,b2,h2,h3⟩
          . exact ⟨s0,b,q6 i s0 b hb hn⟩
          . exact ⟨s1,b2,h3⟩
        refine eff (tc:=x6P st.B B' tc) (st':=⟨pput T' o.dst (dst1 C v),B',m'⟩) ⟨k0,fun k bG=>?_⟩ bC hW ((hp.teq e).sr.mk_put q3 q2 o.dst (u6G q4)) q3 ?_ (fun t ht=>?_) hh hl q7
        . rw [(hg _).1 hC,hK];show y3K (run P hk k (.call f ([]++args.toList.map (ev s.T)++[])) s.H s.n)=_;rw [List.nil_append,List.append_nil,q1 k bG];rfl
        . exact (hp.teq e).reg.set hp.fit hp.new (fun C' g w h1=>by obtain ⟨a,b,c⟩:=u6H h1;exact ⟨a,by rw [b];exact (by rw [y7N e];exact hC.symm),c⟩) (fun ac=>u6J ac)
        . show pget (pput T' o.dst _) t=_;rw [x1B _ _ _ _ ht,e t]
      . obtain ⟨mc,h⟩:=x0B h;have h:K ⟨pput T' o.dst (dst0 C d),st.B,st.m⟩ (x6X [] W) st.m=some r:=by rw [wt];exact h
        refine eff (tc:=[]) (st':=⟨pput T' o.dst (dst0 C d),st.B,st.m⟩) ⟨0,fun k _=>by rw [(hg _).2.1 hC]⟩ bC mc ((hp.teq e).sr.put o.dst (.opt0 C _)) (Gr.refl _ _ _ _ _) ?_ (fun t ht=>?_) (fun _ _ _ _ _ _ _ _=>rfl) (fun i s0 b hb _=>⟨s0,b,hb⟩) h
        . exact (hp.teq e).reg.set hp.fit hp.new (fun C' g w h1=>by cases h1;exact ⟨rfl,by rw [y7N e];exact hC.symm,fun e0=>by subst e0;cases hC⟩) (fun ac=>⟨_,_,rfl⟩)
        . show pget (pput T' o.dst _) t=_;rw [x1B _ _ _ _ ht,e t]
  | pick c a b =>
    have h:x4Y st W mk ⟨x.i,x.D,dkOf x.kd,⟨C,o.dst, .pick c a b⟩⟩ K (y1C st C c a b)=some r:=h;have hv:∃ v q,y1C st C c a b = .val v\/y1C st C c a b = .par q v\/y1C st C c a b = .bad:=by
      unfold y1C;split
      . unfold selP;split
        . exact ⟨_,true, .inl rfl⟩
        . cases ikeq _ _
          . exact ⟨.undef,true, .inr (.inr rfl)⟩
          . exact ⟨_,true, .inl rfl⟩
        . exact ⟨_,true, .inl rfl⟩
        . exact ⟨_,_, .inr (.inl rfl)⟩
        . exact ⟨_,_, .inr (.inl rfl)⟩
        . exact ⟨.undef,true, .inr (.inr rfl)⟩
      . exact ⟨.undef,true, .inr (.inr rfl)⟩
    obtain ⟨v,q,hv | hv | hv⟩:=hv
    . rw [hv] at h;unfold x4Y at h;simp only at h;split at h
      . rename_i bC;exact free h1 rfl (fun hg=>y4P hp h1 (.inl hv) hg) bC h
      . cases h
    . rw [hv] at h;unfold x4Y at h;simp only at h;split at h
      . rename_i bC;obtain ⟨h2,h3⟩:=x0B h;exact free h1 rfl (fun hg=>y4P hp h1 (.inr (by rw [hv,z0Y h2 hg])) hg) bC h3
      . cases h
    . rw [hv] at h;cases h
  | callv x ys =>
    have h:(none:Option R)=some r:=h;cases h
  | _=>exact op h1 rfl h
end
end Go.Yec
