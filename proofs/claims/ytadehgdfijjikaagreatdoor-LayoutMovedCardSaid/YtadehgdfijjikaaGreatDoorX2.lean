/-
  THE EXECUTOR: what the model's memory does, step by step, as the executor's heap has it: a new block, a write, a row read.;THE EXECUTOR: each operation that it carries out, the model carries out alike.;THE EXECUTOR: the other operations: struct and slice literals, make, append, slices, arithmetic, conversions, builtins.
-/
import Derived.Test.YtadehgdfijjikaaGreatDoorX1
import Derived.Laws.CopyRow
import Derived.Orders
import Derived.IntWalk
set_option linter.all false
namespace Go.Xec
variable [GT]
open Go
theorem y1Y (n:Nat)(x:Value)(l:List Value):z5N (n+1) (x::l)=Option.casesOn (motive:=fun _=>Option (List Value)) (z5N n l) none (fun r=>some (x::r)):=rfl
theorem z6K (v x:Value)(vs l:List Value):over (v::vs) (x::l)=Option.casesOn (motive:=fun _=>Option (List Value)) (over vs l) none (fun r=>some (v::r)):=rfl
theorem x9G (x:Value)(l vs:List Value)(k:Nat):x7N (x::l) (k+1) vs=Option.casesOn (motive:=fun _=>Option (List Value)) (x7N l k vs) none (fun r=>some (x::r)):=rfl
theorem z2E:∀ (n:Nat) (l r:List Value),z5N n l=some r->r=l.take n/\n <= l.length
  | 0,l,r,h=>by cases h;simp
  | n+1,[],r,h=>by cases h
  | n+1,x::l,r,h=>by
    have h':=(y1Y n x l).symm.trans h;cases e:z5N n l with
    | none=>rw [e] at h';cases h'
    | some q =>
      rw [e] at h';cases h';obtain ⟨h1,h2⟩:=z2E n l q e;subst h1
      simp;omega
theorem v6W:∀ (l:List Value) (k n:Nat) (r:List Value),cut l k n=some r->r=(l.drop k).take n/\k+n <= l.length
  | [], 0,n,r,h=>by simpa using z2E n [] r h
  | [],k+1,n,r,h=>by cases h
  | x::l, 0,n,r,h=>by simpa using z2E n (x::l) r h
  | x::l,k+1,n,r,h=>by
    obtain ⟨h1,h2⟩:=v6W l k n r h;refine ⟨by simpa using h1,by simp;omega⟩
theorem u0J:∀ (vs l r:List Value),over vs l=some r->r=vs++l.drop vs.length/\vs.length <= l.length
  | [],l,r,h=>by cases h;simp
  | v::vs,[],r,h=>by cases h
  | v::vs,x::l,r,h=>by
    have h':=(z6K v x vs l).symm.trans h;cases e:over vs l with
    | none=>rw [e] at h';cases h'
    | some q =>
      rw [e] at h';cases h';obtain ⟨h1,h2⟩:=u0J vs l q e;subst h1
      simp;omega
theorem u4H:∀ (l:List Value) (k:Nat) (vs r:List Value),x7N l k vs=some r->r=l.take k++vs++l.drop (k+vs.length)/\k+vs.length <= l.length
  | [], 0,vs,r,h=>by simpa using u0J vs [] r h
  | [],k+1,vs,r,h=>by cases h
  | x::l, 0,vs,r,h=>by simpa using u0J vs (x::l) r h
  | x::l,k+1,vs,r,h=>by
    have h':=(x9G x l vs k).symm.trans h;cases e:x7N l k vs with
    | none=>rw [e] at h';cases h'
    | some q =>
      rw [e] at h';cases h';obtain ⟨h1,h2⟩:=u4H l k vs q e;subst h1;refine ⟨?_,by simp;omega⟩
      rw [show k+1+vs.length=(k+vs.length)+1 from by omega]
      simp
theorem AllR.take {R:Value->Value->Prop}:∀ (k:Nat) {l m:List Value}, AllR R l m->AllR R (l.take k) (m.take k)
  | 0,_,_,_=>by simpa using .nil
  | _+1,_,_, .nil=> .nil
  | k+1,_,_, .cons a b=> .cons a (b.take k)
theorem AllR.drop {R:Value->Value->Prop}:∀ (k:Nat) {l m:List Value}, AllR R l m->AllR R (l.drop k) (m.drop k)
  | 0,_,_,h=>h
  | _+1,_,_, .nil=> .nil
  | k+1,_,_, .cons _ b=>b.drop k
theorem y9E {β:Bm}:∀ {l m:List Value}, all1 l=true->VL β l m->∀ v∈m,v.oneCell'=true
  | _,_,_, .nil=>by simp
  | v::l,w::m,h, .cons a b=>by
    have h':cond (v7L v) (all1 l) false=true:=h;cases hv:v7L v with
    | false=>rw [hv] at h';cases h'
    | true =>
      rw [hv] at h';intro x hx;rcases List.mem_cons.1 hx with rfl | hx
      . cases a <;> first | rfl | cases hv
      . exact y9E h' b x hx
theorem x3A {b:Bool}{x:OR}{v:Value}{H:Hp}{n:Nat}(h:chk b x = .ok v H n):b=true/\x = .ok v H n:=by
  cases b
  . cases h
  . exact ⟨rfl,h⟩
theorem x1M {α:Type}{o:Option α}{f:α->OR}{v:Value}{H:Hp}{n:Nat}(h:onO o f = .ok v H n):∃ a,o=some a/\f a = .ok v H n:=by
  cases o with
  | none=>cases h
  | some a=>exact ⟨a,rfl,h⟩
theorem x4M {x:Value}{f:Addr->OR}{v:Value}{H:Hp}{n:Nat}(h:x6R x f = .ok v H n):∃ a,x = .pointer (some a)/\f a = .ok v H n:=by
  unfold x6R at h;split at h
  . exact ⟨_,rfl,h⟩
  . cases h
theorem onAgg_ok {x:Value}{f:List Value->OR}{v:Value}{H:Hp}{n:Nat}(h:onAgg x f = .ok v H n):∃ a,x = .agg a/\f a.toList = .ok v H n:=by
  unfold onAgg at h;split at h
  . exact ⟨_,rfl,h⟩
  . cases h
theorem onTup_ok {x:Value}{f:List Value->OR}{v:Value}{H:Hp}{n:Nat}(h:v3B x f = .ok v H n):∃ a,x = .tuple a/\f a.toList = .ok v H n:=by
  unfold v3B at h;split at h
  . exact ⟨_,rfl,h⟩
  . cases h
theorem v3D {x:Value}{f:Bool->OR}{v:Value}{H:Hp}{n:Nat}(h:z6N x f = .ok v H n):∃ a,x = .bool a/\f a = .ok v H n:=by
  unfold z6N at h;split at h
  . exact ⟨_,rfl,h⟩
  . cases h
theorem z2U {x:Value}{f:ByteArray->OR}{v:Value}{H:Hp}{n:Nat}(h:y9S x f = .ok v H n):∃ a,x = .string a/\f a = .ok v H n:=by
  unfold y9S at h;split at h
  . exact ⟨_,rfl,h⟩
  . cases h
theorem y4S {x:Value}{f:Nat->OR}{v:Value}{H:Hp}{n:Nat}(h:u0M x f = .ok v H n):∃ k m,x = .int k (.ofNat m)/\f m = .ok v H n:=by
  unfold u0M at h;split at h
  . exact ⟨_,_,rfl,h⟩
  . cases h
theorem z2V {x:Value}{f:Addr->Nat->Nat->OR}{v:Value}{H:Hp}{n:Nat}(h:onSl x f = .ok v H n):∃ a l c,x = .slice (some a) l c/\f a l c = .ok v H n:=by
  unfold onSl at h;split at h
  . exact ⟨_,_,_,rfl,h⟩
  . cases h
theorem x1S {α:Type}{o:Option α}{f:α->CO}{T:Tm}{H H':Hp}{n n':Nat}{v:Value}(h:(coO o f).f T H n = .ok v H' n'):∃ a,o=some a/\(f a).f T H n = .ok v H' n':=by
  cases o with
  | none=>cases h
  | some a=>exact ⟨a,rfl,h⟩
theorem x4Z {b:Bool}{c:CO}{T:Tm}{H H':Hp}{n n':Nat}{v:Value}(h:(coIf b c).f T H n = .ok v H' n'):b=true/\c.f T H n = .ok v H' n':=by
  cases b
  . cases h
  . exact ⟨rfl,h⟩
theorem x0D {a b:Bool}(h:cond a b false=true):a=true/\b=true:=by
  cases a
  . cases h
  . exact ⟨rfl,h⟩
theorem x4J {o:Option AObj}{p:List Value×TypeId}(h:cellsOf o=some p):o=some (.cells p.1 p.2):=by
  unfold cellsOf at h;split at h
  . cases h;rfl
  . cases h
theorem x1H {a b:Nat}(h:Nat.ble a b=true):a <= b:=Nat.le_of_ble_eq_true h
theorem x0U {a b:Nat}(h:Nat.beq a b=true):a=b:=Nat.eq_of_beq_eq_true h
def upd (β:Bm)(n:Nat)(b:Nat×Nat):Bm:=fun i=>if i=n then some b else β i
theorem u3Z {β:Bm}{n:Nat}{b:Nat×Nat}(h:β n=none):∀ i c, β i=some c->upd β n b i=some c:=fun i c hc=>by
  unfold upd;split
  . rename_i e;subst e;rw [h] at hc;cases hc
  . exact hc
theorem x1J (β:Bm)(n:Nat)(b:Nat×Nat):upd β n b n=some b:=by simp [upd]
section
variable {P:Program}
theorem WR.fresh {β:Bm}{G:Gp}{w:World}(h:WR P β G w){n:Nat}(hf:β n=none):G n=none:=by
  cases hg:G n with
  | none=>rfl
  | some o=>obtain ⟨b,q,h1,_⟩:=h.obj n o hg;rw [hf] at h1;cases h1
theorem WR.lt {β:Bm}{G:Gp}{w:World}(h:WR P β G w){i:Nat}{b:Nat×Nat}{o:AObj}(hg:G i=some o)(hb:β i=some b):b.1<w.heap.size:=by
  obtain ⟨b',q,h1,h2,_⟩:=h.obj i o hg;rw [hb] at h1;cases h1;exact (Array.getElem?_eq_some_iff.1 h2).1
theorem WR.at {β:Bm}{G:Gp}{w:World}(h:WR P β G w){i:Nat}{b:Nat×Nat}{o:AObj}(hg:G i=some o)(hb:β i=some b):∃ q,w.heap[b.1]? = some q/\ObR P β b.2 o q:=by
  obtain ⟨b',q,h1,h2,h3⟩:=h.obj i o hg;rw [hb] at h1;cases h1;exact ⟨q,h2,h3⟩
theorem WR.cells {β:Bm}{H:Hp}{w:World}(h:WR P β (hget H) w){i:Nat}{b:Nat×Nat}{p:List Value×TypeId}(hc:x0Z H i=some p)(hb:β i=some b) :
    ∃ c l' rest fz,w.heap[b.1]? = some (.cells c p.2 fz)/\VL β p.1 l'/\c.toList=l'++rest/\(∀ s,x1K P p.2=some s->b.2*s <= c.size)/\(fz=(0, 0)\/c.size <= fz.1):=by
  obtain ⟨q,h1,h2⟩:=h.at (x4J hc) hb;cases h2 with
  | cells l l' e c rest fz hl hc hm hz=>exact ⟨c,l',rest,fz,h1,hl,hc,hm,hz⟩
theorem Ext.new {β:Bm}{H:Hp}{n:Nat}{w:World}(hW:WR P β (hget H) w)(hf:β n=none){o:AObj}{q:Obj}{m:Nat}(ho:ObR P β m o q) :
    Ext P β (hget H) n w (upd β n (w.heap.size,m)) (hget (hset H n o)) (n+1) { w with heap:=w.heap.push q } :=by
  have hn:=hW.fresh hf;have le:=u3Z (b:=(w.heap.size,m)) hf;have old:∀ b,b<w.heap.size->(w.heap.push q)[b]? = w.heap[b]? :=fun b hb=>by
    rw [Array.getElem?_push_lt hb,Array.getElem?_eq_getElem hb]
  refine ⟨fun i hi=>?_,⟨fun i p hp=>?_,fun i j b c p r g1 g2 d1 d2 b1 b2 bc=>?_,hW.glob.frame fun g _ _ ai=>old g ai,fun g cs hg i p c k1 k2 k3=>?_⟩,by simp,fun b hb _=>old b hb,fun i p b g d hb=>?_,fun i g=>?_,fun i b g hb=>?_,rfl,rfl,rfl⟩
  . have:i≠n:=by omega
    simp [upd,this]
  . rw [x0E] at hp;split at hp
    . rename_i e;subst e;cases hp;exact ⟨(w.heap.size,m),q,x1J _ _ _,by simp,ho.mono le⟩
    . obtain ⟨b,r,h1,h2,h3⟩:=hW.obj i p hp;exact ⟨b,r,le _ _ h1,by rw [old b.1 (Array.getElem?_eq_some_iff.1 h2).1,h2],h3.mono le⟩
  . rw [x0E] at g1 g2
    by_cases e1:i=n <;> by_cases e2:j=n
    . rw [e1,e2]
    . subst e1;rw [if_neg e2] at g2;rw [x1J] at b1;cases b1;have b2':β j=some c:=by simpa [upd,e2] using b2
      have:=hW.lt g2 b2'
      simp only at bc;omega
    . subst e2;rw [if_neg e1] at g1;rw [x1J] at b2;cases b2;have b1':β i=some b:=by simpa [upd,e1] using b1
      have:=hW.lt g1 b1'
      simp only at bc;omega
    . rw [if_neg e1] at g1;rw [if_neg e2] at g2;exact hW.inj i j b c p r g1 g2 d1 d2 (by simpa [upd,e1] using b1) (by simpa [upd,e2] using b2) bc
  . rw [x0E] at k1
    by_cases e:i=n
    . subst e;rw [x1J] at k3;cases k3
      have:=hW.glob.lt hg
      simp only;omega
    . rw [if_neg e] at k1;exact hW.off g cs hg i p c k1 k2 (by simpa [upd,e] using k3)
  . rw [x0E] at g
    by_cases e:i=n
    . subst e;rw [x1J] at hb;cases hb;exact .inl (Nat.le_refl _)
    . rw [if_neg e] at g;exact .inr ⟨i,p,b,g,d,by simpa [upd,e] using hb,rfl⟩
  . rw [x0E,if_neg]
    . exact g
    . intro e;subst e;rw [hn] at g;cases g
  . exact old b.1 (hW.lt g hb)
theorem Ext.turn {β:Bm}{H:Hp}{n:Nat}{w w':World}(hW:WR P β (hget H) w){i:Nat}{b:Nat×Nat}{o p:AObj}{q:Obj}(hg:hget H i=some o)(hb:β i=some b)(aA:o ≠ .dead)(bM:o ≠ .defd)
    (hs:w'.heap.size=w.heap.size) (hq:w'.heap[b.1]? = some q) (dJ:∀ c,c≠b.1->w'.heap[c]? = w.heap[c]?) (hR:ObR P β b.2 p q) (h1:w'.os=w.os) (h2:w'.output=w.output) (h3:w'.tape=w.tape) :
    Ext P β (hget H) n w β (hget (hset H i p)) n w':=by
  refine ⟨fun _ _=>rfl,⟨fun j r g=>?_,fun j k c d r s g1 g2 d1 d2 b1 b2 bc=>?_,hW.glob.frame fun g cs eN _=>dJ g fun e=>hW.off g cs eN i o b hg aA hb e.symm,fun g cs eN j r c k1 k2 k3=>?_⟩,by omega,fun c hc ho=>dJ c (fun e=>ho i o b hg aA hb e.symm),fun j r c g d hc=>?_,fun j g=>?_,fun j c g hc=>?_,h1,h2,h3⟩
  . rw [x0E] at g;split at g
    . rename_i e;subst e;cases g;exact ⟨b,q,hb,hq,hR⟩
    . rename_i e;obtain ⟨c,x,k1,k2,k3⟩:=hW.obj j r g
      by_cases gh:c.1=b.1
      . by_cases hd:r = .dead
        . subst hd;exact ⟨c,q,k1,by rw [gh];exact hq, .dead _⟩
        . exact absurd (hW.inj j i c b r o g hg hd aA k1 hb gh) e
      . exact ⟨c,x,k1,by rw [dJ c.1 gh,k2],k3⟩
  . rw [x0E] at g1 g2
    by_cases e1:j=i <;> by_cases e2:k=i
    . rw [e1,e2]
    . subst e1;rw [if_neg e2] at g2;exact hW.inj j k c d o s hg g2 aA d2 b1 b2 bc
    . subst e2;rw [if_neg e1] at g1;exact hW.inj j k c d r o g1 hg d1 aA b1 b2 bc
    . rw [if_neg e1] at g1;rw [if_neg e2] at g2;exact hW.inj j k c d r s g1 g2 d1 d2 b1 b2 bc
  . rw [x0E] at k1
    by_cases e:j=i
    . subst e;exact hW.off g cs eN j o c hg aA k3
    . rw [if_neg e] at k1;exact hW.off g cs eN j r c k1 k2 k3
  . rw [x0E] at g
    by_cases e:j=i
    . subst e;exact .inr ⟨j,o,c,hg,aA,hc,rfl⟩
    . rw [if_neg e] at g;exact .inr ⟨j,r,c,g,d,hc,rfl⟩
  . rw [x0E,if_neg]
    . exact g
    . intro e;subst e;rw [hg] at g;cases g;exact bM rfl
  . refine dJ c.1 fun e=>?_
    have:=hW.inj j i c b _ o g hg (by simp) aA hc hb e
    subst this;rw [hg] at g;cases g;exact bM rfl
theorem Ext.move {β:Bm}{H:Hp}{n:Nat}{w w':World}(hW:WR P β (hget H) w)(hf:β n=none){i:Nat}{b:Nat×Nat}{o p:AObj}{q:Obj}(hg:hget H i=some o)(hb:β i=some b)(aA:o ≠ .dead)(bM:o ≠ .defd)
    (hs:w'.heap.size=w.heap.size) (hq:w'.heap[b.1]? = some q) (dJ:∀ c,c≠b.1->w'.heap[c]? = w.heap[c]?) (hR:ObR P β b.2 p q) (h1:w'.os=w.os) (h2:w'.output=w.output) (h3:w'.tape=w.tape) :
    Ext P β (hget H) n w (upd β n b) (hget (hset (hset H i .dead) n p)) (n+1) w':=by
  have hn:=hW.fresh hf;have le:=u3Z (b:=b) hf;have get:∀ j,hget (hset (hset H i .dead) n p) j=if j=n then some p else if j=i then some .dead else hget H j:=fun j=>by rw [x0E,x0E]
  refine ⟨fun j hj=>?_,⟨fun j r g=>?_,fun j k c d r s g1 g2 d1 d2 b1 b2 bc=>?_,hW.glob.frame fun g cs eN _=>dJ g fun e=>hW.off g cs eN i o b hg aA hb e.symm,fun g cs eN j r c k1 k2 k3=>?_⟩,by omega,fun c hc ho=>dJ c (fun e=>ho i o b hg aA hb e.symm),fun j r c g d hc=>?_,fun j g=>?_,fun j c g hc=>?_,h1,h2,h3⟩
  . have:j≠n:=by omega
    simp [upd,this]
  . rw [get] at g
    by_cases e:j=n
    . subst e;rw [if_pos rfl] at g;cases g;exact ⟨b,q,x1J _ _ _,hq,hR.mono le⟩
    . rw [if_neg e] at g
      by_cases e2:j=i
      . subst e2;rw [if_pos rfl] at g;cases g;exact ⟨b,q,le _ _ hb,hq, .dead _⟩
      . rw [if_neg e2] at g;obtain ⟨c,x,k1,k2,k3⟩:=hW.obj j r g
        by_cases gh:c.1=b.1
        . by_cases hd:r = .dead
          . subst hd;exact ⟨c,q,le _ _ k1,by rw [gh];exact hq, .dead _⟩
          . exact absurd (hW.inj j i c b r o g hg hd aA k1 hb gh) e2
        . exact ⟨c,x,le _ _ k1,by rw [dJ c.1 gh,k2],k3.mono le⟩
  . have old:∀ j r, hget (hset (hset H i .dead) n p) j=some r->r ≠ .dead->j≠n->hget H j=some r/\j≠i/\upd β n b j=β j := fun j r g d e => by
      rw [get,if_neg e] at g
      by_cases e2:j=i
      . rw [if_pos e2] at g;cases g;exact absurd rfl d
      . rw [if_neg e2] at g;exact ⟨g,e2,by simp [upd,e]⟩
    by_cases e1:j=n <;> by_cases e2:k=n
    . rw [e1,e2]
    . obtain ⟨x1,x2,x3⟩:=old k s g2 d2 e2;subst e1;rw [x1J] at b1;cases b1;rw [x3] at b2;exact absurd (hW.inj k i d b s o x1 hg d2 aA b2 hb bc.symm) x2
    . obtain ⟨x1,x2,x3⟩:=old j r g1 d1 e1;subst e2;rw [x1J] at b2;cases b2;rw [x3] at b1;exact absurd (hW.inj j i c b r o x1 hg d1 aA b1 hb bc) x2
    . obtain ⟨x1,_,x3⟩:=old j r g1 d1 e1;obtain ⟨y1,_,y3⟩:=old k s g2 d2 e2;rw [x3] at b1;rw [y3] at b2;exact hW.inj j k c d r s x1 y1 d1 d2 b1 b2 bc
  . rw [get] at k1
    by_cases e:j=n
    . subst e;rw [x1J] at k3;cases k3;exact hW.off g cs eN i o b hg aA hb
    . rw [if_neg e] at k1
      by_cases e2:j=i
      . rw [if_pos e2] at k1;cases k1;exact absurd rfl k2
      . rw [if_neg e2] at k1;exact hW.off g cs eN j r c k1 k2 (by simpa [upd,e] using k3)
  . rw [get] at g
    by_cases e:j=n
    . subst e;rw [x1J] at hc;cases hc;exact .inr ⟨i,o,b,hg,aA,hb,rfl⟩
    . rw [if_neg e] at g
      by_cases e2:j=i
      . rw [if_pos e2] at g;cases g;exact absurd rfl d
      . rw [if_neg e2] at g;exact .inr ⟨j,r,c,g,d,by simpa [upd,e] using hc,rfl⟩
  . rw [get,if_neg,if_neg]
    . exact g
    . intro e;subst e;rw [hg] at g;cases g;exact bM rfl
    . intro e;subst e;rw [hn] at g;cases g
  . refine dJ c.1 fun e=>?_
    have:=hW.inj j i c b _ o g hg (by simp) aA hc hb e
    subst this;rw [hg] at g;cases g;exact bM rfl
end
section rows
variable {P:Program} {w:World} {b:Nat} {c:Array Value} {e:TypeId}
theorem x4P (b o k:Nat):(⟨b,o,none⟩:Addr).add k=⟨b,o+k,none⟩:=by unfold Addr.add;split <;> simp_all
theorem u2U {fz:Nat×Nat}(hb:w.heap[b]? = some (.cells c e fz))(o:Nat):w.cell? ⟨b,o,none⟩=c.toList[o]? :=by simp [World.cell?, hb]
theorem x7A {fz:Nat×Nat}(hb:w.heap[b]? = some (.cells c e fz))(o:Nat)(r:List Value)(k:Nat)(hk:r.length=k)(h:∀ j v,r[j]? = some v->c.toList[o+j]? = some v) :
    (loadCells ⟨b,o,none⟩ k).run P w = .ok r.toArray w:=by
  subst hk;exact run_loadCells_list w _ r fun j v hv=>by rw [x4P,u2U hb];exact h j v hv
theorem x6Z (g o:Nat)(t:TypeId)(fz:Nat×Nat):∀ (vs:List Value) (i:Nat) (cur:Array Value) (w:World),w.heap[g]? = some (.cells cur t fz)->(fz=(0, 0)\/cur.size <= fz.1)->o+i+vs.length <= cur.size->(∀ v∈vs,v.oneCell'=true) ->
    (storeCells ⟨g,o,none⟩ vs i).run P w = .ok () (w.setRow g (cur.toList.take (o+i)++vs++cur.toList.drop (o+i+vs.length)).toArray):=by
  intro vs
  induction vs with
  | nil =>
    intro i cur w hg _ _ _;rw [show (cur.toList.take (o+i)++([]:List Value)++cur.toList.drop (o+i+([]:List Value).length)).toArray=cur by simp,setRow_self w g cur t fz hg]
    rfl
  | cons v rest ih =>
    intro i cur w hg hz hl h1;have hi:o+i<cur.size:=by simp at hl;omega
    have bO:w.cell? ⟨g,o+i,none⟩=some cur[o+i]:=by simp [World.cell?, hg,hi]
    have rO:w.frozen? ⟨g,o+i,none⟩=false:=by
      obtain ⟨lo,dV⟩:=fz;simp only [World.frozen?, hg];rcases hz with e | e
      . cases e;simp
      . have e:cur.size <= lo:=e;have:¬ (lo <= o+i):=by omega
        simp [this]
    have hset:w.setCell ⟨g,o+i,none⟩ v=w.setRow g (cur.setIfInBounds (o+i) v):=setCell_eq_setRow w g (o+i) cur t fz v hg;show ((store ((⟨g,o,none⟩:Addr).add i) v).bind fun _=>storeCells ⟨g,o,none⟩ rest (i+1)).run P w=_;rw [show (store ((⟨g,o,none⟩:Addr).add i) v).bind (fun _=>storeCells ⟨g,o,none⟩ rest (i+1))=(store ((⟨g,o,none⟩:Addr).add i) v >>= fun _=>storeCells ⟨g,o,none⟩ rest (i+1)) from rfl,Sem.run_bind,x4P,run_store P w _ v _ (h1 v (by simp)),bO]
    simp only [rO,Bool.false_eq_true,if_false,Result.andThen_ok];rw [hset,ih (i+1) (cur.setIfInBounds (o+i) v) _ (setRow_heap w g cur _ t fz hg) (by simpa using hz) (by simp at hl |-;omega) (fun x hx=>h1 x (by simp [hx])),setRow_setRow]
    congr 3;have e:=list_seg_step cur.toList (o+i) v rest (by simp at hl |-;omega)
    simpa [Array.toList_setIfInBounds,Nat.add_assoc] using e
theorem part_at {β:Bm}{l l' rest:List Value}(hl:VL β l l')(hc:c.toList=l'++rest){o k:Nat}{r:List Value}(hr:cut l o k=some r) :
    ∃ r',VL β r r'/\r'.length=k/\∀ j v,r'[j]? = some v->c.toList[o+j]? = some v:=by
  obtain ⟨h1,h2⟩:=v6W l o k r hr;subst h1;have am:=hl.length;refine ⟨(l'.drop o).take k,(hl.drop o).take k,by simp;omega,fun j v hv=>?_⟩
  rw [List.getElem?_take] at hv;split at hv
  . rw [List.getElem?_drop] at hv;rw [hc,List.getElem?_append_left (by have:=(List.getElem?_eq_some_iff.1 hv).1;exact this)]
    exact hv
  . cases hv
theorem u6S {β:Bm}{l l' rest:List Value}(hl:VL β l l')(hc:c.toList=l'++rest){o:Nat}{v:Value}(hr:lget l o=some v):∃ v',VR β v v'/\c.toList[o]? = some v':=by
  rw [lget_eq] at hr;obtain ⟨v',h1,h2⟩:=hl.get o v hr;refine ⟨v',h2, ?_⟩;rw [hc,List.getElem?_append_left (List.getElem?_eq_some_iff.1 h1).1];exact h1
end rows
theorem z5Q {β:Bm}{l l' vs us r:List Value}{k:Nat}(h:x7N l k vs=some r)(hl:VL β l l')(hv:VL β vs us) :
    VL β r (l'.take k++us++l'.drop (k+us.length))/\k+us.length <= l'.length:=by
  obtain ⟨h1,h2⟩:=u4H l k vs r h;subst h1;have e1:=hl.length;have e2:=hv.length;refine ⟨?_,by omega⟩
  rw [<- e2];exact ((hl.take k).append hv).append (hl.drop _)
end Go.Xec
namespace Go.Xec
open Go
variable [GT]
def nextV:Next->Option Value
  | .value v=>some v
  | .skip=>some undef
  | _=>none
def OpS (P:Program)(o:Oper)(T:Tm)(H:Hp)(n:Nat)(v:Value)(H':Hp)(n':Nat):Prop :=
  n <= n'/\(∀ i,(i<n\/n' <= i)->hget H i=none->hget H' i=none) /\
  ∀ (β:Bm) (w:World) (ρ:Operand->Value),(∀ x∈o.op.operands,VR β (ev T x) (ρ x))->WR P β (hget H) w->Fresh β n n' ->
    ∃ r c w' γ, (execOp ρ o).run P w = .ok r w'/\nextV r=some c/\VR γ v c/\Ext P β (hget H) n w γ (hget H') n' w'
section
variable {P:Program} {o:Oper} {T:Tm} {H H':Hp} {n n':Nat} {v:Value}
theorem OpS.same (h:∀ (β:Bm) (w:World) (ρ:Operand->Value),(∀ x∈o.op.operands,VR β (ev T x) (ρ x))->WR P β (hget H) w ->
    ∃ c,(execOp ρ o).run P w = .ok (.value c) w/\VR β v c):OpS P o T H n v H n :=
  ⟨Nat.le_refl _,fun _ _ h=>h,fun β w ρ hx hW _ =>
    let ⟨c,h1,h2⟩:=h β w ρ hx hW
    ⟨_,c,w, β, h1,rfl,h2,Ext.refl hW⟩⟩
theorem OpS.new {l:List Value}{e:TypeId}(h:∀ (β:Bm) (w:World) (ρ:Operand->Value),(∀ x∈o.op.operands,VR β (ev T x) (ρ x))->WR P β (hget H) w->β n=none ->
    ∃ c cs l' rest,(execOp ρ o).run P w = .ok (.value c) { w with heap:=w.heap.push (.cells cs e (0, 0)) }/\VR (upd β n (w.heap.size, 0)) v c/\VL β l l'/\cs.toList=l'++rest) :
    OpS P o T H n v (hset H n (.cells l e)) (n+1) :=
  ⟨by omega,fun i hi h0=>by rw [x0E,if_neg (by omega)];exact h0,fun β w ρ hx hW hf=>by
    have hn:=hf n (Nat.le_refl _) (by omega)
    obtain ⟨c,cs,l',rest,h1,h2,h3,h4⟩:=h β w ρ hx hW hn;exact ⟨_,c,_,_,h1,rfl,h2,Ext.new hW hn (.cells l l' e cs rest (0, 0) h3 h4 (fun s _=>by omega) (.inl rfl))⟩⟩
theorem x0M {w:World}{t:TypeId}{d:TypeDesc}(h:P.underlying t=some d):(underlying t).run P w = .ok d w:=by simp [underlying,h]
theorem y4H {w:World}{t:TypeId}{i:TypeInfo}(h:P.info? t=some i):(typeInfo t).run P w = .ok i w:=by simp [typeInfo,h]
theorem x2D {w:World}{t:TypeId}{k:Nat}(h:x1K P t=some k):(sizeOf t).run P w = .ok k w:=by
  unfold x1K at h;cases e:P.info? t with
  | none=>rw [e] at h;cases h
  | some i=>rw [e] at h;cases h;simp [sizeOf,y4H e]
theorem y2C {w:World}{t:TypeId}{d:TypeDesc}(h:P.underlying t=some d):(isAgg t).run P w = .ok (x2C (P.underlying t)) w:=by
  simp only [isAgg,Sem.run_bind,x0M h,Result.andThen_ok,h];cases d <;> rfl
theorem z2L {w:World}{t:TypeId}{z:List Value}(h:v0Z P t=some z):∃ v,(zeroValue t).run P w = .ok v w/\v.cells.toList=z:=by
  unfold v0Z at h;cases e:P.info? t with
  | none=>rw [e] at h;cases h
  | some i =>
    rw [e] at h;cases e2:i.zero with
    | none=>simp [e2] at h
    | some z'=>simp [e2] at h;exact ⟨z',by simp [zeroValue,y4H e,e2],h⟩
theorem y5J {t:TypeId}{z:List Value}(h:x4Q P t=some z):v0Z P t=some z/\all0 z=true:=by
  unfold x4Q at h;cases e:v0Z P t with
  | none=>rw [e] at h;cases h
  | some y =>
    rw [e] at h;have h':cond (all0 y) (some y) none=some z:=h;cases e2:all0 y with
    | false=>rw [e2] at h';cases h'
    | true=>rw [e2] at h';cases h';exact ⟨rfl,e2⟩
theorem y1Z {o:Option TypeDesc}{fs:List Field}(h:x6Q o=some fs):∃ a,o=some (.struct a)/\a.toList=fs:=by
  unfold x6Q at h;split at h
  . cases h;exact ⟨_,rfl,rfl⟩
  . cases h
theorem y8Z {o:Option TypeDesc}{p:Nat×TypeId}(h:y9A o=some p):o=some (.array p.1 p.2):=by
  unfold y9A at h;split at h
  . cases h;rfl
  . cases h
theorem x2Q {o:Option TypeDesc}{e:TypeId}(h:x2X o=some e):o=some (.slice e):=by
  unfold x2X at h;split at h
  . cases h;rfl
  . cases h
theorem y9F {t:TypeId}(h:x2C (P.underlying t)=true):∃ d,P.underlying t=some d:=by
  cases e:P.underlying t with
  | none=>rw [e] at h;cases h
  | some d=>exact ⟨d,rfl⟩
theorem prun_run {α:Type}:∀ (s:Sem α) (a:α) (w:World),prun P s=some a->s.run P w = .ok a w:=by
  intro s
  induction s with
  | pure x=>intro a w h;cases h;rfl
  | program k ih=>intro a w h;exact ih P a w h
  | _=>intro a w h;cases h
theorem x4G (h:x0X P T H n o = .ok v H' n')(hs:∀ cs b,o.op ≠ .select cs b)(hp:∀ x∈o.op.operands,plain (ev T x)=true):OpS P o T H n v H' n':=by
  unfold x0X at h;split at h
  . rename_i u hu;obtain ⟨h1,h2⟩:=x3A h;cases h2;refine OpS.same fun β w ρ hx _=>⟨v, ?_,x5N h1⟩;have:execOp ρ o=execOp (ev T) o:=execOp_congr o hs fun x hm=>y4N (hp x hm) (hx x hm);rw [this];exact prun_run _ _ w hu
  . cases h
theorem move_ok {x:Operand}(ho:o.op = .move x):OpS P o T H n (ev T x) H n :=
  OpS.same fun β w ρ hx _=>⟨ρ x,by simp [execOp,ho],hx x (by simp [ho,Op.operands])⟩
theorem v7R {x:Operand}(ho:o.op = .assign x):OpS P o T H n (ev T x) H n :=
  OpS.same fun β w ρ hx _=>⟨ρ x,by simp [execOp,ho],hx x (by simp [ho,Op.operands])⟩
theorem bool_of {β:Bm}{b:Bool}{x:Value}(h:VR β (.bool b) x):x = .bool b:=by cases h;rfl
theorem int_of {β:Bm}{k:IntKind}{i:Int}{x:Value}(h:VR β (.int k i) x):x = .int k i:=by cases h;rfl
theorem str_of {β:Bm}{s:ByteArray}{x:Value}(h:VR β (.string s) x):x = .string s:=by cases h;rfl
theorem x8E {β:Bm}{a:Addr}{x:Value}(h:VR β (.pointer (some a)) x):∃ c,a.spot=none/\β a.block=some c/\x = .pointer (some ⟨c.1,a.off,none⟩):=by
  cases h with
  | ptr b o c h=>exact ⟨c,rfl,h,rfl⟩
theorem y4C {β:Bm}{a:Addr}{l k:Nat}{x:Value}(h:VR β (.slice (some a) l k) x):∃ c k',a.spot=none/\β a.block=some c/\x = .slice (some ⟨c.1,a.off,none⟩) l k'/\((k=k'/\k≠unk)\/(k=unk/\l <= k'/\(a.off=0->c.2=k'))):=by
  cases h with
  | sl b o c l k k' h hk=>exact ⟨c,k',rfl,h,rfl,hk⟩
theorem agg_of {β:Bm}{a:Array Value}{x:Value}(h:VR β (.agg a) x):∃ b,x = .agg b/\VL β a.toList b.toList:=by
  cases h with
  | agg a b h=>exact ⟨b,rfl,h⟩
theorem tup_of {β:Bm}{a:Array Value}{x:Value}(h:VR β (.tuple a) x):∃ b,x = .tuple b/\VL β a.toList b.toList:=by
  cases h with
  | tuple a b h=>exact ⟨b,rfl,h⟩
theorem pick_ok {c a b:Operand}(ho:o.op = .pick c a b)(h:(z6N (ev T c) fun t=> .ok (cond t (ev T a) (ev T b)) H n) = .ok v H' n'):OpS P o T H n v H' n':=by
  obtain ⟨t,h1,h2⟩:=v3D h;cases h2;refine OpS.same fun β w ρ hx _=>?_;have ht:ρ c = .bool t:=bool_of (β := β) (h1▸hx c (by simp [ho,Op.operands]))
  cases t
  . exact ⟨ρ b,by simp [execOp,ho,ht,asBool],hx b (by simp [ho,Op.operands])⟩
  . exact ⟨ρ a,by simp [execOp,ho,ht,asBool],hx a (by simp [ho,Op.operands])⟩
theorem alloc_ok {e:TypeId}(ho:o.op = .alloc e)(h:(coO (x4Q P e) fun z=>⟨fun _ H n=>newB H n z e⟩).f T H n = .ok v H' n'):OpS P o T H n v H' n':=by
  obtain ⟨z,h1,h2⟩:=x1S h;cases h2;obtain ⟨hz,ha⟩:=y5J h1;refine OpS.new fun β w ρ hx _ _=>?_;obtain ⟨y,hy,hc⟩:=z2L (P:=P) (w:=w) hz;refine ⟨.pointer (some ⟨w.heap.size, 0,none⟩),y.cells,z,[], ?_, .ptr _ _ (w.heap.size, 0) (x1J _ _ _),x9W ha,by simp [hc]⟩
  simp [execOp,ho,Instr.alloc,hy,newVar,newRow]
theorem box_ok {e:TypeId}{x:Operand}(ho:o.op = .box e x):OpS P o T H n (.pointer (some ⟨n, 0,none⟩)) (hset H n (.cells (ev T x).cells.toList e)) (n+1) :=
  OpS.new fun β w ρ hx _ _=>⟨.pointer (some ⟨w.heap.size, 0,none⟩),(ρ x).cells,(ρ x).cells.toList,[],by simp [execOp,ho,Instr.box,newVar,newRow], .ptr _ _ (w.heap.size, 0) (x1J _ _ _),y8C (hx x (by simp [ho,Op.operands])),by simp⟩
theorem load_ok {t:TypeId}{a:Operand}(ho:o.op = .load t a)(h:(z8R P t a).f T H n = .ok v H' n'):OpS P o T H n v H' n':=by
  unfold z8R at h;cases aF:x2C (P.underlying t) with
  | true =>
    rw [aF,cond_true] at h;obtain ⟨k,h1,h2⟩:=x1S h;obtain ⟨ad,h3,h4⟩:=x4M h2;obtain ⟨p,h5,h6⟩:=x1M h4;obtain ⟨r,h7,h8⟩:=x1M h6;cases h8;refine OpS.same fun β w ρ hx hW=>?_;obtain ⟨b,_,hb,hρ⟩:=x8E (β := β) (h3▸hx a (by simp [ho,Op.operands]))
    obtain ⟨c,l',rest,fz,e1,e2,e3,e4,hz⟩:=hW.cells h5 hb;obtain ⟨r',q1,q2,q3⟩:=part_at e2 e3 h7;obtain ⟨d,hd⟩:=y9F aF;refine ⟨.agg r'.toArray, ?_, .agg _ _ (by simpa [x5Z] using q1)⟩
    simp [execOp,ho,hρ, Instr.loadAt,Instr.sureAddr,loadVar,y2C hd,aF,x2D h1,x7A e1 ad.off r' k q2 q3]
  | false =>
    rw [aF,cond_false] at h;obtain ⟨d,h1,h2⟩:=x1S h;obtain ⟨ad,h3,h4⟩:=x4M h2;obtain ⟨p,h5,h6⟩:=x1M h4;obtain ⟨r,h7,h8⟩:=x1M h6;cases h8;refine OpS.same fun β w ρ hx hW=>?_;obtain ⟨b,_,hb,hρ⟩:=x8E (β := β) (h3▸hx a (by simp [ho,Op.operands]))
    obtain ⟨c,l',rest,fz,e1,e2,e3,e4,hz⟩:=hW.cells h5 hb;obtain ⟨v',q1,q2⟩:=u6S e2 e3 h7;refine ⟨v', ?_,q1⟩;simp [execOp,ho,hρ, Instr.loadAt,Instr.sureAddr,loadVar,y2C h1,aF,u2U e1, -Array.getElem?_toList,q2]
theorem z5D {β:Bm}{w:World}(hW:WR P β (hget H) w){i:Nat}{b:Nat×Nat}{p:List Value×TypeId}(hc:x0Z H i=some p)(hb:β i=some b){off:Nat}{vs us l2:List Value}(hs:x7N p.1 off vs=some l2)(hv:VL β vs us)(h1:∀ v∈us,v.oneCell'=true) :
    ∃ w',(storeCells ⟨b.1,off,none⟩ us).run P w = .ok () w'/\Ext P β (hget H) n w β (hget (hset H i (.cells l2 p.2))) n w':=by
  obtain ⟨c,l',rest,fz,e1,e2,e3,e4,hz⟩:=hW.cells hc hb;obtain ⟨q1,q2⟩:=z5Q hs e2 hv;have bd:off+us.length <= c.size:=by
    have:c.toList.length=c.size:=Array.length_toList;rw [<- this,e3];simp;omega
  have bg:=x6Z (P:=P) b.1 off p.2 fz us 0 c w e1 hz (by omega) h1
  refine ⟨_,bg,Ext.turn hW (x4J hc) hb (by simp) (by simp) (by simp) (setRow_heap w b.1 c _ p.2 fz e1) (fun k hk=>setRow_other w b.1 k _ hk) (.cells l2 _ p.2 _ rest fz q1 ?_ (fun s hs=>?_) ?_) rfl rfl rfl⟩
  . simp only [Nat.add_zero,e3];rw [List.take_append_of_le_length (by omega),List.drop_append_of_le_length (by omega)]
    simp
  . have:=e4 s hs
    have gg:c.toList.length=c.size:=Array.length_toList
    simp;omega
  . rcases hz with hz | hz
    . exact .inl hz
    . right;have gg:c.toList.length=c.size:=Array.length_toList
      simp;omega
theorem store_ok {t:TypeId}{a x:Operand}(ho:o.op = .store t a x)(h:(u6T P t a x).f T H n = .ok v H' n'):OpS P o T H n v H' n':=by
  obtain ⟨s,h1,h2⟩:=x1S h;obtain ⟨ad,h3,h4⟩:=x4M h2;obtain ⟨h5,h6⟩:=x3A h4;obtain ⟨h7,h8⟩:=x0D h5;unfold x8L at h6;obtain ⟨p,h9,aH⟩:=x1M h6;obtain ⟨l2,bK,cX⟩:=x1M aH;cases cX;refine ⟨Nat.le_refl _,fun i _ h0=>?_,fun β w ρ hx hW _=>?_⟩
  . rw [x0E];split
    . rename_i e;subst e;rw [x4J h9] at h0;cases h0
    . exact h0
  . obtain ⟨b,cx,hb,hρ⟩:=x8E (β := β) (h3▸hx a (by simp [ho,Op.operands]))
    have hv:=y8C (hx x (by simp [ho,Op.operands]))
    obtain ⟨w',r1,r2⟩:=z5D (P:=P) (n:=n) hW h9 hb bK hv (y9E h8 hv);refine ⟨.skip,undef,w', β, ?_,rfl,y5R β, r2⟩;have bd:(ρ x).cells.size=s:=by rw [<- Array.length_toList, <- hv.length];exact x0U h7
    simp [execOp,ho,hρ, Instr.storeAt,Instr.sureAddr,storeVar,x2D h1,bd,r1]
theorem u0Q {x:Operand}(ho:o.op = .nilCheck x)(h:(x6R (ev T x) fun a=> .ok (.pointer (some a)) H n) = .ok v H' n'):OpS P o T H n v H' n':=by
  obtain ⟨a,h1,h2⟩:=x4M h;cases h2;refine OpS.same fun β w ρ hx _=>?_;have hr:=hx x (by simp [ho,Op.operands])
  rw [h1] at hr;obtain ⟨b,_,hb,hρ⟩:=x8E hr;exact ⟨ρ x,by simp [execOp,ho,hρ],hr⟩
theorem z7M {s:TypeId}{x:Operand}{f:Nat}(ho:o.op = .fieldAddr s x f)(h:(x9T P s x f).f T H n = .ok v H' n'):OpS P o T H n v H' n':=by
  obtain ⟨fs,h1,h2⟩:=x1S h;obtain ⟨fd,h3,h4⟩:=x1S h2;obtain ⟨k,h5,h6⟩:=x1S h4;obtain ⟨h7,h8⟩:=x4Z h6;obtain ⟨a,h9,aH⟩:=x4M h8;cases aH;obtain ⟨arr,hu,aE⟩:=y1Z h1;refine OpS.same fun β w ρ hx _=>?_;obtain ⟨b,cx,hb,hρ⟩:=x8E (β := β) (h9▸hx x (by simp [ho,Op.operands]))
  refine ⟨.pointer (some ⟨b.1,a.off+fd.offset,none⟩), ?_, .ptr _ _ b hb⟩;have hf:arr[f]? = some fd:=by rw [<- Array.getElem?_toList,aE, <- lget_eq];exact h3
  have hk:k≠0:=by have:=x1H h7;omega
  simp [execOp,ho,hρ, Instr.fieldAt,x0M hu,hf,Instr.sureAddr,fieldPlace,x2D h5,hk,x4P]
theorem u7X {t:TypeId}{off:Nat}{cs:List Value}(h:y3E P t off cs=some v){β:Bm}{w:World}{ds:Array Value}(hl:VL β cs ds.toList):∃ c,(part t ds off).run P w = .ok c w/\VR β v c:=by
  unfold y3E at h;cases aF:x2C (P.underlying t) with
  | true =>
    rw [aF,cond_true] at h;obtain ⟨d,hd⟩:=y9F aF;cases h1:x1K P t with
    | none=>rw [h1] at h;cases h
    | some k =>
      rw [h1] at h;have h:(cut cs off k).map x5Z=some v:=h;cases h2:cut cs off k with
      | none=>rw [h2] at h;cases h
      | some r =>
        rw [h2] at h;cases h;obtain ⟨e1,e2⟩:=v6W _ _ _ _ h2;subst e1;refine ⟨.agg (ds.extract off (off+k)),by simp [part,y2C hd,aF,x2D h1], .agg _ _ ?_⟩
        have:(ds.extract off (off+k)).toList=(ds.toList.drop off).take k:=by
          rw [Array.toList_extract,List.extract_eq_take_drop];simp
        rw [this]
        simpa [x5Z] using (AllR.drop off hl).take k
  | false =>
    rw [aF,cond_false] at h;cases h1:P.underlying t with
    | none=>rw [h1] at h;cases h
    | some d =>
      rw [h1] at h;have h:lget cs off=some v:=h;rw [lget_eq] at h;obtain ⟨c,q1,q2⟩:=hl.get off v h;rw [h1] at aF;refine ⟨c, ?_,q2⟩;have q3:ds[off]? = some c:=by rw [<- Array.getElem?_toList];exact q1
      simp [part,y2C h1,h1,aF,q3]
theorem field_ok {s:TypeId}{x:Operand}{f:Nat}(ho:o.op = .field s x f)(h:(u6V P s x f).f T H n = .ok v H' n'):OpS P o T H n v H' n':=by
  obtain ⟨fs,h1,h2⟩:=x1S h;obtain ⟨fd,h3,h4⟩:=x1S h2;obtain ⟨a,h9,aH⟩:=onAgg_ok (x:=ev T x) (f:=fun cs=>onO (y3E P fd.type fd.offset cs) fun v=> .ok v H n) h4;obtain ⟨u,bK,cX⟩:=x1M aH;cases cX;obtain ⟨arr,hu,aE⟩:=y1Z h1;refine OpS.same fun β w ρ hx _=>?_;obtain ⟨b,hρ, hl⟩:=agg_of (β := β) (h9▸hx x (by simp [ho,Op.operands]))
  obtain ⟨c,q1,q2⟩:=u7X (w:=w) bK hl;refine ⟨c, ?_,q2⟩;have hf:arr[f]? = some fd:=by rw [<- Array.getElem?_toList,aE, <- lget_eq];exact h3
  simp [execOp,ho,hρ, Instr.field,x0M hu,hf,asAgg,q1]
theorem ixA_ok {s len i:Nat}{a:Addr}(h:ixA s a len i H n = .ok v H' n'):i<len/\v = .pointer (some ⟨a.block,a.off+i*s,none⟩)/\H'=H/\n'=n:=by
  obtain ⟨h1,h2⟩:=x3A h;cases h2;exact ⟨x1H h1,rfl,rfl,rfl⟩
theorem z7D {t:TypeId}{x ix:Operand}(ho:o.op = .indexAddr t x ix)(h:(x3H P t x ix).f T H n = .ok v H' n'):OpS P o T H n v H' n':=by
  unfold x3H at h;split at h
  . rename_i p hp;obtain ⟨s,h1,h2⟩:=x1S h;obtain ⟨a,h3,h4⟩:=x4M h2;obtain ⟨k,i,h5,h6⟩:=y4S h4;obtain ⟨q1,rfl,rfl,rfl⟩:=ixA_ok h6;refine OpS.same fun β w ρ hx _=>?_;obtain ⟨b,cx,hb,hρ⟩:=x8E (β := β) (h3▸hx x (by simp [ho,Op.operands]))
    have hi:=int_of (β := β) (h5▸hx ix (by simp [ho,Op.operands]))
    refine ⟨.pointer (some ⟨b.1,a.off+i*s,none⟩), ?_, .ptr _ _ b hb⟩;simp [execOp,ho,hρ, hi,Instr.indexAt,asIntOf,x0M (y8Z hp),Instr.sureAddr,x2D h1,x4P];intro hh;omega
  . obtain ⟨e,h0,yr⟩:=x1S h;obtain ⟨s,h1,h2⟩:=x1S yr;obtain ⟨a,len,cp,h3,h4⟩:=z2V h2;obtain ⟨k,i,h5,h6⟩:=y4S h4;obtain ⟨q1,rfl,rfl,rfl⟩:=ixA_ok h6;refine OpS.same fun β w ρ hx _=>?_;obtain ⟨b,k',cx,hb,hρ, _⟩:=y4C (β := β) (h3▸hx x (by simp [ho,Op.operands]))
    have hi:=int_of (β := β) (h5▸hx ix (by simp [ho,Op.operands]))
    refine ⟨.pointer (some ⟨b.1,a.off+i*s,none⟩), ?_, .ptr _ _ b hb⟩;simp [execOp,ho,hρ, hi,Instr.indexAt,asIntOf,x0M (x2Q h0),x2D h1,x4P];intro hh;omega
theorem u8S {t:Operand}{ix:Nat}(ho:o.op = .extract t ix)(h:(v3B (ev T t) fun vs=>onO (lget vs ix) fun v=> .ok v H n) = .ok v H' n'):OpS P o T H n v H' n':=by
  obtain ⟨a,h1,h2⟩:=onTup_ok h;obtain ⟨u,h3,h4⟩:=x1M h2;cases h4;refine OpS.same fun β w ρ hx _=>?_;obtain ⟨b,hρ, hl⟩:=tup_of (β := β) (h1▸hx t (by simp [ho,Op.operands]))
  rw [lget_eq] at h3;obtain ⟨c,q1,q2⟩:=hl.get ix _ h3;have q3:b[ix]? = some c:=by rw [<- Array.getElem?_toList];exact q1
  exact ⟨c,by simp [execOp,ho,hρ, Instr.extract,q3],q2⟩
theorem makeI_ok {t:TypeId}{x:Operand}(ho:o.op = .makeInterface t x)(h:(match eqK (P.underlying t) with
    | .iface=>z3Y
    | _=>coO (P.underlying t) fun _=>⟨fun T H n=> .ok (.iface t (ev T x)) H n⟩:CO).f T H n = .ok v H' n'):OpS P o T H n v H' n':=by
  have key:∀ d,P.underlying t=some d->(∀ ms,d ≠ .interface ms)->OpS P o T H n (.iface t (ev T x)) H n:=fun d hd ac =>
    OpS.same fun β w ρ hx _=>⟨.iface t (ρ x),by
      simp only [execOp,ho,Instr.makeInterface,Sem.run_bind,x0M hd,Result.andThen_ok];cases d <;> first | rfl | exact absurd rfl (ac _), .iface _ _ _ (hx x (by simp [ho,Op.operands]))⟩
  split at h
  . cases h
  . rename_i ac;obtain ⟨d,h1,h2⟩:=x1S h;cases h2;refine key d h1 fun ms e=>?_;subst e;exact ac (by rw [h1];rfl)
theorem u0V {β:Bm}{ρ:Operand->Value}:∀ (l:List Operand),(∀ x∈l,VR β (ev T x) (ρ x))->VL β (l.map (ev T)) (l.map ρ)
  | [],_=> .nil
  | x::l,h=> .cons (h x (by simp)) (u0V l fun y hy=>h y (by simp [hy]))
theorem u0W {f:FuncId}{a b:Array Operand}(ho:o.op = .makeFunc (.func f) a b):OpS P o T H n (.func (.func f) (a.map (ev T)) (b.map (ev T))) H n :=
  OpS.same fun β w ρ hx _=>⟨.func (.func f) (a.map ρ) (b.map ρ),by simp [execOp,ho,Instr.makeFunc],
    .func f _ _ _ _ (by simpa using u0V (β := β) (ρ := ρ) a.toList fun x hm=>hx x (by simp [ho,Op.operands];exact .inl (by simpa using hm))) (by simpa using u0V (β := β) (ρ := ρ) b.toList fun x hm=>hx x (by simp [ho,Op.operands];exact .inr (by simpa using hm)))⟩
end
variable [GT]
section
variable {P:Program} {o:Oper} {T:Tm} {H H':Hp} {n n':Nat} {v:Value}
theorem z7K (off:Nat):∀ (us:List Value) (k:Nat) (cs:Array Value),off+k+us.length <= cs.size ->
    ((us.zipIdx k).foldl (fun cs p=>cs.setIfInBounds (off+p.2) p.1) cs).toList=cs.toList.take (off+k)++us++cs.toList.drop (off+k+us.length)
  | [],k,cs,_=>by simp
  | u::us,k,cs,h=>by
    simp only [List.length_cons] at h;simp only [List.zipIdx_cons,List.foldl_cons];rw [z7K off us (k+1) _ (by simp;omega),Array.toList_setIfInBounds]
    have e:=list_seg_step cs.toList (off+k) u us (by simp;omega)
    simpa [Nat.add_assoc] using e
inductive PR (β:Bm):List (Nat×Value)->List (Nat×Value)->Prop
  | nil:PR β [] []
  | cons {i:Nat} {a b:Value} {l m:List (Nat×Value)} (h:VR β a b) (t:PR β l m):PR β ((i,a)::l) ((i,b)::m)
theorem y2P (place:Nat->Option (Nat×Nat))(p:Nat×Value)(ps:List (Nat×Value))(cells:List Value):x6U place (p::ps) cells =
    (place p.1).bind fun q=>cond (Nat.beq p.2.cells.toList.length q.2) ((x7N cells q.1 p.2.cells.toList).bind (x6U place ps)) none:=rfl
theorem y4Z {β:Bm}{place place':Nat->Option (Nat×Nat)}(hp:∀ i,place' i=place i):∀ {ps ps':List (Nat×Value)}, PR β ps ps'->∀ {cells r:List Value} {cs:Array Value}, x6U place ps cells=some r->VL β cells cs.toList ->
    ∃ ds,Instr.fill place' cs ps'=some ds/\VL β r ds.toList
  | _,_, .nil,cells,r,cs,h,hl=>by cases h;exact ⟨cs,rfl,hl⟩
  | _,_, .cons (i:=i) (a:=a) (b:=b) (l:=l) (m:=m) hv t,cells,r,cs,h,hl=>by
    rw [y2P] at h;cases h1:place i with
    | none=>simp only [h1] at h;cases h
    | some q =>
      simp only [h1,Option.bind_some] at h;cases h2:Nat.beq a.cells.toList.length q.2 with
      | false=>rw [h2] at h;cases h
      | true =>
        rw [h2,cond_true] at h;cases h3:x7N cells q.1 a.cells.toList with
        | none=>rw [h3] at h;cases h
        | some c2 =>
          rw [h3] at h;have h4:x6U place l c2=some r:=h;have hc:=y8C hv;obtain ⟨q1,q2⟩:=z5Q h3 hl hc;have e1:b.cells.size=q.2:=by rw [<- Array.length_toList, <- hc.length];exact x0U h2
          have e2:cs.toList.length=cs.size:=Array.length_toList;have e3:b.cells.toList.length=b.cells.size:=Array.length_toList;have oI:(b.cells.zipIdx.foldl (fun cs p=>cs.setIfInBounds (q.1+p.2) p.1) cs).toList=cs.toList.take q.1++b.cells.toList++cs.toList.drop (q.1+b.cells.toList.length):=by
            rw [<- Array.foldl_toList,Array.toList_zipIdx]
            simpa using z7K q.1 b.cells.toList 0 cs (by omega)
          obtain ⟨ds,r1,r2⟩:=y4Z hp t h4 (cs:=b.cells.zipIdx.foldl (fun cs p=>cs.setIfInBounds (q.1+p.2) p.1) cs) (by rw [oI];exact q1)
          refine ⟨ds, ?_,r2⟩;rw [Instr.fill,hp,h1];obtain ⟨off,size⟩:=q;simp only at e1 q2 e2 e3 r1 |-
          rw [if_neg (by simp;omega)]
          exact r1
theorem z2A {β:Bm}{ρ:Operand->Value}:∀ (ps:List (Nat×Operand)),(∀ p∈ps,VR β (ev T p.2) (ρ p.2))->PR β (x5A T ps) (ps.map fun p=>(p.1, ρ p.2))
  | [],_=> .nil
  | p::ps,h=> .cons (h p (by simp)) (z2A ps fun q hq=>h q (by simp [hq]))
theorem z0E {w:World}:∀ (fs:List Field) (pl:List (Nat×Nat)),x7R P fs=some pl->(fs.mapM (m:=Sem) fun f=>do pure (f.offset, <- sizeOf f.type)).run P w = .ok pl w
  | [],pl,h=>by cases h;simp
  | f::fs,pl,h=>by
    have h':((x1K P f.type).bind fun s=>(x7R P fs).map fun r=>(f.offset,s)::r)=some pl:=h;cases h1:x1K P f.type with
    | none=>rw [h1] at h';cases h'
    | some s =>
      rw [h1] at h';cases h2:x7R P fs with
      | none=>simp [h2] at h'
      | some r =>
        simp [h2] at h';subst h';have ih:=z0E (w:=w) fs r h2;simp only [List.mapM_cons,Sem.run_bind,x2D h1,Result.andThen_ok,Sem.run_pure,ih]
theorem z9Y {w:World}(fs:Array Field)(pl:List (Nat×Nat))(h:x7R P fs.toList=some pl):(fs.mapM (m:=Sem) fun f=>do pure (f.offset, <- sizeOf f.type)).run P w = .ok pl.toArray w:=by
  rw [Array.mapM_eq_mapM_toList,Sem.run_map,z0E fs.toList pl h];rfl
theorem y1U {β:Bm}{w:World}{t:TypeId}{z:List Value}(h:x4Q P t=some z):∃ y,(zeroValue t).run P w = .ok y w/\VL β z y.cells.toList:=by
  obtain ⟨h1,h2⟩:=y5J h;obtain ⟨y,h3,h4⟩:=z2L (w:=w) h1;exact ⟨y,h3,by rw [h4];exact x9W h2⟩
theorem build_ok {t:TypeId}{ps:Array (Nat×Operand)}(ho:o.op = .build t ps)(h:(z8S P t ps.toList).f T H n = .ok v H' n'):OpS P o T H n v H' n':=by
  unfold z8S at h;obtain ⟨z,h1,h2⟩:=x1S h;have hv:∀ (β:Bm) (ρ:Operand->Value),(∀ x∈o.op.operands,VR β (ev T x) (ρ x))->PR β (x5A T ps.toList) (ps.map fun p=>(p.1, ρ p.2)).toList:=fun β ρ hx=>by
    rw [Array.toList_map];exact z2A ps.toList fun p hp=>hx p.2 (by simp only [ho,Op.operands];simp;exact ⟨p.1,by simpa using hp⟩)
  split at h2
  . rename_i fs hs;obtain ⟨pl,h3,h4⟩:=x1S h2;obtain ⟨c,h5,h6⟩:=x1M (o:=x6U (lget pl) (x5A T ps.toList) z) (f:=fun c=> .ok (x5Z c) H n) h4;cases h6;obtain ⟨arr,hu,aE⟩:=y1Z hs;refine OpS.same fun β w ρ hx _=>?_;obtain ⟨y,hy,hl⟩:=y1U (β := β) (w:=w) h1;obtain ⟨ds,r1,r2⟩:=y4Z (place':=fun i=>pl.toArray[i]?) (fun i=>by rw [lget_eq];simp) (hv β ρ hx) h5 hl
    refine ⟨.agg ds, ?_, .agg _ _ (by simpa [x5Z] using r2)⟩
    subst aE;simp only [execOp,ho,Instr.build,Sem.run_bind,hy,Result.andThen_ok,x0M hu,z9Y arr pl h3,r1,Sem.run_pure]
  . rename_i hs;obtain ⟨p,h3,h4⟩:=x1S h2;obtain ⟨s,h5,h6⟩:=x1S h4;obtain ⟨c,h7,h8⟩:=x1M (o:=x6U (fun i=>some (Nat.mul i s,s)) (x5A T ps.toList) z) (f:=fun c=> .ok (x5Z c) H n) h6;cases h8;refine OpS.same fun β w ρ hx _=>?_;obtain ⟨y,hy,hl⟩:=y1U (β := β) (w:=w) h1;obtain ⟨ds,r1,r2⟩:=y4Z (place':=fun i=>some (i*s,s)) (fun i=>rfl) (hv β ρ hx) h7 hl;refine ⟨.agg ds, ?_, .agg _ _ (by simpa [x5Z] using r2)⟩
    simp only [execOp,ho,Instr.build,Sem.run_bind,hy,Result.andThen_ok,x0M (y8Z h3),x2D h5,r1,Sem.run_pure]
theorem y1A (k:Nat)(z:List Value):repl (k+1) z=z++repl k z:=rfl
theorem y0F (z:List Value):∀ k,(repl k z).length=k*z.length
  | 0=>by rw [Nat.zero_mul];rfl
  | k+1=>by rw [y1A,List.length_append,y0F z k,Nat.succ_mul];omega
theorem u4Q (z:List Value)(hz:0<z.length):∀ (k i:Nat),i<k*z.length->(repl k z)[i]? = z[i%z.length]?
  | 0,i,h=>by omega
  | k+1,i,h=>by
    rw [y1A]
    by_cases hi:i<z.length
    . rw [List.getElem?_append_left hi,Nat.mod_eq_of_lt hi]
    . rw [List.getElem?_append_right (by omega),u4Q z hz k _ (by rw [Nat.succ_mul] at h;omega)]
      congr 1;exact (Nat.mod_eq_sub_mod (by omega)).symm
theorem u3Q (z:Array Value)(k:Nat)(hz:0<z.size):((Array.range (k*z.size)).map (fun i=>z[i%z.size]!)).toList=repl k z.toList:=by
  have qn:z.toList.length=z.size:=Array.length_toList;apply List.ext_getElem?;intro i
  by_cases hi:i<k*z.size
  . rw [u4Q z.toList (by omega) k i (by rw [qn];exact hi),qn]
    have hm:i%z.size<z.size:=Nat.mod_lt _ hz;simp [hi,hm]
  . rw [List.getElem?_eq_none (by simp;omega),List.getElem?_eq_none (by rw [y0F,qn];omega)]
theorem y4M {β:Bm}{z y:List Value}(h:VL β z y):∀ k,VL β (repl k z) (repl k y)
  | 0=> .nil
  | k+1=>by rw [y1A,y1A];exact h.append (y4M h k)
theorem z4D {t len:Nat}{ps:Array (Nat×Operand)}(ho:o.op = .buildSlice t len ps)(h:(x5W P t len ps.toList).f T H n = .ok v H' n'):OpS P o T H n v H' n':=by
  unfold x5W at h;obtain ⟨e,h1,h2⟩:=x1S h;obtain ⟨s,h3,h4⟩:=x1S h2;obtain ⟨z,h5,h6⟩:=x1S h4;obtain ⟨h7,h8⟩:=x4Z h6;obtain ⟨h9,aH⟩:=x0D h7;obtain ⟨bK,cX⟩:=x0D aH;obtain ⟨c,gj,gH⟩:=x1M (o:=x6U (fun i=>some (Nat.mul i s,s)) (x5A T ps.toList) (repl len z)) (f:=fun c=>newS H n c e len len) h8;cases gH;refine OpS.new fun β w ρ hx _ _=>?_;obtain ⟨y,hy,hl⟩:=y1U (β := β) (w:=w) h5;have dF:z.length=s:=x0U h9;have aK:1 <= s:=x1H bK;have aV:len*s <= 16777215:=x1H cX;have dS:y.cells.size=s:=by rw [<- Array.length_toList, <- hl.length];exact dF
  have am:len <= len*s:=Nat.le_mul_of_pos_right _ aK;have hv:PR β (x5A T ps.toList) (ps.map fun p=>(p.1, ρ p.2)).toList:=by
    rw [Array.toList_map];exact z2A ps.toList fun p hp=>hx p.2 (by simp only [ho,Op.operands];simp;exact ⟨p.1,by simpa using hp⟩)
  have hz:∀ k,k=len*s->VL β (repl len z) ((Array.range k).map (fun i=>y.cells[i%y.cells.size]!)).toList:=fun k hk=>by
    subst hk;have hp:0<y.cells.size:=by omega
    rw [<- dS,u3Q y.cells len hp];exact y4M hl len
  obtain ⟨ds,r1,r2⟩:=y4Z (place':=fun i=>some (i*s,s)) (fun i=>rfl) hv gj (hz _ rfl);refine ⟨.slice (some ⟨w.heap.size, 0,none⟩) len len,ds,ds.toList,[], ?_, .sl _ _ (w.heap.size, 0) _ _ _ (x1J _ _ _) (.inl ⟨rfl,by unfold unk;omega⟩),r2,by simp⟩
  simp only [execOp,ho,Instr.buildSlice,Sem.run_bind,x0M (x2Q h1),Result.andThen_ok,x2D h3];rw [if_neg (by omega)]
  by_cases h0:len*s=0
  . have lw:len=0 := by
      rcases Nat.mul_eq_zero.1 h0 with h | h
      . exact h
      . omega
    subst lw;simp only [Nat.zero_mul] at r1 |-
    have e1:Array.map (fun x=>(#[]:Array Value)[x%(#[]:Array Value).size]!) (Array.range 0)=Array.map (fun i=>y.cells[i%y.cells.size]!) (Array.range 0):=by simp
    simp only [Sem.run_pure,Result.andThen_ok,Sem.run_bind,if_true,e1,r1,newRow,run_newObj]
  . simp only [if_neg h0,Sem.run_bind,hy,Result.andThen_ok,Sem.run_pure,r1,newRow,run_newObj]
theorem u3R {m:Nat}(h:m <= 9223372036854775807):IntKind.i64.wrap (Int.ofNat m)=(m:Int):=by
  rw [Int.ofNat_eq_natCast];exact IntWalk.i64_in _ (by omega)
theorem z6Y {t:TypeId}{l c:Operand}(ho:o.op = .makeSlice t l c)(h:(x7J P t l c).f T H n = .ok v H' n'):OpS P o T H n v H' n':=by
  unfold x7J at h;obtain ⟨e,h1,h2⟩:=x1S h;obtain ⟨i,h3,h4⟩:=x1S h2;obtain ⟨z,h5,h6⟩:=x1S h4;obtain ⟨h7,h8⟩:=x4Z h6;obtain ⟨kl,len,h9,aH⟩:=y4S (x:=ev T l) h8;obtain ⟨kc,cp,bK,cX⟩:=y4S aH;obtain ⟨gj,gH⟩:=x3A cX;obtain ⟨pF,pE⟩:=x0D gj;obtain ⟨pD,pC⟩:=x0D pE;cases gH;have a1:len <= cp:=x1H pF;have a2:cp*i.bytes <= 1099511627776:=x1H pD;have a3:cp <= 1099511627776:=x1H pC;have dF:z.length=i.size:=x0U h7;refine OpS.new fun β w ρ hx _ _=>?_;obtain ⟨y,hy,hl⟩:=y1U (β := β) (w:=w) h5;have hρl:=int_of (β := β) (h9▸hx l (by simp [ho,Op.operands]))
  have hρc:=int_of (β := β) (bK▸hx c (by simp [ho,Op.operands]))
  have dS:y.cells.size=i.size:=by rw [<- Array.length_toList, <- hl.length];exact dF
  have bd:x1K P e=some i.size:=by unfold x1K;rw [h3];rfl
  have key:∀ cs:Array Value,cs.toList=repl cp y.cells.toList->VL β (repl cp z) cs.toList:=fun cs hc=>by rw [hc];exact y4M hl cp
  have tl:∀ m:Nat,m <= cp->¬ ((i.bytes:Int)*(m:Int) > 281474976710656):=fun m hm=>by
    have h1:m*i.bytes <= cp*i.bytes:=Nat.mul_le_mul_right _ hm;have h2:(i.bytes:Int)*(m:Int)=((m*i.bytes:Nat):Int):=by rw [Int.natCast_mul,Int.mul_comm]
    rw [h2];omega
  refine ⟨.slice (some ⟨w.heap.size, 0,none⟩) len cp,(if cp*i.size=0 then #[] else (Array.range (cp*i.size)).map (fun j=>y.cells[j%y.cells.size]!)),repl cp y.cells.toList,[], ?_, .sl _ _ (w.heap.size, 0) _ _ _ (x1J _ _ _) (.inl ⟨rfl,by unfold unk;omega⟩),y4M hl cp, ?_⟩
  . simp only [execOp,ho,hρl,hρc,Instr.makeSlice,asInt,asIntOf,Sem.run_bind,x0M (x2Q h1),Result.andThen_ok,Sem.run_pure,y4H h3];rw [u3R (m:=len) (by omega),u3R (m:=cp) (by omega)]
    have t1:=tl cp (Nat.le_refl _);have t2:=tl len a1;have n1:¬ ((cp:Int)<0):=by omega
    have n2:¬ ((len:Int)<0):=by omega
    have n3:¬ ((len:Int) > (cp:Int)):=by omega
    have e48:(2:Int) ^ 48=281474976710656:=by decide
    simp only [e48,t1,n1,n2,n3,decide_false,Bool.or_self,Bool.false_eq_true,if_false,run_askRoom,Result.andThen_ok,x2D bd,Int.toNat_natCast,Sem.run_bind]
    by_cases h0:cp*i.size=0
    . have er:∀ f:Nat->Value,Array.map f (Array.range 0)=#[]:=fun f=>by simp [Array.range]
      simp [h0,newRow,er]
    . simp [h0,newRow,hy]
  . split
    . rename_i h0;have:(repl cp y.cells.toList).length=0:=by rw [y0F,Array.length_toList,dS];exact h0
      rw [List.eq_nil_of_length_eq_zero this];rfl
    . rename_i h0;have hp:0<y.cells.size:=by
        rw [dS];rcases Nat.eq_zero_or_pos i.size with h | h
        . rw [h] at h0;simp at h0
        . exact h
      rw [<- dS,u3Q _ _ hp];simp
end
end Go.Xec
