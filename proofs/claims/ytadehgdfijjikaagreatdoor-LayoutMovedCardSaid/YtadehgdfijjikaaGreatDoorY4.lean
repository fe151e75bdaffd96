/-
  THE PURE EXECUTOR: two structs of cells that can be compared.;THE PURE EXECUTOR: what an operation that lays and looks at nothing comes to.;THE PURE EXECUTOR: what an operation that lays and looks at nothing comes to: all of them.;THE PURE EXECUTOR: lengths, indices, builtins;loads, new blocks, writes, appends.;THE PURE EXECUTOR: all that an operation can come to, beside the executor's.
-/
import Derived.Test.YtadehgdfijjikaaGreatDoorY3
set_option linter.all false
namespace Go.Yec
open Go Go.Xec
variable [GT]
section
variable {D:Type} {V:D->List (PV D)} {μ:Mu} {H:Hp} {M:Nat->Prop} {P:Program} {o:Oper} {T:Tm} {ρ:Yd->PV D}
noncomputable def goF {α β:Type}(P:Program)(f:α->β->Sem (ForInStep β)):List α->β->Option β
  | [],b=>some b
  | a::l,b=>(prun P (f a b)).bind fun
    | .done b=>some b
    | .yield b=>goF P f l b
theorem z0J {α β:Type}(f:α->β->Sem (ForInStep β)):∀ (l:List α) (b:β),prun P (forIn l b f)=goF P f l b
  | [],b=>by rw [List.forIn_nil,goF];rfl
  | a::l,b=>by
    rw [List.forIn_cons,x0F,goF];congr 1;funext r;cases r with
    | done b=>rfl
    | yield b=>exact z0J f l b
theorem ba_beq (u u':ByteArray):(u==u')=decide (u.data.toList=u'.data.toList):=by
  cases u with | mk a=>cases u' with | mk b =>
  show (a==b)=_;rw [Bool.eq_iff_iff];simp
theorem eqP1_ok {k:EK}{v w:PV D}{c:Bool}(h:eqP1 k v w=some c){x y:Value}(hx:Rep V μ H M v x)(hy:Rep V μ H M w y):x5P x=true/\x5P y=true/\∀ (d:Nat) (t:TypeId),ekOf (P.underlying t)=some k->prun P (Op.equalIn (d+1) t x y)=some c:=by
  have ek:∀ t,ekOf (P.underlying t)=some k->(k = .i/\∃ q,P.underlying t=some (.int q))\/(k = .b/\P.underlying t=some .bool)\/(k = .s/\P.underlying t=some .string):=fun t ht=>by
    unfold ekOf at ht;split at ht <;> first | (cases ht;done) | skip
    . rename_i q e;cases ht;exact .inl ⟨rfl,q,e⟩
    . rename_i e;cases ht;exact .inr (.inl ⟨rfl,e⟩)
    . rename_i e;cases ht;exact .inr (.inr ⟨rfl,e⟩)
  unfold eqP1 at h;split at h
  . cases hx;cases hy;cases h;refine ⟨rfl,rfl,fun d t ht=>?_⟩;rcases ek t ht with ⟨e,_⟩ | ⟨_,e⟩ | ⟨e,_⟩ <;> first | (cases e;done) | skip
    unfold Op.equalIn;rw [x0F,x0W e];rfl
  . obtain ⟨h1,h2⟩:=x0B h;cases x4W h1;cases hx;cases hy;cases h2;refine ⟨rfl,rfl,fun d t ht=>?_⟩;rcases ek t ht with ⟨_,q,e⟩ | ⟨e,_⟩ | ⟨e,_⟩ <;> first | (cases e;done) | skip
    unfold Op.equalIn;rw [x0F,x0W e,Option.bind_some];simp only [if_true];rfl
  . obtain ⟨u,rfl,rfl⟩:=hx.str_of;obtain ⟨u',rfl,rfl⟩:=hy.str_of;cases h;refine ⟨rfl,rfl,fun d t ht=>?_⟩;rcases ek t ht with ⟨e,_⟩ | ⟨e,_⟩ | ⟨_,e⟩ <;> first | (cases e;done) | skip
    unfold Op.equalIn;rw [x0F,x0W e,Option.bind_some];show some (u==u')=_;rw [ba_beq]
  . cases h
theorem eqPL_nil (l m:List (PV D)):eqPL [] l m=match l,m with | [],[]=>some true | _,_=>none:=by
  cases l <;> cases m <;> rfl
theorem v6H {k:EK}{ks:List EK}{l m:List (PV D)}{c:Bool}(h:eqPL (k::ks) l m=some c):∃ v l' w m' c1 c2,l=v::l'/\m=w::m'/\eqP1 k v w=some c1/\eqPL ks l' m'=some c2/\c=cond c1 c2 false:=by
  cases l with
  | nil=>cases h
  | cons v l =>
    cases m with
    | nil=>cases h
    | cons w m =>
      have h:Option.casesOn (motive:=fun _=>Option Bool) (eqP1 k v w) none (fun c=>Option.casesOn (motive:=fun _=>Option Bool) (eqPL ks l m) none (fun d=>some (cond c d false)))=some c:=h;obtain ⟨c1,h1,h2⟩:=x0Y (z:=(none:Option Bool)) h (by simp)
      obtain ⟨c2,h3,h4⟩:=x0Y (z:=(none:Option Bool)) h2 (by simp)
      cases h4;exact ⟨v,l,w,m,c1,c2,rfl,rfl,h1,h3,rfl⟩
theorem v6L (f:Field)(fs:List Field)(i:Nat):eqFs P (f::fs) i=cond (cond (f.name != "_") (Nat.beq f.offset i) false) ((ekOf (P.underlying f.type)).bind fun k=>(eqFs P fs (i+1)).map fun r=>k::r) none:=rfl
theorem y6G {t:TypeId}{k:EK}(ht:ekOf (P.underlying t)=some k)(cs:Array Value)(i:Nat){v:Value}(hi:cs[i]? = some v):prun P (part t cs i)=some v:=by
  have hu:∃ d,P.underlying t=some d/\prun P (isAgg t)=some false:=by
    unfold ekOf at ht;split at ht <;> first | (cases ht;done) | skip
    all_goals
      rename_i e;refine ⟨_,e, ?_⟩;unfold isAgg;rw [x0F,x0W e];rfl
  obtain ⟨_,_,hu⟩:=hu;unfold part;rw [x0F,hu,Option.bind_some];simp only [Bool.false_eq_true,if_false,hi];rfl
theorem eqLoop {xs ys:Array Value}{f:Field->Option Bool×Unit->Sem (ForInStep (Option Bool×Unit))}{d:Nat}
    (hf:∀ (g:Field) (k:EK) (v w:Value) (c:Bool) (r:Option Bool×Unit),g.name ≠ "_" -> ekOf (P.underlying g.type)=some k->xs[g.offset]? = some v->ys[g.offset]? = some w->prun P (Op.equalIn (d+1) g.type v w)=some c->prun P (f g r)=some (cond c (.yield (none,())) (.done (some false,())))) :
    ∀ (fs:List Field) (ks:List EK) (i:Nat) (l m:List (PV D)) (c:Bool),eqFs P fs i=some ks->eqPL ks l m=some c->RepL V μ H M l (xs.toList.drop i)->RepL V μ H M m (ys.toList.drop i) ->
      goF P f fs (none,())=some (cond c none (some false),())/\all0 (xs.toList.drop i)=true/\all0 (ys.toList.drop i)=true
  | [],ks,i,l,m,c,h1,h2,hl,hm=>by
    cases h1;rw [eqPL_nil] at h2;split at h2
    . cases h2;generalize xs.toList.drop i=a at hl |-
      generalize ys.toList.drop i=b at hm |-
      cases hl;cases hm;exact ⟨rfl,rfl,rfl⟩
    . cases h2
  | g::fs,ks,i,l,m,c,h1,h2,hl,hm=>by
    rw [v6L] at h1;obtain ⟨h3,h4⟩:=x0B h1;obtain ⟨h5,h6⟩:=x0D h3;obtain ⟨k,h7,h8⟩:=x0A h4;obtain ⟨ks',h9,rfl⟩:=x0C h8;obtain ⟨v,l',w,m',c1,c2,rfl,rfl,e1,e2,rfl⟩:=v6H h2;have cQ:g.offset=i:=Nat.eq_of_beq_eq_true h6;have dx:∀ (q:List Value) (j:Nat) {v:PV D} {l:List (PV D)}, RepL V μ H M (v::l) (q.drop j)->∃ x,q[j]? = some x/\Rep V μ H M v x/\RepL V μ H M l (q.drop (j+1))/\q.drop j=x::q.drop (j+1):=fun q j v l h=>by
      generalize hz:q.drop j=z at h;cases h with
      | cons _ x _ t hv ht =>
        have hq:q[j]? = some x:=by
          have:=congrArg (·[0]?) hz
          simpa using this
        have h3:q.drop (j+1)=t:=by rw [<- List.drop_drop,hz];rfl
        exact ⟨x,hq,hv,by rw [h3];exact ht,by rw [h3]⟩
    obtain ⟨x,bX,bv,cD,gl⟩:=dx _ _ hl;obtain ⟨y,bW,jH,vh,vf⟩:=dx _ _ hm;obtain ⟨p1,p2,p3⟩:=eqP1_ok (P:=P) e1 bv jH;have ih:=eqLoop hf fs ks' (i+1) l' m' c2 h9 e2 cD vh;have hr:=hf g k x y c1 (none,()) (by simpa using h5) h7 (by rw [cQ];simpa using bX) (by rw [cQ];simpa using bW) (p3 d _ h7)
    refine ⟨?_, ?_, ?_⟩
    . show (prun P (f g (none,()))).bind _=_;rw [hr];cases c1
      . rfl
      . exact ih.1
    . rw [gl];show cond (x5P x) (all0 _) false=true;rw [p1,ih.2.1];rfl
    . rw [vf];show cond (x5P y) (all0 _) false=true;rw [p2,ih.2.2];rfl
theorem eqAgg {t:TypeId}{fs:Array Field}{ks:List EK}{k:EK}(hu:P.underlying t=some (.struct fs))(hk:eqKs P t fs.toList=k::ks){xs ys:Array Value}{l m:List (PV D)}{c:Bool}(h:eqPL (k::ks) l m=some c)(hl:RepL V μ H M l xs.toList)(hm:RepL V μ H M m ys.toList) :
    prun P (Op.equal t (.agg xs) (.agg ys))=some c/\all0 xs.toList=true/\all0 ys.toList=true/\P.eqGuardType P.depth t=false:=by
  unfold eqKs at hk;cases hb:(cond (P.stoodInHeld t) true (P.eqGuardType P.depth t)) with
  | true=>rw [hb] at hk;cases hk
  | false =>
    rw [hb] at hk;have hs:P.stoodInHeld t=false/\P.eqGuardType P.depth t=false:=by
      cases hq:P.stoodInHeld t with
      | true=>rw [hq] at hb;cases hb
      | false=>rw [hq] at hb;exact ⟨rfl,hb⟩
    have hk:(match eqFs P fs.toList 0 with | some l=>l | none=>[])=k::ks:=hk
    split at hk
    . rename_i ks' he;subst hk;have gX:prun P program=some P:=rfl;have key := eqLoop (P := P) (xs := xs) (ys := ys) (d := 9998) (f := fun f (_:Option Bool×Unit) => do
          if f.name ≠ "_" then
            let a <- part f.type xs f.offset
            let b <- part f.type ys f.offset
            let r <- Op.equalIn 9999 f.type a b
            if (!r)=true then pure (ForInStep.done (some false,())) else pure (ForInStep.yield (none,()))
          else pure (ForInStep.yield (none,()))) (fun g k v w c r h1 h2 h3 h4 h5=>by
        simp only [ne_eq,h1,not_false_eq_true,if_true,x0F,y6G h2 xs _ h3,y6G h2 ys _ h4,Option.bind_some,h5];cases c <;> rfl) fs.toList _ 0 l m c he h (by simpa using hl) (by simpa using hm)
      refine ⟨?_,by simpa using key.2.1,by simpa using key.2.2,hs.2⟩
      show prun P (Op.equalIn (9999+1) t _ _)=_;unfold Op.equalIn;rw [x0F,x0W hu];simp only [x0F,gX,Option.bind_some,hs.1,Bool.false_eq_true,if_false];rw [<- Array.forIn_toList,z0J];refine (congrArg (fun z=>Option.bind z _) key.1).trans ?_;cases c <;> rfl
    . cases hk
theorem aeq_ok {neg:Bool}{t yt:TypeId}{x y:Operand}(ho:o.op = .binOp (cond neg .neq .eql) t x y yt){fs:Array Field}{ks:List EK}{k:EK}(hu:P.underlying t=some (.struct fs))(hk:eqKs P t fs.toList=k::ks){xs ys:Array Value}(hx:ev T x = .agg xs)(hy:ev T y = .agg ys)
    {l m:List (PV D)} {c:Bool} (h:eqPL (k::ks) l m=some c) (hl:RepL V μ H M l xs.toList) (hm:RepL V μ H M m ys.toList):ValS P o T (.bool (negB neg c)):=by
  obtain ⟨he,p1,p2,hg⟩:=eqAgg hu hk h hl hm;have lD:∀ op':BinOp,prun P (eqGuard op' t x y (.agg xs) (.agg ys))=some ():=fun op'=>by
    have gX:prun P program=some P:=rfl;cases op' <;> first | rfl | (simp [eqGuard,x0F,gX,hg,x3D])
  refine x9A ho rfl (by rw [hx];exact p1) (by rw [hy];exact p2) (fun i j h=>by rw [hx] at h;cases h.1) (x9Q ho (by rw [hx,hy];exact lD _) ?_)
  rw [hx,hy];cases neg
  . have:binOp .eql t (.agg xs) (.agg ys)=(do pure (.bool (<- Op.equal t (.agg xs) (.agg ys)))):=rfl
    show prun P (binOp .eql t (.agg xs) (.agg ys))=_;rw [this,x0F,he];rfl
  . have:binOp .neq t (.agg xs) (.agg ys)=(do pure (.bool (!(<- Op.equal t (.agg xs) (.agg ys))))):=rfl
    show prun P (binOp .neq t (.agg xs) (.agg ys))=_;rw [this,x0F,he];rfl
end
variable [GT]
section
variable {D:Type} {V:D->List (PV D)} {μ:Mu} {H:Hp} {P:Program} {o:Oper} {T:Tm} {ρ:Yd->PV D} {X:Nat->Prop} {B:Bt D} {m n:Nat}
def ValR (P:Program)(o:Oper)(T:Tm)(V:D->List (PV D))(μ:Mu)(H:Hp)(M:Nat->Prop)(v:PV D):Prop:= ∃ w,Rep V μ H M v w/\ValS P o T w
def Got (r:OpR D)(v:PV D):Prop:=r = .val v\/r = .par true v
theorem x1F {v w:PV D}(h:Got (.val v) w):v=w:=by
  rcases h with h | h <;> cases h;rfl
theorem x3Q {b:Bool}{v w:PV D}(h:Got (.par b v) w):b=true/\v=w:=by
  rcases h with h | h <;> cases h;exact ⟨rfl,rfl⟩
theorem x0L {w:PV D}(h:Got .bad w):False:=by
  rcases h with h | h <;> cases h
theorem z3H {b:Bool}{r:OpR D}{w:PV D}(h:Got (cond b r .bad) w):b=true/\Got r w:=by
  cases b
  . exact (x0L h).elim
  . exact ⟨rfl,h⟩
theorem u5W {x y:PV D}{f:IntKind->Int->Int->OpR D}{w:PV D}(h:Got (onI2 x y f) w):∃ k a b,x = .int k a/\y = .int k b/\Got (f k a b) w:=by
  rcases h with h | h
  . obtain ⟨k,a,b,h1,h2,h3⟩:=u5A h (by simp);exact ⟨k,a,b,h1,h2, .inl h3⟩
  . obtain ⟨k,a,b,h1,h2,h3⟩:=u5A h (by simp);exact ⟨k,a,b,h1,h2, .inr h3⟩
theorem got_I2' {x y:PV D}{f:IntKind->Int->Int->OpR D}{w:PV D}(h:Got (u7Y x y f) w):∃ k a k' b,x = .int k a/\y = .int k' b/\Got (f k a b) w:=by
  rcases h with h | h
  . obtain ⟨k,a,k',b,h1,h2,h3⟩:=z6M h (by simp);exact ⟨k,a,k',b,h1,h2, .inl h3⟩
  . obtain ⟨k,a,k',b,h1,h2,h3⟩:=z6M h (by simp);exact ⟨k,a,k',b,h1,h2, .inr h3⟩
theorem y7M {α:Type}{o:Option α}{f:α->OpR D}{w:PV D}(h:Got (Option.casesOn (motive:=fun _=>OpR D) o .bad f) w):∃ a,o=some a/\Got (f a) w:=by
  cases o with
  | none=>exact (x0L h).elim
  | some a=>exact ⟨a,rfl,h⟩
variable (hρ:OpdR V μ H (MX X μ B) T ρ) (hr:HR V X μ B m H n)
include hρ
theorem x2M {x:Operand}{a:Yd}(hx:ydO x=some a){k:IntKind}{i:Int}(h:ρ a = .int k i):ev T x = .int k i:=(h▸hρ x a hx:Rep V μ H (MX X μ B) (.int k i) (ev T x)).int_of
theorem z4E {x:Operand}{a:Yd}(hx:ydO x=some a){b:Bool}(h:ρ a = .bool b):ev T x = .bool b:=(h▸hρ x a hx:Rep V μ H (MX X μ B) (.bool b) (ev T x)).bool_of
theorem x7M {x:Operand}{a:Yd}(hx:ydO x=some a){s:List UInt8}(h:ρ a = .str s):∃ b:ByteArray,b.data.toList=s/\ev T x = .string b:=(h▸hρ x a hx:Rep V μ H (MX X μ B) (.str s) (ev T x)).str_of
omit hρ in
theorem u6B {t yt:TypeId}{x y:Operand}{neg:Bool}(ho:o.op = .binOp (cond neg .neq .eql) t x y yt){X' Y':Value}{c:Bool}(e1:ev T x=X')(e2:ev T y=Y')(p1:plain X'=true)(p2:plain Y'=true)(hi:∀ i,X' ≠ .int .i64 i)(he:prun P (Op.equal t X' Y')=some c)
    (hg:∀ op':BinOp,prun P (eqGuard op' t x y X' Y')=some ()) (b1:binOp .eql t X' Y'=(do pure (.bool (<- Op.equal t X' Y')))) (b2:binOp .neq t X' Y'=(do pure (.bool (!(<- Op.equal t X' Y'))))):ValS P o T (.bool (negB neg c)):=by
  refine x9A ho rfl (by rw [e1];exact p1) (by rw [e2];exact p2) (fun i j hh=>hi i (e1▸hh.1)) (x9Q ho (by rw [e1,e2];exact hg _) ?_)
  rw [e1,e2];cases neg
  . show prun P (binOp .eql t X' Y')=_;rw [b1,x0F,he];rfl
  . show prun P (binOp .neq t X' Y')=_;rw [b2,x0F,he];rfl
omit hρ in
theorem eq_ref {t yt:TypeId}{x y:Operand}{neg:Bool}(ho:o.op = .binOp (cond neg .neq .eql) t x y yt){X' Y':Value}{c:Bool}(e1:ev T x=X')(e2:ev T y=Y')(p:cond (plain X') (plain Y') false=false)(he:eqOp (eqK (P.underlying t)) X' Y'=some c)(hi:∀ i,X' ≠ .int .i64 i):ValS P o T (.bool (negB neg c)):=by
  intro H2 n2;have hc:(x0N P o).f T H2 n2=(y3Z P o t x y (cond neg .neq .eql)).f T H2 n2:=by unfold x0N;rw [ho]
  rw [hc];have fC:∀ op':BinOp,x4S P T H2 n2 o op' t (ev T x) (ev T y)=evEq P t op' X' Y' H2 n2:=fun op'=>by
    unfold x4S;rw [e1,e2,p];rfl
  have tR:∀ (f:Int->Int->OR) (els:OR),x3Y (ev T x) (ev T y) f els=els:=fun f els=>by
    unfold x3Y;split
    . rename_i i j q1 q2;exact absurd (e1▸q1) (hi i)
    . rfl
  cases neg
  . show x3Y (ev T x) (ev T y) _ (x4S P T H2 n2 o .eql t (ev T x) (ev T y))=_;rw [tR,fC];unfold evEq;rw [he];rfl
  . show x3Y (ev T x) (ev T y) _ (x4S P T H2 n2 o .neq t (ev T x) (ev T y))=_;rw [tR,fC];unfold evEq;rw [he];rfl
omit hρ in
theorem z6U (neg:Bool):negB neg true=!neg:=by cases neg <;> rfl
omit hρ in
theorem u8A (neg:Bool):negB neg false=neg:=by cases neg <;> rfl
theorem eqp {t yt:TypeId}{x y:Operand}{op:BinOp}(ho:o.op = .binOp op t x y yt){e:TypeId}(hu:P.underlying t=some (.pointer e))(neg:Bool)(bY:op=cond neg .neq .eql){q:YOp}(hc:y2 (.eqnil false neg) x y=some q){v:PV D}(h:Got (opR B ρ q) v):ValR P o T V μ H (MX X μ B) v:=by
  obtain ⟨a,b,ha,hb,rfl⟩:=x0V hc;subst bY;have r1:=hρ x a ha;have r2:=hρ y b hb;have h:Got (match false, ρ a, ρ b with
    | false, .nilp, .nilp=> .val (.bool (!neg))
    | false, .lptr _ _, .nilp=> .val (.bool neg)
    | false, .nilp, .lptr _ _=> .val (.bool neg)
    | false, .fptr _, .nilp=> .val (.bool neg)
    | false, .nilp, .fptr _=> .val (.bool neg)
    | true, .nils, .nils=> .val (.bool (!neg))
    | _,_,_=> .bad) v:=h
  have hk:eqK (P.underlying t) = .ptr:=by rw [hu];rfl
  split at h <;> first | exact (x0L h).elim | (rename_i hh _ _;cases hh;done) | skip
  all_goals
    rename_i h1 h2;rw [h1] at r1;rw [h2] at r2;obtain rfl:=x1F h;refine ⟨_, .bool _, ?_⟩
  . rw [<- z6U];cases hx:ev T x <;> rw [hx] at r1 <;> cases r1
    cases hy:ev T y <;> rw [hy] at r2 <;> cases r2
    refine u6B ho hx hy rfl rfl (by simp) ?_ (fun op'=>by unfold eqGuard;split <;> rfl) rfl rfl
    show prun P (Op.equalIn (9999+1) t _ _)=_;unfold Op.equalIn;rw [x0F,x0W hu];rfl
  all_goals
    rw [<- u8A neg];cases hx:ev T x <;> rw [hx] at r1 <;> cases r1
    all_goals
      cases hy:ev T y <;> rw [hy] at r2 <;> cases r2
      exact eq_ref ho hx hy rfl (by rw [hk];rfl) (by simp)
theorem eqs {t yt:TypeId}{x y:Operand}{op:BinOp}(ho:o.op = .binOp op t x y yt){e:TypeId}(hu:P.underlying t=some (.slice e))(neg:Bool)(bY:op=cond neg .neq .eql){q:YOp}(hc:y2 (.eqnil true neg) x y=some q){v:PV D}(h:Got (opR B ρ q) v):ValR P o T V μ H (MX X μ B) v:=by
  obtain ⟨a,b,ha,hb,rfl⟩:=x0V hc;subst bY;have r1:=hρ x a ha;have r2:=hρ y b hb;have h:Got (match true, ρ a, ρ b with
    | false, .nilp, .nilp=> .val (.bool (!neg))
    | false, .lptr _ _, .nilp=> .val (.bool neg)
    | false, .nilp, .lptr _ _=> .val (.bool neg)
    | false, .fptr _, .nilp=> .val (.bool neg)
    | false, .nilp, .fptr _=> .val (.bool neg)
    | true, .nils, .nils=> .val (.bool (!neg))
    | _,_,_=> .bad) v:=h
  split at h <;> first | exact (x0L h).elim | (rename_i hh _ _;cases hh;done) | skip
  all_goals
    rename_i h1 h2;rw [h1] at r1;rw [h2] at r2;obtain rfl:=x1F h;refine ⟨_, .bool _, ?_⟩;rw [<- z6U];cases hx:ev T x <;> rw [hx] at r1 <;> cases r1
    cases hy:ev T y <;> rw [hy] at r2 <;> cases r2
    refine u6B ho hx hy rfl rfl (by simp) ?_ (fun op'=>by unfold eqGuard;split <;> rfl) rfl rfl
    show prun P (Op.equalIn (9999+1) t _ _)=_;unfold Op.equalIn;rw [x0F,x0W hu];rfl
theorem bin_got {op:BinOp}{t yt:TypeId}{x y:Operand}(ho:o.op = .binOp op t x y yt){q:YOp}(hc:yBin P op t x y=some q){v:PV D}(h:Got (opR B ρ q) v):ValR P o T V μ H (MX X μ B) v:=by
  unfold yBin at hc;split at hc
  . rename_i k hu;have ari:∀ {q}, y2 (.ari op) x y=some q->Got (opR B ρ q) v->ValR P o T V μ H (MX X μ B) v:=fun hc h=>by
      obtain ⟨a,b,ha,hb,rfl⟩:=x0V hc;obtain ⟨k,i,j,h1,h2,h3⟩:=u5W (x:= ρ a) (y:= ρ b) h;rcases h3 with h3 | h3
      . exact ari_ok ho (x2M hρ ha h1) (x2M hρ hb h2) h3
      . unfold ariR at h3;split at h3 <;> cases h3
    have dv:∀ {q}, y2 (.div op) x y=some q->Got (opR B ρ q) v->ValR P o T V μ H (MX X μ B) v:=fun hc h=>by
      obtain ⟨a,b,ha,hb,rfl⟩:=x0V hc;obtain ⟨k,i,j,h1,h2,h3⟩:=u5W (x:= ρ a) (y:= ρ b) h;rcases h3 with h3 | h3
      . unfold divR at h3;split at h3 <;> cases h3
      . exact div_ok ho (x2M hρ ha h1) (x2M hρ hb h2) h3 rfl
    have sh:∀ {q}, y2 (.shf op) x y=some q->Got (opR B ρ q) v->ValR P o T V μ H (MX X μ B) v:=fun hc h=>by
      obtain ⟨a,b,ha,hb,rfl⟩:=x0V hc;obtain ⟨k,i,k',j,h1,h2,h3⟩:=got_I2' (x:= ρ a) (y:= ρ b) h;rcases h3 with h3 | h3
      . unfold shfR at h3;split at h3 <;> cases h3
      . exact shf_ok ho (x2M hρ ha h1) (x2M hρ hb h2) h3 rfl
    have cm:∀ {q}, y2 (.cmp op) x y=some q->Got (opR B ρ q) v->ValR P o T V μ H (MX X μ B) v:=fun hc h=>by
      obtain ⟨a,b,ha,hb,rfl⟩:=x0V hc;obtain ⟨k,i,j,h1,h2,h3⟩:=u5W (x:= ρ a) (y:= ρ b) h;rcases h3 with h3 | h3
      . exact cmp_ok ho (x2M hρ ha h1) (x2M hρ hb h2) h3
      . unfold cmpR at h3;split at h3 <;> cases h3
    split at hc <;> first | exact ari hc h | exact dv hc h | exact sh hc h | exact cm hc h
  . rename_i hu;have bb:∀ (neg:Bool) {q}, op=cond neg .neq .eql->y2 (.beq neg) x y=some q->Got (opR B ρ q) v->ValR P o T V μ H (MX X μ B) v:=fun neg q bY hc h=>by
      obtain ⟨a,b,ha,hb,rfl⟩:=x0V hc;have h:Got (match ρ a, ρ b with | .bool a, .bool b=> .val (.bool (negB neg (a==b))) | _,_=> .bad) v:=h
      split at h
      . rename_i i j h1 h2;obtain rfl:=x1F h;exact ⟨_, .bool _,beq_ok (bY▸ho) hu (z4E hρ ha h1) (z4E hρ hb h2)⟩
      . exact (x0L h).elim
    split at hc
    . exact bb false rfl hc h
    . exact bb true rfl hc h
    . cases hc
  . have ss:∀ (neg:Bool) {q}, op=cond neg .neq .eql->y2 (.scmp neg) x y=some q->Got (opR B ρ q) v->ValR P o T V μ H (MX X μ B) v := fun neg q bY hc h => by
      obtain ⟨a,b,ha,hb,rfl⟩:=x0V hc;have h:Got (match ρ a, ρ b with | .str a, .str b=> .val (.bool (negB neg (decide (a=b)))) | _,_=> .bad) v:=h
      split at h
      . rename_i i j h1 h2;obtain rfl:=x1F h;obtain ⟨u,rfl,e1⟩:=x7M hρ ha h1;obtain ⟨w,rfl,e2⟩:=x7M hρ hb h2;exact ⟨_, .bool _,scmp_ok (bY▸ho) e1 e2⟩
      . exact (x0L h).elim
    split at hc
    . obtain ⟨a,b,ha,hb,rfl⟩:=x0V hc;have h:Got (match ρ a, ρ b with | .str a, .str b=> .par (decide (a.length+b.length<9223372036854775808)) (.str (a++b)) | _,_=> .bad) v:=h
      split at h
      . rename_i i j h1 h2;obtain ⟨h3,rfl⟩:=x3Q h;obtain ⟨u,rfl,e1⟩:=x7M hρ ha h1;obtain ⟨w,rfl,e2⟩:=x7M hρ hb h2;obtain ⟨r1,r2⟩:=scat_ok (V:=V) (μ := μ) (H:=H) (M:=MX X μ B) ho e1 e2 (of_decide_eq_true h3);exact ⟨_,r1,r2⟩
      . exact (x0L h).elim
    . exact ss false rfl hc h
    . exact ss true rfl hc h
    . cases hc
  . rename_i e hu;split at hc
    . exact eqp hρ ho hu false rfl hc h
    . exact eqp hρ ho hu true rfl hc h
    . cases hc
  . rename_i e hu;split at hc
    . exact eqs hρ ho hu false rfl hc h
    . exact eqs hρ ho hu true rfl hc h
    . cases hc
  . rename_i fs hu;have aa:∀ (neg:Bool) {q}, op=cond neg .neq .eql->y2 (.aeq neg (eqKs P t fs.toList)) x y=some q->Got (opR B ρ q) v->ValR P o T V μ H (MX X μ B) v:=fun neg q bY hc h=>by
      obtain ⟨a,b,ha,hb,rfl⟩:=x0V hc;have r1:=hρ x a ha;have r2:=hρ y b hb;have h:Got (match ρ a, ρ b with
        | .agg l, .agg m=>List.casesOn (motive:=fun _=>OpR D) (eqKs P t fs.toList) .bad (fun k ks=>Option.casesOn (motive:=fun _=>OpR D) (eqPL (k::ks) l m) .bad (fun c=> .val (.bool (negB neg c))))
        | _,_=> .bad) v:=h
      split at h
      . rename_i l m h1 h2;rw [h1] at r1;rw [h2] at r2;cases hk:eqKs P t fs.toList with
        | nil=>rw [hk] at h;exact (x0L h).elim
        | cons k ks =>
          rw [hk] at h;have h:Got (Option.casesOn (motive:=fun _=>OpR D) (eqPL (k::ks) l m) .bad (fun c=> .val (.bool (negB neg c)))) v:=h;obtain ⟨c,h3,h4⟩:=y7M h;obtain rfl:=x1F h4;generalize hx:ev T x=X' at r1;generalize hy:ev T y=Y' at r2;cases r1 with
          | agg _ xs hl=>cases r2 with
            | agg _ ys hm=>exact ⟨_, .bool _,aeq_ok (bY▸ho) hu hk hx hy h3 hl hm⟩
      . exact (x0L h).elim
    split at hc
    . exact aa false rfl hc h
    . exact aa true rfl hc h
    . cases hc
  . cases hc
end
variable [GT]
theorem z1C {p1 p2:Nat->Option (Nat×Nat)}(hp:∀ i q,p1 i=some q->p2 i=some q):∀ {ps:List (Nat×Value)} {z s:List Value}, x6U p1 ps z=some s->x6U p2 ps z=some s
  | [],z,s,h=>h
  | p::ps,z,s,h=>by
    have h:((p1 p.1).bind fun q=>cond (Nat.beq p.2.cells.toList.length q.2) ((x7N z q.1 p.2.cells.toList).bind (x6U p1 ps)) none)=some s:=h;show ((p2 p.1).bind fun q=>cond (Nat.beq p.2.cells.toList.length q.2) ((x7N z q.1 p.2.cells.toList).bind (x6U p2 ps)) none)=some s;cases hq:p1 p.1 with
    | none=>rw [hq] at h;cases h
    | some q =>
      rw [hq] at h;rw [hp _ _ hq];simp only [Option.bind_some] at h |-
      cases hb:Nat.beq p.2.cells.toList.length q.2 with
      | false=>rw [hb] at h;cases h
      | true =>
        rw [hb,cond_true] at h;rw [cond_true];cases hs:x7N z q.1 p.2.cells.toList with
        | none=>rw [hs] at h;cases h
        | some z' =>
          rw [hs] at h;simp only [Option.bind_some] at h |-
          exact z1C hp h
theorem lget_eq {α:Type}:∀ (l:List α) (i:Nat),lget l i=l[i]?
  | [],i=>by cases i <;> rfl
  | x::l, 0=>rfl
  | x::l,i+1=>by show lget l i=_;rw [lget_eq];simp
section
variable {D:Type} {V:D->List (PV D)} {μ:Mu} {H:Hp} {P:Program} {o:Oper} {T:Tm} {ρ:Yd->PV D} {X:Nat->Prop} {B:Bt D} {m n:Nat}
theorem y0B (p:Nat×Operand)(l:List (Nat×Operand)):y5M (p::l)=((ydO p.2).bind fun c=>(y5M l).map fun r=>(p.1,c)::r):=rfl
theorem z5A (pl:List (Nat×Nat))(p:Nat×Yd)(l:List (Nat×Yd)):z1Y pl (p::l)=((lget pl p.1).bind fun q=>(z1Y pl l).map fun r=>(q,p.2)::r):=rfl
theorem v7P (p:(Nat×Nat)×PV D)(ps:List ((Nat×Nat)×PV D))(cells:List (PV D)):bldL (p::ps) cells=cond (cond (Nat.beq (x3K p.2).length p.1.2) (x5X (x3K p.2)) false) (Option.casesOn (motive:=fun _=>Option (List (PV D))) (setP cells p.1.1 (x3K p.2)) none (bldL ps)) none:=rfl
theorem u6Y {M:Nat->Prop}(hρ:OpdR V μ H M T ρ)(pl:List (Nat×Nat)):∀ {ps:List (Nat×Operand)} {ys:List (Nat×Yd)} {qs:List ((Nat×Nat)×Yd)} {l r:List (PV D)} {m:List Value}, y5M ps=some ys->z1Y pl ys=some qs->bldL (qs.map fun p=>(p.1, ρ p.2)) l=some r->RepL V μ H M l m->∃ s,x6U (lget pl) (x5A T ps) m=some s/\RepL V μ H M r s
  | [],ys,qs,l,r,m,h1,h2,h3,hl=>by
    cases h1;cases h2;cases h3;exact ⟨m,rfl,hl⟩
  | p::ps,ys,qs,l,r,m,h1,h2,h3,hl=>by
    rw [y0B] at h1;obtain ⟨c,e1,e2⟩:=x0A h1;obtain ⟨ys',e3,rfl⟩:=x0C e2;rw [z5A] at h2;obtain ⟨q,e4,e5⟩:=x0A h2;obtain ⟨qs',e6,rfl⟩:=x0C e5;simp only [List.map_cons] at h3;rw [v7P] at h3;obtain ⟨c1,c2⟩:=x0B h3;obtain ⟨c3,c4⟩:=x0D c1;obtain ⟨l2,e7,e8⟩:=x0Y (z:=(none:Option (List (PV D)))) c2 (by simp)
    obtain ⟨r1,r2⟩:=y2W (hρ p.2 c e1) c4;obtain ⟨s,e9,r3⟩:=y4G q.1 e7 hl r1;obtain ⟨s',e10,r4⟩:=u6Y hρ pl e3 e6 e8 r3;refine ⟨s', ?_,r4⟩;show x6U (lget pl) ((p.1,ev T p.2)::x5A T ps) m=_;rw [y2P,e4,Option.bind_some];have am:Nat.beq (ev T p.2).cells.toList.length q.2=true:=by rw [<- r1.length];exact c3
    rw [am,cond_true,e9];exact e10
theorem y0G {M:Nat->Prop}{x:Value}{i off:Nat}(h:Rep V μ H M (.lptr i off) x):∃ b len, μ i=some (some b,len)/\x = .pointer (some ⟨b,off,none⟩):=by
  cases h with | lptr _ _ x len h=>exact ⟨x,len,h,rfl⟩
theorem z5B {s:TypeId}{f:Nat}{fd:Field}(h:v1B P s f=some fd):∃ fs,x6Q (P.underlying s)=some fs/\lget fs f=some fd:=x0A h
variable (hρ:OpdR V μ H (MX X μ B) T ρ) (hr:HR V X μ B m H n)
include hρ
theorem mv_got {x:Operand}{a:Yd}(ha:ydO x=some a)(hc:∀ H2 n2,(x0N P o).f T H2 n2 = .ok (ev T x) H2 n2){v:PV D}(h:Got (opR B ρ (.mv a)) v):ValR P o T V μ H (MX X μ B) v:=by
  obtain rfl:=x1F (v:= ρ a) h;exact ⟨_,hρ x a ha,hc⟩
theorem v3M {x:Operand}(ho:o.op = .nilCheck x){a:Yd}(ha:ydO x=some a){v:PV D}(h:Got (opR B ρ (.nilck a)) v):ValR P o T V μ H (MX X μ B) v:=by
  obtain ⟨h1,h2⟩:=z3H (b:=isPtr (ρ a)) h;obtain rfl:=x1F h2;have hr:=hρ x a ha;have hp:∃ ad,ev T x = .pointer (some ad):=by
    generalize ρ a=y at hr h1;generalize ev T x=z at hr;cases hr <;> first | exact ⟨_,rfl⟩ | (cases h1)
  obtain ⟨ad,e⟩:=hp;refine ⟨_,hr,fun H2 n2=>?_⟩;have hc:(x0N P o).f T H2 n2=x6R (ev T x) fun a=> .ok (.pointer (some a)) H2 n2:=by unfold x0N;rw [ho]
  rw [hc,e];rfl
theorem un_got {op:UnOp}{t:TypeId}{x:Operand}(ho:o.op = .unOp op t x){q:YOp}(hc:(op = .not/\y1 .not x=some q)\/(op = .neg/\y1 .neg x=some q)){v:PV D}(h:Got (opR B ρ q) v):ValR P o T V μ H (MX X μ B) v:=by
  rcases hc with ⟨rfl,hc⟩ | ⟨rfl,hc⟩
  . obtain ⟨a,ha,rfl⟩:=x0G hc;have h:Got (match ρ a with | .bool a=> .val (.bool (!a)) | _=> .bad) v:=h
    split at h
    . rename_i b hb;obtain rfl:=x1F h;have e:=z4E hρ ha hb;exact ⟨_, .bool _,un_ok ho (by rw [e];rfl) rfl (by rw [e];rfl)⟩
    . exact (x0L h).elim
  . obtain ⟨a,ha,rfl⟩:=x0G hc;have h:Got (match ρ a with | .int k a=> .val (.int k (k.wrap (0-a))) | _=> .bad) v:=h
    split at h
    . rename_i k b hb;obtain rfl:=x1F h;have e:=x2M hρ ha hb;exact ⟨_, .int _ _,un_ok ho (by rw [e];rfl) rfl (by rw [e];rfl)⟩
    . exact (x0L h).elim
theorem conv_got {s d:TypeId}{x:Operand}(ho:o.op = .convert s d x){q:YOp}(hc:z1Z P s d x=some q){v:PV D}(h:Got (opR B ρ q) v):ValR P o T V μ H (MX X μ B) v:=by
  unfold z1Z at hc;split at hc
  . rename_i k k' hd hs;obtain ⟨a,ha,rfl⟩:=x0G hc;have h:Got (match ρ a with | .int _ a=> .val (.int k (k.wrap a)) | _=> .bad) v:=h
    split at h
    . rename_i k2 b hb;obtain rfl:=x1F h;have e:=x2M hρ ha hb;exact ⟨_, .int _ _,u2S ho (by rw [e];rfl) (by rw [hs];simp) (by rw [hd];simp) rfl (by rw [e];exact z2R hs hd)⟩
    . exact (x0L h).elim
  . rename_i k' hd hs;obtain ⟨a,ha,rfl⟩:=x0G hc;have h:Got (match ρ a with | .int _ a=> .val (.str (y5Z a)) | _=> .bad) v:=h
    split at h
    . rename_i k2 b hb;obtain rfl:=x1F h;have e:=x2M hρ ha hb;exact ⟨_, .str _,u2S ho (by rw [e];rfl) (by rw [hs];simp) (by rw [hd];simp) rfl (by rw [e];exact y9R hs hd)⟩
    . exact (x0L h).elim
  . rename_i hd hs;obtain ⟨a,ha,rfl⟩:=x0G hc;have h:Got (x2E (ρ a) fun s=> .val (.str s)) v:=h;unfold x2E at h;split at h
    . rename_i s' hb;obtain rfl:=x1F h;obtain ⟨u,rfl,e⟩:=x7M hρ ha hb;exact ⟨_, .str u,u2S ho (by rw [e];rfl) (by rw [hs];simp) (by rw [hd];simp) rfl (by rw [e];exact z2Q hs hd)⟩
    . exact (x0L h).elim
  . obtain ⟨_,hc⟩:=x0B hc;obtain ⟨a,ha,rfl⟩:=x0G hc;have h:Got (match ρ a with
      | .lsl i=>match bget B i with
        | some (_, .rowI _ k l)=>cond (ikeq k .u8) (.ld (some i) (.str (x1R l))) .bad
        | _=> .bad
      | _=> .bad) v:=h
    split at h
    . split at h
      . obtain ⟨_,h2⟩:=z3H h;rcases h2 with h2 | h2 <;> cases h2
      . exact (x0L h).elim
    . exact (x0L h).elim
  . obtain ⟨_,hc⟩:=x0B hc;obtain ⟨a,ha,rfl⟩:=x0G hc;have h:Got (x2E (ρ a) fun s=> .mk (.rowI _ .u8 (x0S s)) (fun i=> .lsl i)) v:=h;unfold x2E at h;split at h
    . rcases h with h | h <;> cases h
    . exact (x0L h).elim
  . obtain ⟨_,hc⟩:=x0B hc;obtain ⟨a,ha,rfl⟩:=x0G hc;have h:Got (match ρ a with
      | .lsl i=>match bget B i with
        | some (_, .rowI _ _ (_::_))=> .ld (some i) (.lsl i)
        | _=> .bad
      | _=> .bad) v:=h
    split at h
    . split at h
      . rcases h with h | h <;> cases h
      . exact (x0L h).elim
    . exact (x0L h).elim
  . cases hc
theorem sidx_got {t:TypeId}{x i:Operand}(ho:o.op = .index t x i)(hu:P.underlying t=some .string){q:YOp}(hc:y2 .sidx x i=some q){v:PV D}(h:Got (opR B ρ q) v):ValR P o T V μ H (MX X μ B) v:=by
  obtain ⟨a,b,ha,hb,rfl⟩:=x0V hc;have h:Got (x2E (ρ a) fun s=>match ρ b with | .int _ ix=> .par (inB ix (slen s)) (.int .u8 (sget s ix)) | _=> .bad) v:=h
  unfold x2E at h;split at h
  . rename_i s hs;split at h
    . rename_i k ix hi;obtain ⟨h1,rfl⟩:=x3Q h;obtain ⟨u,rfl,e1⟩:=x7M hρ ha hs;exact ⟨_, .int _ _,index_ok ho hu e1 (x2M hρ hb hi) h1⟩
    . exact (x0L h).elim
  . exact (x0L h).elim
theorem aidx_got {t e:TypeId}{N:Nat}{x i:Operand}(ho:o.op = .index t x i)(hu:P.underlying t=some (.array N e)){q:YOp}(hc:cond (u0L P e) (y2 (.aidx N) x i) none=some q){v:PV D}(h:Got (opR B ρ q) v):ValR P o T V μ H (MX X μ B) v:=by
  obtain ⟨h0,hc⟩:=x0B hc;obtain ⟨a,b,ha,hb,rfl⟩:=x0V hc;have h:Got (match ρ a, ρ b with | .aggI k l, .int _ ix=> .par (cond (inB ix (N:Int)) (inB ix (ilen l)) false) (.int k (x1U l ix)) | _,_=>(.bad:OpR D)) v:=h
  split at h
  . rename_i k l k2 ix hl hi;obtain ⟨h1,rfl⟩:=x3Q h;obtain ⟨h1,h2⟩:=x0D h1;have h1:=of_decide_eq_true h1;have h2:=of_decide_eq_true h2;have e2:=x2M hρ hb hi;have e1:=hρ x a ha;rw [hl] at e1;generalize hz:ev T x=z at e1;cases e1 with
    | aggI _ _ arr aE =>
      have ai:ix.toNat<l.length:=by have:=h2.2;unfold ilen at this;omega
      obtain ⟨k',s1,s2⟩:∃ k',P.underlying e=some (.int k')/\x1K P e=some 1:=by
        unfold u0L at h0;split at h0
        . rename_i k' e1 e2;exact ⟨k',e1,e2⟩
        . cases h0
      have hg:arr[ix.toNat]? = some (.int k (x1U l ix)):=by
        rw [<- Array.getElem?_toList,aE,List.getElem?_map,List.getElem?_eq_getElem ai];unfold x1U;rw [List.getD_eq_getElem?_getD,List.getElem?_eq_getElem ai];rfl
      have bL:plain (.agg arr)=true:=by
        show all0 arr.toList=true;rw [aE];exact z9D k l
      have bd:prun P (sizeOf e)=some 1:=by
        unfold x1K at s2;obtain ⟨inf,s3,s4⟩:=x0C s2;unfold sizeOf typeInfo;rw [x0F,x0F];have:prun P program=some P:=rfl;rw [this];simp only [Option.bind_some,s3];show some inf.size=some 1;rw [s4]
      have dI:prun P (part e arr ix.toNat)=some (.int k (x1U l ix)):=y6G (k:= .i) (by unfold ekOf;rw [s1]) arr ix.toNat hg
      refine ⟨_, .int _ _,fun H2 n2=>?_⟩;have bu:(x0N P o).f T H2 n2=chk (cond (plain (ev T x)) (plain (ev T i)) false) (x0X P T H2 n2 o):=by unfold x0N;rw [ho]
      rw [bu,hz,e2,bL];show x0X P T H2 n2 o=_;refine x3U rfl ?_ H2 n2;have hE:execOp (ev T) o=(do pure (.value (<- Instr.index t (ev T x) (ev T i)))):=by unfold execOp;rw [ho]
      rw [hE,hz,e2];have:prun P (Instr.index t (.agg arr) (.int k2 ix))=some (.int k (x1U l ix)):=by
        unfold Instr.index;rw [x0F];show (prun P (do match <- underlying t,Value.agg arr with | _,_=>_))=_
        simp only [x0F,x0W hu,Option.bind_some,if_pos h1,bd,Nat.mul_one];exact dI
      simp only [x0F,this,Option.bind_some];rfl
  . exact (x0L h).elim
theorem ssl_got {t:TypeId}{x:Operand}{lo hi:Option Operand}(ho:o.op = .slice t x lo hi none){q:YOp}(hc:y0R P t x lo hi=some q){v:PV D}(h:Got (opR B ρ q) v):ValR P o T V μ H (MX X μ B) v:=by
  unfold y0R at hc;split at hc
  . rename_i hu;obtain ⟨a,ha,h1⟩:=x0A hc;obtain ⟨l,hl,h2⟩:=x0A h1;obtain ⟨hh,iu,rfl⟩:=x0C h2;have h:Got (x2E (ρ a) fun s=>sslR s (l.map ρ) (hh.map ρ)) v:=h;unfold x2E at h;split at h
    . rename_i s hs;obtain ⟨u,rfl,e1⟩:=x7M hρ ha hs;have bl:∀ {oo:Option Operand} {oy:Option Yd} (d:Nat),ydOpt oo=some oy->(oy.map ρ=none->x6V d (oo.map (ev T))=some d)/\(∀ k i,oy.map ρ=some (.int k i)->0 <= i->x6V d (oo.map (ev T))=some i.toNat):=fun {oo oy} d he=>by
        cases oo with
        | none=>cases he;exact ⟨fun _=>rfl,fun k i h=>by cases h⟩
        | some y =>
          obtain ⟨c,hc,rfl⟩:=x0C he;refine ⟨fun h=>by (simp at h),fun k i h h0=>?_⟩
          have:=x2M hρ hc (by simpa using h)
          show z6V (ev T y)=_;rw [this];exact v3P h0
      have fin:∀ (l' h':Nat),x6V 0 (lo.map (ev T))=some l'->x6V u.size (hi.map (ev T))=some h'->l' <= h'->h' <= u.size->v = .str ((u.data.toList.drop l').take (h'-l'))->ValR P o T V μ H (MX X μ B) v:=fun l' h' e2 e3 e4 e5 e6=>by
        refine ⟨.string (u.extract l' h'), ?_,ssl_run ho hu e1 e2 e3 e4 e5⟩;rw [e6, <- v0P];exact .str _
      unfold sslR at h;have sz:slen u.data.toList=(u.size:Int):=by unfold slen;rw [<- x2K]
      split at h
      . rename_i q1 q2;obtain rfl:=x1F h;refine fin 0 u.size ((bl 0 hl).1 q1) ((bl u.size iu).1 q2) (Nat.zero_le _) (Nat.le_refl _) ?_;rw [List.drop_zero,Nat.sub_zero,x2K,List.take_length]
      . rename_i k i q1 q2;obtain ⟨h1,rfl⟩:=x3Q h;have h1:=of_decide_eq_true h1;rw [sz] at h1;refine fin i.toNat u.size ((bl 0 hl).2 _ _ q1 h1.1) ((bl u.size iu).1 q2) (by omega) (Nat.le_refl _) ?_
        unfold ssub;rw [sz];rfl
      . rename_i k i q1 q2;obtain ⟨h1,rfl⟩:=x3Q h;have h1:=of_decide_eq_true h1;rw [sz] at h1;refine fin 0 i.toNat ((bl 0 hl).1 q1) ((bl u.size iu).2 _ _ q2 h1.1) (Nat.zero_le _) (by omega) ?_
        rfl
      . rename_i k i k' j q1 q2;obtain ⟨h1,rfl⟩:=x3Q h;have h1:=of_decide_eq_true h1;rw [sz] at h1;exact fin i.toNat j.toNat ((bl 0 hl).2 _ _ q1 h1.1) ((bl u.size iu).2 _ _ q2 (by omega)) (by omega) (by omega) rfl
      . exact (x0L h).elim
    . exact (x0L h).elim
  . cases hc
theorem v6D {s:TypeId}{x:Operand}{f:Nat}(ho:o.op = .fieldAddr s x f){q:YOp}(hc:x1Z P (.fieldAddr s x f)=some q){v:PV D}(h:Got (opR B ρ q) v):ValR P o T V μ H (MX X μ B) v:=by
  obtain ⟨fd,h1,h2⟩:=x0A hc;obtain ⟨k,h3,h4⟩:=x0A h2;obtain ⟨h5,h6⟩:=x0B h4;obtain ⟨a,ha,rfl⟩:=x0G h6;obtain ⟨fs,h7,h8⟩:=z5B h1;have h:Got (match ρ a with | .lptr i o=> .val (.lptr i (Nat.add o fd.offset)) | _=> .bad) v:=h
  split at h
  . rename_i i off hb;obtain rfl:=x1F h;obtain ⟨b,len,e1,e2⟩:=y0G (hb▸hρ x a ha);refine ⟨_, .lptr i _ b len e1,fun H2 n2=>?_⟩;have hc:(x0N P o).f T H2 n2=(x9T P s x f).f T H2 n2:=by unfold x0N;rw [ho]
    rw [hc];unfold x9T;rw [h7];show (coO (lget fs f) _).f T H2 n2=_;rw [h8];show (coO (x1K P fd.type) _).f T H2 n2=_;rw [h3];show (coIf (Nat.ble 1 k) _).f T H2 n2=_;rw [h5];show x6R (ev T x) _=_;rw [e2];rfl
  . exact (x0L h).elim
theorem fld_got {s:TypeId}{x:Operand}{f:Nat}(ho:o.op = .field s x f){q:YOp}(hc:x1Z P (.field s x f)=some q){v:PV D}(h:Got (opR B ρ q) v):ValR P o T V μ H (MX X μ B) v:=by
  obtain ⟨fd,h1,h2⟩:=x0A hc;obtain ⟨dsc,rS,h2⟩:=x0A h2;obtain ⟨k,h3,h4⟩:=x0A h2;obtain ⟨a,ha,rfl⟩:=x0G h4;obtain ⟨fs,h7,h8⟩:=z5B h1;have h:Got (match ρ a with | .agg l=>Option.casesOn (motive:=fun _=>OpR D) (z6G (x2C (P.underlying fd.type)) fd.offset k l) .bad (fun v=> .val v) | _=> .bad) v:=h
  split at h
  . rename_i l hb;obtain ⟨u,hu,h9⟩:=y7M h;obtain rfl:=x1F h9;have hr:=hρ x a ha;rw [hb] at hr;generalize hz:ev T x=z at hr;cases hr with
    | agg _ ar hl =>
      obtain ⟨w,aH,bK⟩:=y6H hu hl;refine ⟨w,bK,fun H2 n2=>?_⟩;have hc:(x0N P o).f T H2 n2=(u6V P s x f).f T H2 n2:=by unfold x0N;rw [ho]
      rw [hc];unfold u6V;rw [h7];show (coO (lget fs f) _).f T H2 n2=_;rw [h8];show onAgg (ev T x) (fun cs=>onO (y3E P fd.type fd.offset cs) fun v=> .ok v H2 n2)=_;rw [hz];show onO (y3E P fd.type fd.offset ar.toList) _=_;have:y3E P fd.type fd.offset ar.toList=some w:=by
        unfold y3E;rw [<- aH,h3,rS];rfl
      rw [this];rfl
  . exact (x0L h).elim
theorem bld_got {t:TypeId}{ps:Array (Nat×Operand)}(ho:o.op = .build t ps){q:YOp}(hc:yBuild P t ps.toList=some q){v:PV D}(h:Got (opR B ρ q) v):ValR P o T V μ H (MX X μ B) v:=by
  obtain ⟨z,h1,h2⟩:=x0A hc;obtain ⟨cs,h3,h4⟩:=x0A h2;obtain ⟨pl,h7,h8⟩:=x0A h4;obtain ⟨ys,h9,aH⟩:=x0A h8;obtain ⟨qs,bK,rfl⟩:=x0C aH;have h:Got (Option.casesOn (motive:=fun _=>OpR D) (bldL (qs.map fun p=>(p.1, ρ p.2)) (pvL cs)) .bad (fun l=> .val (.agg l))) v:=h;obtain ⟨l,cX,gj⟩:=y7M h;obtain rfl:=x1F gj;obtain ⟨s,gH,pF⟩:=u6Y hρ pl h9 bK cX (y7Y h3).2;refine ⟨x5Z s, .agg _ _ (by simpa [x5Z] using pF),fun H2 n2=>?_⟩
  have hc:(x0N P o).f T H2 n2=(z8S P t ps.toList).f T H2 n2:=by unfold x0N;rw [ho]
  rw [hc];unfold z8S;rw [h1];show (match x6Q (P.underlying t) with | some fs=>coO (x7R P fs) _ | none=>_:CO).f T H2 n2=_
  unfold yPl at h7;cases h5:x6Q (P.underlying t) with
  | some fs =>
    rw [h5] at h7;have h7:x7R P fs=some pl:=h7;show (coO (x7R P fs) _).f T H2 n2=_;rw [h7];show onO (x6U (lget pl) (x5A T ps.toList) z) _=_;rw [gH];rfl
  | none =>
    rw [h5] at h7;obtain ⟨pp,pE,pD⟩:=x0A h7;obtain ⟨sz,pC,rfl⟩:=x0C pD;show (coO (y9A (P.underlying t)) _).f T H2 n2=_;rw [pE];show (coO (x1K P pp.2) _).f T H2 n2=_;rw [pC];show onO (x6U (fun i=>some (Nat.mul i sz,sz)) (x5A T ps.toList) z) _=_;rw [z1C (fun i q hq=>?_) gH]
    . rfl
    . rw [lget_eq] at hq;unfold arrPl at hq;rw [List.getElem?_map] at hq;cases hr:(List.range pp.1)[i]? with
      | none=>rw [hr] at hq;cases hq
      | some j =>
        rw [hr] at hq;have:j=i:=by
          have:=List.getElem?_eq_some_iff.1 hr
          obtain ⟨hh,e⟩:=this
          simpa using e.symm
        subst this;exact hq
theorem ext_got {t:Operand}{ix:Nat}(ho:o.op = .extract t ix){q:YOp}(hc:y1 (fun x=> .ext x ix) t=some q){v:PV D}(h:Got (opR B ρ q) v):ValR P o T V μ H (MX X μ B) v:=by
  obtain ⟨a,ha,rfl⟩:=x0G hc;have bu:∀ H2 n2,(x0N P o).f T H2 n2=v3B (ev T t) fun vs=>onO (lget vs ix) fun v=> .ok v H2 n2:=fun H2 n2=>by unfold x0N;rw [ho]
  have h:Got (match ρ a with
    | .tup l=>Option.casesOn (motive:=fun _=>OpR D) (lget l ix) .bad (fun v=> .val v)
    | .nx b p c=>nxR b p c ix
    | _=> .bad) v:=h
  have hr:=hρ t a ha;split at h
  . rename_i l hb;obtain ⟨u,hu,h9⟩:=y7M h;obtain rfl:=x1F h9;rw [hb] at hr;generalize hz:ev T t=z at hr;cases hr with
    | tup _ ar hl =>
      obtain ⟨w,aH,bK⟩:=z3C hl hu;refine ⟨w,bK,fun H2 n2=>?_⟩;rw [bu,hz];show onO (lget ar.toList ix) _=_;rw [aH];rfl
  . rename_i b p c hb;rw [hb] at hr;generalize hz:ev T t=z at hr;rcases ix with _ | _ | _ | ix
    . obtain rfl:=x1F h;cases hr
      . exact ⟨_, .bool _,fun H2 n2=>by rw [bu,hz];rfl⟩
      . exact ⟨_, .bool _,fun H2 n2=>by rw [bu,hz];rfl⟩
    . obtain ⟨rfl,rfl⟩:=x3Q h;cases hr;exact ⟨_, .int _ _,fun H2 n2=>by rw [bu,hz];rfl⟩
    . obtain ⟨rfl,rfl⟩:=x3Q h;cases hr;exact ⟨_, .int _ _,fun H2 n2=>by rw [bu,hz];rfl⟩
    . exact (x0L h).elim
  . exact (x0L h).elim
end
variable [GT]
section
variable {D:Type} {V:D->List (PV D)} {μ:Mu} {H:Hp} {P:Program} {o:Oper} {T:Tm} {ρ:Yd->PV D} {X:Nat->Prop} {B:Bt D} {m n:Nat}
theorem y4F {α:Type}{a:Array α}{x:α}(h:a.toList=[x]):a=#[x]:=Array.ext' h
theorem v1M {α:Type}{a:Array α}{x y:α}(h:a.toList=[x,y]):a=#[x,y]:=Array.ext' h
theorem z6B {t:TypeId}(hu:P.underlying t=some .string)(ty:TypeId)(cs:Array Bool)(b:ByteArray):prun P (builtin .len #[t] ty cs #[.string b])=some (.value (.int .i64 b.size)):=by
  unfold builtin;simp only [x0F];have:prun P (Builtin.len_ #[t] ty #[.string b])=some (.int .i64 b.size):=by
    unfold Builtin.len_;simp [x0F,x0W hu,x3D,goInt]
  rw [this];rfl
theorem prun_max {ts:Array TypeId}(ty:TypeId)(cs:Array Bool)(k:IntKind)(a b:Int):prun P (builtin .max ts ty cs #[.int k a, .int k b])=some (.value (.int k (max a b))):=by
  unfold builtin;simp only [x0F];have:prun P (Builtin.max_ ts ty #[.int k a, .int k b])=some (.int k (if b > a then b else a)):=rfl
  rw [this];have:(if b > a then b else a)=max a b:=by
    by_cases h:b > a
    . rw [if_pos h];omega
    . rw [if_neg h];omega
  rw [this];rfl
theorem prun_min {ts:Array TypeId}(ty:TypeId)(cs:Array Bool)(k:IntKind)(a b:Int):prun P (builtin .min ts ty cs #[.int k a, .int k b])=some (.value (.int k (min a b))):=by
  unfold builtin;simp only [x0F];have:prun P (Builtin.min_ ts ty #[.int k a, .int k b])=some (.int k (if b<a then b else a)):=rfl
  rw [this];have:(if b<a then b else a)=min a b:=by
    by_cases h:b<a
    . rw [if_pos h];omega
    . rw [if_neg h];omega
  rw [this];rfl
variable (hρ:OpdR V μ H (MX X μ B) T ρ) (hr:HR V X μ B m H n)
include hρ
theorem mx_got {isMax:Bool}{x y:Operand}{args:Array Operand}{ts:Array TypeId}(ho:o.op = .call { callee:= .builtin (cond isMax .max .min),args,argTypes:=ts })(ha:args.toList=[x,y]){q:YOp}(hc:y2 (.mx isMax) x y=some q){v:PV D}(h:Got (opR B ρ q) v):ValR P o T V μ H (MX X μ B) v:=by
  obtain ⟨a,b,h1,h2,rfl⟩:=x0V hc;obtain ⟨k,i,j,e1,e2,h3⟩:=u5W (x:= ρ a) (y:= ρ b) (f:=fun k a b=> .val (.int k (cond isMax (max a b) (min a b)))) h;obtain rfl:=x1F h3;have q1:=x2M hρ h1 e1;have q2:=x2M hρ h2 e2;obtain rfl:=v1M ha;refine ⟨_, .int _ _,y8K ho (by simp [q1,q2];exact ⟨rfl,rfl⟩) rfl (fun H2 n2=> .inl ?_) fun cs=>?_⟩
  . cases isMax <;> rfl
  . have:(#[x,y]:Array Operand).map (ev T)=#[ev T x,ev T y]:=by simp
    rw [this,q1,q2];cases isMax
    . exact prun_min _ _ _ _ _
    . exact prun_max _ _ _ _ _
theorem slen_got {x:Operand}{t:TypeId}{args:Array Operand}{ts:Array TypeId}(ho:o.op = .call { callee:= .builtin .len,args,argTypes:=ts })(ha:args.toList=[x])(ht:ts.toList=[t])(hu:P.underlying t=some .string){q:YOp}(hc:y1 .slen x=some q){v:PV D}(h:Got (opR B ρ q) v):ValR P o T V μ H (MX X μ B) v:=by
  obtain ⟨a,h1,rfl⟩:=x0G hc;have h:Got (x2E (ρ a) fun s=> .val (.int .i64 (slen s))) v:=h;unfold x2E at h;split at h
  . rename_i s hs;obtain rfl:=x1F h;obtain ⟨u,rfl,e⟩:=x7M hρ h1 hs;obtain rfl:=y4F ha;obtain rfl:=y4F ht;refine ⟨_, .int _ _,y8K ho (by simp [e];rfl) rfl (fun H2 n2=> .inr ?_) fun cs=>?_⟩
    . show (cLen P o t x).f T H2 n2=_;unfold cLen;rw [hu];show chk (plain (ev T x)) _=_;rw [e];rfl
    . have:(#[x]:Array Operand).map (ev T)=#[ev T x]:=by simp
      rw [this,e,z6B hu];unfold slen;rw [x2K]
  . exact (x0L h).elim
include hr
omit hρ in
theorem y2L {x:Value}{i s e:Nat}{k:IntKind}{l:List Int}(h:Rep V μ H (MX X μ B) (.lsl i) x)(hb:bget B i=some (s, .rowI e k l)) :
    (∃ b c, μ i=some (some b,l.length)/\x = .slice (some ⟨b, 0,none⟩) l.length c/\(c=unk\/c=l.length)/\hget H b=some (.cells (l.map (Value.int k)) e))\/(μ i=some (none, 0)/\x = .slice none 0 0/\l=[]):=by
  obtain ⟨_,ox,len,h1,h2⟩:=hr.blk i s _ hb;cases h with
  | lsl _ b len' c h3 hc =>
    rw [h1] at h3;cases h3;cases h2 with
    | rowI _ _ _ _ hg=>exact .inl ⟨b,c,h1,rfl,hc,hg⟩
  | lsln _ h3 =>
    rw [h1] at h3;cases h3;cases h2;exact .inr ⟨h1,rfl,rfl⟩
theorem llen_got {x:Operand}{t e0:TypeId}{args:Array Operand}{ts:Array TypeId}(ho:o.op = .call { callee:= .builtin .len,args,argTypes:=ts })(ha:args.toList=[x])(ht:ts.toList=[t])(hu:P.underlying t=some (.slice e0)){q:YOp}(hc:y1 .llen x=some q){v:PV D}(h:Got (opR B ρ q) v):ValR P o T V μ H (MX X μ B) v:=by
  obtain ⟨a,h1,rfl⟩:=x0G hc;have h:Got (v4Z B (ρ a)) v:=h;obtain rfl:=y4F ha;obtain rfl:=y4F ht;have aj:=hρ x a h1;have go:∀ (ad:Option Addr) (k c:Nat),ev T x = .slice ad k c->ValS P o T (.int .i64 k):=fun ad k c hx H2 n2=>by
    have hc:(x0N P o).f T H2 n2=(cLen P o t x).f T H2 n2:=by unfold x0N;rw [ho];rfl
    rw [hc];unfold cLen;rw [hu];show (match ev T x with | .slice _ k _=>OR.ok (.int .i64 k) H2 n2 | _=> .bad)=_
    rw [hx]
  unfold v4Z at h;split at h
  . rename_i i hb;rw [hb] at aj;split at h
    . rename_i s e k l bI;obtain rfl:=x1F h;refine ⟨_, .int _ _, ?_⟩;rcases y2L hr aj bI with ⟨b,c,_,hx,_,_⟩ | ⟨_,hx,rfl⟩
      . exact go _ _ _ hx
      . exact go _ _ _ hx
    . exact (x0L h).elim
  . rename_i hb;rw [hb] at aj;obtain rfl:=x1F h;generalize hz:ev T x=z at aj;cases aj;exact ⟨_, .int _ _,go _ 0 _ hz⟩
  . rename_i esz k f hb;rw [hb] at aj;obtain rfl:=x1F h;generalize hz:ev T x=z at aj;cases aj with
    | fsl0=>exact ⟨_, .int _ _,go _ 0 _ hz⟩
    | fsl=>exact ⟨_, .int _ _,go _ _ _ hz⟩
  . exact (x0L h).elim
theorem v5V {t e0:TypeId}{x i:Operand}(ho:o.op = .indexAddr t x i)(hu:P.underlying t=some (.slice e0))(hs:x1K P e0=some 1){q:YOp}(hc:y2 .iaddr x i=some q){v:PV D}(h:Got (opR B ρ q) v):ValR P o T V μ H (MX X μ B) v:=by
  obtain ⟨a,b,h1,h2,rfl⟩:=x0V hc;have h:Got (z7G B (ρ a) (ρ b)) v:=h;unfold z7G at h;split at h
  . rename_i j k ix e1 e2;split at h
    . rename_i s e k' l bI;obtain ⟨h3,rfl⟩:=x3Q h;have h3:=of_decide_eq_true h3;have hi:=x2M hρ h2 e2;have aj:=hρ x a h1;rw [e1] at aj;rcases y2L hr aj bI with ⟨bb,c,hm,hx,_,_⟩ | ⟨_,_,rfl⟩
      . refine ⟨_, .lelt j ix bb _ hm h3.1 (by have:=h3.2;unfold ilen at this;omega),fun H2 n2=>?_⟩
        have hc:(x0N P o).f T H2 n2=(x3H P t x i).f T H2 n2:=by unfold x0N;rw [ho]
        rw [hc];unfold x3H;rw [hu];show (coO (x1K P e0) _).f T H2 n2=_;rw [hs];show onSl (ev T x) _=_;rw [hx,hi];obtain ⟨nx,rfl⟩:∃ nx:Nat,ix=nx:=⟨ix.toNat,by omega⟩
        show ixA 1 ⟨bb, 0,none⟩ l.length nx H2 n2=_;unfold ixA;have:Nat.ble (Nat.succ nx) l.length=true:=Nat.ble_eq_true_of_le (by have:=h3.2;unfold ilen at this;omega)
        rw [this];simp [chk]
      . exact absurd h3.2 (by unfold ilen;simp;omega)
    . exact (x0L h).elim
  . exact (x0L h).elim
theorem v7V {t e0:TypeId}{x i:Operand}{N:Nat}(ho:o.op = .indexAddr t x i)(hu:P.underlying t=some (.array N e0))(hs:x1K P e0=some 1){q:YOp}(hc:y2 (.aaddr N) x i=some q){v:PV D}(h:Got (opR B ρ q) v):ValR P o T V μ H (MX X μ B) v:=by
  obtain ⟨a,b,h1,h2,rfl⟩:=x0V hc;have h:Got (match ρ a, ρ b with
    | .lptr j 0, .int _ ix=>match bget B j with
      | some (_, .rowI _ _ l)=> .par (cond (inB ix (N:Int)) (inB ix (ilen l)) false) (.lelt j ix)
      | some (_, .cells _)=> .par (inB ix (N:Int)) (.celt j ix N)
      | _=> .bad
    | _,_=> .bad) v:=h
  split at h
  . rename_i j k ix e1 e2;split at h
    . rename_i s e k' l bI;obtain ⟨h3,rfl⟩:=x3Q h;obtain ⟨h3,h4⟩:=x0D h3;have h3:=of_decide_eq_true h3;have h4:=of_decide_eq_true h4;have hi:=x2M hρ h2 e2;obtain ⟨bb,len,hm,hx⟩:=y0G (e1▸hρ x a h1);obtain ⟨_,ox,len',h5,h6⟩:=hr.blk j s _ bI;rw [hm] at h5;cases h5;cases h6 with
      | rowI _ _ _ _ hg =>
        refine ⟨_, .lelt j ix bb _ hm h3.1 (by have:=h4.2;unfold ilen at this;omega),fun H2 n2=>?_⟩
        have hc:(x0N P o).f T H2 n2=(x3H P t x i).f T H2 n2:=by unfold x0N;rw [ho]
        rw [hc];unfold x3H;rw [hu];show (coO (x1K P e0) _).f T H2 n2=_;rw [hs];show x6R (ev T x) _=_;rw [hx,hi];obtain ⟨nx,rfl⟩:∃ nx:Nat,ix=nx:=⟨ix.toNat,by omega⟩
        show ixA 1 ⟨bb, 0,none⟩ N nx H2 n2=_;unfold ixA;have:Nat.ble (Nat.succ nx) N=true:=Nat.ble_eq_true_of_le (by omega)
        rw [this];simp [chk]
    . rename_i s l bI;obtain ⟨h3,rfl⟩:=x3Q h;have h3:=of_decide_eq_true h3;have hi:=x2M hρ h2 e2;obtain ⟨bb,len,hm,hx⟩:=y0G (e1▸hρ x a h1);refine ⟨_, .celt j ix N bb _ hm h3.1 (by omega),fun H2 n2=>?_⟩
      have hc:(x0N P o).f T H2 n2=(x3H P t x i).f T H2 n2:=by unfold x0N;rw [ho]
      rw [hc];unfold x3H;rw [hu];show (coO (x1K P e0) _).f T H2 n2=_;rw [hs];show x6R (ev T x) _=_;rw [hx,hi];obtain ⟨nx,rfl⟩:∃ nx:Nat,ix=nx:=⟨ix.toNat,by omega⟩
      show ixA 1 ⟨bb, 0,none⟩ N nx H2 n2=_;unfold ixA;have:Nat.ble (Nat.succ nx) N=true:=Nat.ble_eq_true_of_le (by omega)
      rw [this];simp [chk]
    . exact (x0L h).elim
  . exact (x0L h).elim
end
variable [GT]
section
variable {D:Type} {V:D->List (PV D)} {μ:Mu} {H:Hp} {P:Program} {o:Oper} {T:Tm} {ρ:Yd->PV D} {X:Nat->Prop} {B:Bt D} {m n:Nat}
variable (hρ:OpdR V μ H (MX X μ B) T ρ) (hr:HR V X μ B m H n)
include hρ
omit hρ in
theorem z6Q {P':Prop}{r:OpR D}{v:PV D}(h:Got r v)(hr:(∃ s w,r = .ld s w)\/(∃ i b,r = .wr i b)\/(∃ c i b,r = .ap c i b)\/(∃ b f,r = .mk b f)\/r = .bad):P':=by
  rcases hr with ⟨s,w,rfl⟩ | ⟨i,b,rfl⟩ | ⟨c,i,b,rfl⟩ | ⟨b,f,rfl⟩ | rfl <;> rcases h with h | h <;> cases h
omit hρ in
theorem y6Z (k:Nat)(agg:Bool)(p:PV D):(∃ s w,ldR B k agg p = .ld s w)\/ldR B k agg p = .bad:=by
  unfold ldR;split
  . split
    . cases z6G agg _ k _ with
      | none=>exact .inr rfl
      | some v=>exact .inl ⟨_,_,rfl⟩
    . exact .inr rfl
  . split
    . cases agg
      . exact .inl ⟨_,_,rfl⟩
      . exact .inr rfl
    . exact .inr rfl
  . split
    . generalize cond agg false (Nat.beq _ _)=c;cases c
      . exact .inr rfl
      . exact .inl ⟨_,_,rfl⟩
    . exact .inr rfl
  . exact .inr rfl
omit hρ in
theorem y2A (k:Nat)(v p:PV D):(∃ i b,stR B k v p = .wr i b)\/stR B k v p = .bad:=by
  unfold stR;split
  . split
    . cases cond (Nat.beq (x3K v).length k) (x5X (x3K v)) false with
      | false=>exact .inr rfl
      | true =>
        rw [cond_true];cases setP _ _ (x3K v) with
        | none=>exact .inr rfl
        | some l=>exact .inl ⟨_,_,rfl⟩
    . exact .inr rfl
  . split
    . cases cond (ikeq _ _) (Nat.beq k 1) false with
      | false=>exact .inr rfl
      | true=>exact .inl ⟨_,_,rfl⟩
    . exact .inr rfl
  . exact .inr rfl
omit hρ in
theorem x9V (e:Nat)(p q:PV D):(∃ ck i b,appR B e p q = .ap ck i b)\/appR B e p q = .bad:=by
  unfold appR;split
  . split
    . exact .inl ⟨_,_,_,rfl⟩
    . exact .inr rfl
  . split
    . cases cond (ikeq _ _) (cond (Nat.beq _ e) _ false) false with
      | false=>exact .inr rfl
      | true=>exact .inl ⟨_,_,_,rfl⟩
    . exact .inr rfl
  . exact .inr rfl
include hr
theorem z2B {q:YOp}(hc:x1Z P o.op=some q){v:PV D}(h:Got (opR B ρ q) v):ValR P o T V μ H (MX X μ B) v:=by
  unfold x1Z at hc;split at hc
  . rename_i x ho;obtain ⟨a,ha,rfl⟩:=x0G hc;exact mv_got hρ ha (fun H2 n2=>by unfold x0N;rw [ho]) h
  . rename_i x ho;obtain ⟨a,ha,rfl⟩:=x0G hc;exact mv_got hρ ha (fun H2 n2=>by unfold x0N;rw [ho]) h
  . rename_i x ho;obtain ⟨a,ha,rfl⟩:=x0G hc;exact v3M hρ ho ha h
  . obtain ⟨_,_,h1⟩:=x0A hc;obtain ⟨_,_,h2⟩:=x0A h1;obtain ⟨_,_,rfl⟩:=x0C h2;exact (x0L h).elim
  . rename_i ho;exact bin_got hρ ho hc h
  . rename_i ho;exact un_got hρ ho (.inl ⟨rfl,hc⟩) h
  . rename_i ho;exact un_got hρ ho (.inr ⟨rfl,hc⟩) h
  . rename_i ho;exact conv_got hρ ho hc h
  . rename_i ho;split at hc
    . rename_i hu;exact sidx_got hρ ho hu hc h
    . rename_i hu;exact aidx_got hρ ho hu hc h
    . cases hc
  . rename_i ho;exact ssl_got hρ ho hc h
  . rename_i b args ts ho;unfold x1D at hc;split at hc
    . rename_i ha ht;split at hc
      . rename_i hu;exact slen_got hρ ho ha ht hu hc h
      . rename_i hu;exact llen_got hρ hr ho ha ht hu hc h
      . cases hc
    . rename_i ha;exact mx_got (isMax:=true) hρ ho ha hc h
    . rename_i ha;exact mx_got (isMax:=false) hρ ho ha hc h
    . obtain ⟨_,_,h1⟩:=x0A hc;obtain ⟨_,_,h2⟩:=x0A h1;obtain ⟨_,_,h3⟩:=x0A h2;obtain ⟨_,_,h4⟩:=x0A h3;obtain ⟨a,b,_,_,rfl⟩:=x0V h4;exact z6Q h (by
        rcases x9V (B:=B) _ (ρ a) (ρ b) with ⟨c,i,b',h⟩ | h
        . exact .inr (.inr (.inl ⟨c,i,b',h⟩))
        . exact .inr (.inr (.inr (.inr h))))
    . cases hc
  . obtain ⟨a,_,rfl⟩:=x0C hc;exact (x0L h).elim
  . obtain ⟨a,_,rfl⟩:=x0C hc;exact (x0L h).elim
  . obtain ⟨a,ha,rfl⟩:=x0G hc;have h:Got (cond (y4D (ρ a)) (.mk (z8X _ (ρ a)) (fun i=> .lptr i 0)) .bad) v:=h;obtain ⟨_,h⟩:=z3H h;exact z6Q h (.inr (.inr (.inr (.inl ⟨_,_,rfl⟩))))
  . unfold yAlloc at hc;obtain ⟨z,h1,h2⟩:=x0A hc;obtain ⟨cs,h3,h4⟩:=x0A h2;cases aE:x2A P _ <;> rw [aE] at h4
    . cases h4;exact z6Q h (by simp [opR])
    . rw [cond_true] at h4;split at h4
      . obtain ⟨l,_,rfl⟩:=x0C h4;exact z6Q h (by simp [opR])
      . cases h4;exact z6Q h (by simp [opR])
      . cases h4
  . rename_i ho;exact v6D hρ ho hc h
  . rename_i ho;exact fld_got hρ ho hc h
  . obtain ⟨_,_,h1⟩:=x0A hc;obtain ⟨k,_,h2⟩:=x0A h1;obtain ⟨a,_,rfl⟩:=x0G h2;exact z6Q h (by
      rcases y6Z (B:=B) k _ (ρ a) with ⟨i,b',h⟩ | h
      . exact .inl ⟨i,b',h⟩
      . exact .inr (.inr (.inr (.inr h))))
  . obtain ⟨k,_,h2⟩:=x0A hc;obtain ⟨a,b,_,_,rfl⟩:=x0V h2;exact z6Q h (by
      rcases y2A (B:=B) k (ρ b) (ρ a) with ⟨i,b',h⟩ | h
      . exact .inr (.inl ⟨i,b',h⟩)
      . exact .inr (.inr (.inr (.inr h))))
  . rename_i ho;exact bld_got hρ ho hc h
  . unfold x1E at hc;obtain ⟨_,_,h1⟩:=x0A hc;obtain ⟨_,_,h2⟩:=x0A h1;obtain ⟨_,_,h3⟩:=x0A h2;obtain ⟨_,h4⟩:=x0B h3;cases h4;have h:Got (Option.casesOn (motive:=fun _=>OpR D) _ .bad _) v:=h;obtain ⟨l,_,h6⟩:=y7M h;exact z6Q h6 (by simp)
  . rename_i ho;unfold yIaddr at hc;split at hc
    . rename_i N e hu;obtain ⟨h1,h2⟩:=x0B hc;refine v7V hρ hr ho hu ?_ h2 h;split at h1
      . rename_i s hs;rw [hs,x0U h1]
      . cases h1
    . rename_i e hu;obtain ⟨h1,h2⟩:=x0B hc;refine v5V hρ hr ho hu ?_ h2 h;split at h1
      . rename_i s hs;rw [hs,x0U h1]
      . cases h1
    . cases hc
  . rename_i ho;exact ext_got hρ ho hc h
  . split at hc
    . obtain ⟨a,_,rfl⟩:=x0G hc;exact (x0L h).elim
    . cases hc
  . obtain ⟨a,_,rfl⟩:=x0G hc;exact (x0L h).elim
  . obtain ⟨_,h1⟩:=x0B hc;obtain ⟨_,_,h2⟩:=x0A h1;obtain ⟨_,_,h3⟩:=x0A h2;obtain ⟨a,_,rfl⟩:=x0G h3;exact (x0L h).elim
  . cases hc
end
end Go.Yec
