/-
  THE EXECUTOR: control. What a run of the executor's says of the model's: the predicates, and regions in the order of the text.;THE EXECUTOR: code, calls, the range over a function.;THE EXECUTOR: the range over a function: the statement, a round.
-/
import Derived.Test.YtadehgdfijjikaaGreatDoorX3
import Derived.RangeFuncLeaves
import Derived.OrdersIn
import Derived.LoopNIn
set_option linter.all false
namespace Go.Xec
open Go
variable [GT]
def fen (ro:Option Nat):Fence:= { Fence.wide with round:=ro }
@[simp] theorem fen_fn (ro:Option Nat) (f:FuncId):(fen ro).fn f=True:=rfl
@[simp] theorem fen_depth (ro:Option Nat):(fen ro).depth=none:=rfl
@[simp] theorem fen_round (ro:Option Nat):(fen ro).round=ro:=rfl
def exOf:Ex->Exit
  | .normal=> .normal
  | .exit id=> .exit id
  | .ret=> .ret
  | .goto l=> .goto l
def NoneOut (H:Hp)(n:Nat)(H':Hp)(n':Nat):Prop:=n <= n'/\∀ i,(i<n\/n' <= i)->hget H i=none->hget H' i=none
theorem NoneOut.refl (H:Hp)(n:Nat):NoneOut H n H n:=⟨Nat.le_refl _,fun _ _ h=>h⟩
theorem NoneOut.trans {H H' H'':Hp}{n n' n'':Nat}(h1:NoneOut H n H' n')(h2:NoneOut H' n' H'' n''):NoneOut H n H'' n'' :=
  ⟨Nat.le_trans h1.1 h2.1,fun i hi h0=>h2.2 i (by have:=h1.1;have:=h2.1;omega) (h1.2 i (by have:=h1.1;have:=h2.1;omega) h0)⟩
def mark1 (r:Nat):Deferred:= { target:= .collected r,args:= #[] }
def Mk (β:Bm)(G:Gp)(w:World)(lo n:Nat)(ds:List Deferred):Prop :=
  lo <= n/\∃ ids:List (Nat×(Nat×Nat)),ds=ids.map (fun x=>mark1 x.2.1)/\(∀ x∈ids,lo <= x.1/\x.1<n/\β x.1=some x.2/\G x.1=some .defd/\w.heap[x.2.1]? = some (.deferred (some [])))/\(ids.map (·.1)).Nodup
theorem Mk.nil {β:Bm}{G:Gp}{w:World}{lo n:Nat}(h:lo <= n):Mk β G w lo n []:=⟨h,[],rfl,(fun _ h=>by cases h),List.nodup_nil⟩
theorem Mk.ext {P:Program}{β γ:Bm}{G G':Gp}{w w':World}{lo n n':Nat}{ds:List Deferred}(h:Mk β G w lo n ds)(e:Ext P β G n w γ G' n' w')(hf:Fresh β n n')(aV:n <= n'):Mk γ G' w' lo n' ds:=by
  obtain ⟨h0,ids,h1,h2,h3⟩:=h;exact ⟨Nat.le_trans h0 aV,ids,h1,fun x hx=>by
    obtain ⟨a1,a2,a3,a4,a5⟩:=h2 x hx;exact ⟨a1,by omega,e.le hf _ _ a3,e.keep _ a4,by rw [e.kept _ _ a4 a3];exact a5⟩,h3⟩
def RdR (β:Bm):Option Nat->Option Nat->Prop
  | none,none=>True
  | some l,some m=> ∃ q, β l=some q/\q.1=m
  | _,_=>False
theorem RdR.mono {β γ:Bm}{rd ro:Option Nat}(h:RdR β rd ro)(hb:∀ i c, β i=some c->γ i=some c):RdR γ rd ro:=by
  cases rd <;> cases ro <;> first | exact h | (obtain ⟨q,h1,h2⟩:=h;exact ⟨q,hb _ _ h1,h2⟩)
structure Pst (P:Program) (β:Bm) (G:Gp) (n:Nat) (w:World) (lo sz:Nat) (T':Tm) (H':Hp) (n':Nat) (γ:Bm) (a':Act) (w':World):Prop where
  ext:Ext P β G n w γ (hget H') n' w'
  tr:TR γ T' a'.tmps
  sz:a'.tmps.size=sz
  mks:Mk γ (hget H') w' lo n' a'.defers
def WpX (P:Program)(m:Nat)(F:Fence)(c:Code)(Q:Exit->Act->World->Prop)(a:Act)(w:World):Prop:=match c with
  | .loop b=>Code.roundsIn F 0 P b Q m a w
  | c=>c.wpIn F 0 P Q a w
theorem WpX.wp {P:Program}{m:Nat}{F:Fence}{c:Code}{Q:Exit->Act->World->Prop}{a:Act}{w:World}(h:WpX P m F c Q a w):c.wpIn F 0 P Q a w:=by
  cases c <;> first | exact h | exact wpIn_loop_rounds m h
def CodeS (P:Program)(rd:Option Nat)(sz:Nat)(c:Code)(T:Tm)(H:Hp)(n:Nat)(ex:Ex)(T':Tm)(H':Hp)(n':Nat):Prop :=
  NoneOut H n H' n'/\∃ m, ∀ (β:Bm) (w:World) (a:Act) (ro:Option Nat) (lo:Nat) (Q:Exit->Act->World->Prop),TR β T a.tmps->a.tmps.size=sz->WR P β (hget H) w->Fresh β n n'->RdR β rd ro->Mk β (hget H) w lo n a.defers ->
    (∀ γ a' w',Pst P β (hget H) n w lo sz T' H' n' γ a' w'->Q (exOf ex) a' w')->WpX P m (fen ro) c Q a w
def RetS (P:Program)(β:Bm)(G:Gp)(n:Nat)(w:World)(v:Value)(H':Hp)(n':Nat)(e:Ending)(w':World):Prop :=
  ∃ c γ, e = .returned c/\VR γ v c/\Ext P β G n w γ (hget H') n' w'
def v0Y (P:Program)(f:FuncId)(args:List Value)(H:Hp)(n:Nat)(v:Value)(H':Hp)(n':Nat):Prop :=
  NoneOut H n H' n'/\(∃ fn c,P.funcs[f]? = some fn/\fn.body=some c)/\∀ (β:Bm) (w:World) (cs:List Value),VL β args cs->WR P β (hget H) w->Fresh β n n' ->
    CallsIn Fence.wide 0 P f cs.toArray w (RetS P β (hget H) n w v H' n')
def YieldS (P:Program)(l:Nat)(args:List Value)(H:Hp)(n:Nat)(v:Value)(H':Hp)(n':Nat):Prop :=
  NoneOut H n H' n'/\∀ (β:Bm) (w:World) (cs:List Value) (q:Nat×Nat), β l=some q->VL β args cs->WR P β (hget H) w->Fresh β n n' ->
    ∃ f tmps assign body,(Instr.yield q.1 cs.toArray).run P w = .ok (.round q.1 f tmps assign body) w/\RoundIn Fence.wide 0 P q.1 f tmps assign body w (RetS P β (hget H) n w v H' n')
def x6W (P:Program):Task->Hp->Nat->R->Prop
  | .code rd _ sz c T,H,n, .ok ex T' H' n'=>CodeS P rd sz c T H n ex T' H' n'
  | .call f args,H,n, .ok _ T' H' n'=>v0Y P f args H n (tget T' 0) H' n'
  | .yield l args,H,n, .ok _ T' H' n'=>YieldS P l args H n (tget T' 0) H' n'
  | _,_,_, .bad=>True
def x3M (P:Program):Prop:= ∀ (f:FuncId) (fn:Func),P.funcs[f]? = some fn->(fn.name == "runtime.NumGoroutine")=false
section
variable {P:Program} {self:Task->Hp->Nat->R}
theorem y9B:∀ {l:List Operand}, x5Y l=true->∀ x∈l,okX x=true
  | [],_,_,hx=>by cases hx
  | y::l,h,x,hx=>by
    have h':cond (okX y) (x5Y l) false=true:=h;obtain ⟨h1,h2⟩:=x0D h';rcases List.mem_cons.1 hx with rfl | hx
    . exact h1
    . exact y9B h2 x hx
theorem z7N {β:Bm}{T:Tm}{a:Act}{x:Operand}(hT:∀ t,x = .tmp t->VR β (tget T t) (a.tmps.getD t undef))(hx:okX x=true):VR β (ev T x) (a.eval x):=by
  cases x with
  | tmp t=>exact hT t rfl
  | const v=>exact x5N hx
  | global g=>cases hx
  | func f=>exact .func f #[] #[] #[] #[] .nil .nil
def StepS (P:Program)(all:List Oper)(o:Oper)(T:Tm)(H:Hp)(n:Nat)(v:Value)(H':Hp)(n':Nat):Prop :=
  NoneOut H n H' n'/\∀ (β:Bm) (w:World) (a:Act) (ro:Option Nat) (K:Act->World->Prop) (Q:Exit->Act->World->Prop) (ops:Array Oper) (i:Nat),ops.toList=all->ops[i]? = some o ->
    (∀ t∈looks all o,VR β (tget T t) (a.tmps.getD t undef))->WR P β (hget H) w->Fresh β n n' ->
    (∀ γ c w',VR γ v c->Ext P β (hget H) n w γ (hget H') n' w'->K (a.put o.dst c) w')->wpOpIn (fen ro) 0 P ops Q i K a w
theorem z5L {all:List Oper}{o:Oper}{t:Tmp}(h:(.tmp t:Operand)∈o.op.operands):t∈looks all o:=by
  unfold looks;exact List.mem_append_right _ (List.mem_filterMap.2 ⟨.tmp t,by simpa using h,rfl⟩)
def KS (P:Program)(o:Oper)(T:Tm)(H:Hp)(n:Nat)(v:Value)(H':Hp)(n':Nat):Prop :=
  NoneOut H n H' n'/\∀ (β:Bm) (w:World) (a:Act) (ro:Option Nat) (K:Act->World->Prop) (Q:Exit->Act->World->Prop),
    (∀ t,(.tmp t:Operand)∈o.op.operands->VR β (tget T t) (a.tmps.getD t undef))->WR P β (hget H) w->Fresh β n n' ->
    (∀ γ c w',VR γ v c->Ext P β (hget H) n w γ (hget H') n' w'->K (a.put o.dst c) w')->o.wpIn (fen ro) 0 P a w K Q
theorem op_KS {o:Oper}{T:Tm}{H H':Hp}{n n':Nat}{v:Value}(hx:x5Y o.op.operands.toList=true)(h:(x0N P o).f T H n = .ok v H' n'):KS P o T H n v H' n':=by
  obtain ⟨h1,h2,h3⟩:=op_sound h;refine ⟨⟨h1,h2⟩,fun β w a ro K Q hT hW hf hK=>?_⟩;obtain ⟨r,c,w', γ, r1,r2,r3,r4⟩:=h3 β w a.eval (fun x hm=>z7N (fun t ht=>hT t (ht▸hm)) (y9B hx x (by simpa using hm))) hW hf
  refine ⟨fun _ _=>trivial, ?_⟩;have bM:∀ c,o.op ≠ .defer c:=fun c hc=>by
    have:x0N P o=z3Y:=by unfold x0N;rw [hc]
    rw [this] at h;cases h
  rw [Oper.semAt_eq _ _ _ bM,r1];cases r with
  | value u=>cases r2;exact hK γ _ w' r3 r4
  | skip=>cases r2;exact hK γ _ w' r3 r4
  | _=>cases r2
theorem u7B {β:Bm}{T:Tm}{a:Act}:∀ (l:List Operand),(∀ x∈l,VR β (ev T x) (a.eval x))->VL β (l.map (ev T)) (l.map a.eval)
  | [],_=> .nil
  | x::l,h=> .cons (h x (by simp)) (u7B l fun y hy=>h y (by simp [hy]))
theorem call_KS (hN:x3M P)(ah:∀ t H n,x6W P t H n (self t H n)){o:Oper}{f:Operand}{args:Array Operand}{ts:Array TypeId}(ho:o.op = .call { callee:= .value f,args,argTypes:=ts }){T:Tm}{H H':Hp}{n n':Nat}{v:Value}
    (hf:okX f=true) (ha:x5Y args.toList=true) (h:y4J self H n (args.toList.map (ev T)) (ev T f) = .ok v H' n'):KS P o T H n v H' n':=by
  have bM:∀ c,o.op ≠ .defer c:=fun c=>by rw [ho];simp
  have hrel:∀ (β:Bm) (a:Act),(∀ t,(.tmp t:Operand)∈o.op.operands->VR β (tget T t) (a.tmps.getD t undef))->VR β (ev T f) (a.eval f)/\VL β (args.toList.map (ev T)) (args.toList.map a.eval):=fun β a hT =>
    ⟨z7N (fun t ht=>hT t (by subst ht;simp [ho,Op.operands,Call.operands])) hf,u7B _ fun x hx=>z7N (fun t ht=>hT t (by subst ht;simp only [ho,Op.operands,Call.operands];exact Array.mem_append.2 (.inr (by simpa using hx)))) (y9B ha x hx)⟩
  unfold y4J at h;split at h
  . rename_i g first cap hv
    have hs:=ah (.call g (first.toList++args.toList.map (ev T)++cap.toList)) H n
    unfold y3K at h;split at h
    . rename_i ex T2 H2 n2 hr;cases h;rw [hr] at hs;obtain ⟨s1,⟨fn,c,s2,s3⟩,s4⟩:=hs;refine ⟨s1,fun β w a ro K Q hT hW dk hK=>?_⟩;obtain ⟨r1,r2⟩:=hrel β a hT;rw [hv] at r1;generalize hρ:a.eval f=X at r1;cases r1 with
      | func _ _ _ first' cap' k1 k2 =>
        have aq:=s4 β w (first'.toList++args.toList.map a.eval++cap'.toList) ((k1.append r2).append k2) hW dk
        refine ⟨fun _ _=>trivial, ?_⟩;rw [Oper.semAt_eq _ _ _ bM];have hb:fn.body.isNone=false:=by rw [s3];rfl
        have bg:(execOp a.eval o).run P w = .ok (.enter g (first'.toList++args.toList.map a.eval++cap'.toList).toArray) w:=by
          have he:(first'++args.map a.eval++cap':Array Value)=(first'.toList++args.toList.map a.eval++cap'.toList).toArray:=by
            apply Array.ext';simp
          simp only [execOp,ho,resolve,hρ, Deferred.ofValue,Sem.run_bind,Sem.run_pure,Result.andThen_ok,invoke,callFunc,run_program,s2,hN g fn s2,Bool.false_eq_true,if_false,hb,he]
        rw [bg,Oper.uponIn_enter];refine ⟨fun h=>by simp at h, ?_⟩
        refine CallsIn.mono (F:=fen ro) aq ?_;rintro e w' ⟨cc, γ, rfl,q1,q2⟩;exact hK γ cc w' q1 q2
    . cases h
  . rename_i l _ _ hv;have hs:=ah (.yield l (args.toList.map (ev T))) H n;unfold y3K at h;split at h
    . rename_i ex T2 H2 n2 hr;cases h;rw [hr] at hs;obtain ⟨s1,s4⟩:=hs;refine ⟨s1,fun β w a ro K Q hT hW dk hK=>?_⟩;obtain ⟨r1,r2⟩:=hrel β a hT;rw [hv] at r1;generalize hρ:a.eval f=X at r1;cases r1 with
      | yield _ q k1 =>
        obtain ⟨f',tmps,assign,body,y1,y2⟩:=s4 β w _ q k1 r2 hW dk;refine ⟨fun _ _=>trivial, ?_⟩;rw [Oper.semAt_eq _ _ _ bM];have bg:(execOp a.eval o).run P w = .ok (.round q.1 f' tmps assign body) w:=by
          simp only [execOp,ho,resolve,hρ, Deferred.ofValue,Sem.run_bind,Sem.run_pure,Result.andThen_ok,invoke];rw [<- y1];congr 2;apply Array.ext';simp
        rw [bg,Oper.uponIn_round];refine ⟨fun h=>by simp at h, ?_⟩
        refine RoundIn.mono (F:=fen ro) y2 ?_;rintro e w' ⟨cc, γ, rfl,q1,q2⟩;exact hK γ cc w' q1 q2
    . cases h
  . cases h
theorem y5T (hN:x3M P)(ah:∀ t H n,x6W P t H n (self t H n)){o:Oper}{T:Tm}{H H':Hp}{n n':Nat}{v:Value}(h:y4B self T H n (x6B P o) = .ok v H' n'):KS P o T H n v H' n':=by
  unfold x6B at h;split at h
  . rename_i f args ts ho;cases hc:cond (okX f) (x5Y args.toList) false with
    | false=>rw [hc] at h;cases h
    | true =>
      rw [hc,cond_true] at h;obtain ⟨c1,c2⟩:=x0D hc;exact call_KS hN ah ho c1 c2 h
  . cases hc:x5Y o.op.operands.toList with
    | false=>rw [hc] at h;cases h
    | true=>rw [hc,cond_true] at h;exact op_KS hc h
theorem y5P {β:Bm}{T:Tm}{a:Act}{ops:Array Oper}{all:List Oper}(ay:ops.toList=all){o:Oper}{j:Nat}{want:Bool}{t:Tmp}(hg:o.guard=some (j,want))(ht:(lget all j).bind (·.dst)=some t)(hT:VR β (tget T t) (a.tmps.getD t undef)) :
    Region.wanted o (yielded ops a.tmps)=(match tget T t with | .bool b=>cond want b (!b) | _=>false):=by
  have e:((ops[j]?).bind (·.dst))=some t:=by rw [<- Array.getElem?_toList,ay, <- lget_eq];exact ht
  unfold Region.wanted;rw [hg];simp only [yielded,e,Option.bind_some]
  by_cases ai:t<a.tmps.size
  . have h1:a.tmps[t]? = some (a.tmps.getD t undef):=by simp [ai]
    rw [h1];generalize tget T t=X at hT;generalize a.tmps.getD t undef=Y at hT;cases hT <;> first | rfl | (rename_i b;cases b <;> cases want <;> rfl)
  . have h1:a.tmps[t]? = none:=Array.getElem?_eq_none (Nat.le_of_not_lt ai);have h2:a.tmps.getD t undef=undef:=by simp [Array.getD,ai]
    rw [h1];rw [h2] at hT;generalize tget T t=X at hT;have:undef = .tuple #[]:=rfl;rw [this] at hT;cases hT;rfl
theorem x2W (hN:x3M P)(ah:∀ t H n,x6W P t H n (self t H n)){sz:Nat}{all:List Oper}{o:Oper}{T:Tm}{H H':Hp}{n n':Nat}{v:Value}(h:x3P self T H n (compI P sz all o) = .ok v H' n') :
    StepS P all o T H n v H' n'/\(compI P sz all o).dst=o.dst/\(∀ d,o.dst=some d->d<sz):=by
  unfold compI at h |-
  cases hd:y9V sz o.dst with
  | false=>rw [hd] at h;cases h
  | true =>
    rw [hd,cond_true] at h;rw [cond_true];have cH:∀ d,o.dst=some d->d<sz:=fun d e=>by rw [e] at hd;exact x1H hd
    have dead:∀ {v:Value} {H':Hp} {n':Nat}, x3P self T H n ⟨none,o.dst, .bad⟩ = .ok v H' n'->False:=fun h=>by cases h
    split at h
    . rename_i hg;refine ⟨?_,rfl,cH⟩;obtain ⟨s1,s2⟩:=y5T hN ah (o:=o) (T:=T) (H:=H) (n:=n) h;refine ⟨s1,fun β w a ro K Q ops i ay hi hT hW hf hK=>?_⟩;unfold wpOpIn;simp only [hi];have hw:Region.wanted o (yielded ops a.tmps)=true:=by unfold Region.wanted;rw [hg]
      rw [if_pos hw];exact s2 β w a ro K Q (fun t ht=>hT t (z5L ht)) hW hf hK
    . rename_i j want hg;split at h
      . rename_i t ht;refine ⟨?_,rfl,cH⟩;have j9:t∈looks all o:=by unfold looks;rw [hg];exact List.mem_append_left _ (by simp [ht])
        have h:(match tget T t with | .bool b=>cond (cond want b (!b)) (y4B self T H n (x6B P o)) (.ok undef H n) | _=> .ok undef H n) = .ok v H' n':=h
        have skip:(∀ (β:Bm) (a:Act) (ops:Array Oper),ops.toList=all->VR β (tget T t) (a.tmps.getD t undef)->Region.wanted o (yielded ops a.tmps)=false)->StepS P all o T H n undef H n:=fun hw =>
          ⟨NoneOut.refl _ _,fun β w a ro K Q ops i ay hi hT hW hf hK=>by
            unfold wpOpIn;simp only [hi];rw [if_neg (by rw [hw β a ops ay (hT t j9)];simp)]
            exact ⟨fun _ _=>trivial,hK β undef w (y5R β) (Ext.refl hW)⟩⟩
        split at h
        . rename_i b hb;cases hc:cond want b (!b) with
          | true =>
            rw [hc,cond_true] at h;obtain ⟨s1,s2⟩:=y5T hN ah (o:=o) (T:=T) (H:=H) (n:=n) h;refine ⟨s1,fun β w a ro K Q ops i ay hi hT hW hf hK=>?_⟩;unfold wpOpIn;simp only [hi];rw [if_pos (by rw [y5P ay hg ht (hT t j9),hb];exact hc)]
            exact s2 β w a ro K Q (fun t ht=>hT t (z5L ht)) hW hf hK
          | false =>
            rw [hc,cond_false] at h;cases h;exact skip fun β a ops ay hT=>by rw [y5P ay hg ht hT,hb];exact hc
        . rename_i ac;cases h;refine skip fun β a ops ay hT=>?_;rw [y5P ay hg ht hT];split
          . rename_i b hb;exact absurd hb (ac b)
          . rfl
      . exact (dead h).elim
theorem put_tr {β:Bm}{T:Tm}{a:Act}{d:Option Tmp}{v c:Value}{sz:Nat}(h:TR β T a.tmps)(hs:a.tmps.size=sz)(hd:∀ t,d=some t->t<sz)(hv:VR β v c):TR β (put T d v) (a.put d c).tmps/\(a.put d c).tmps.size=sz/\(a.put d c).defers=a.defers:=by
  cases d with
  | none=>exact ⟨h,hs,rfl⟩
  | some t=>exact ⟨h.set (by rw [hs];exact hd t rfl) hv,by simp [Act.put,hs],rfl⟩
theorem y6B (sz:Nat)(all:List Oper)(o:Oper)(rest:List Oper)(T:Tm)(H:Hp)(n:Nat):y6C P self sz all (o::rest) T H n=nextO (compI P sz all o).dst T (y6C P self sz all rest) (x3P self T H n (compI P sz all o)):=rfl
theorem y3C (hN:x3M P)(ah:∀ t H n,x6W P t H n (self t H n)){sz:Nat}{all:List Oper}{ops:Array Oper}(ay:ops.toList=all):∀ (rest pre:List Oper) (T:Tm) (H:Hp) (n:Nat) (ex:Ex) (T':Tm) (H':Hp) (n':Nat),all=pre++rest ->
    y6C P self sz all rest T H n = .ok ex T' H' n'->ex = .normal/\NoneOut H n H' n'/\∀ (β:Bm) (w:World) (a:Act) (ro:Option Nat) (lo:Nat) (Q:Exit->Act->World->Prop),TR β T a.tmps->a.tmps.size=sz->WR P β (hget H) w->Fresh β n n'->Mk β (hget H) w lo n a.defers ->
      (∀ γ a' w',Pst P β (hget H) n w lo sz T' H' n' γ a' w'->Q .normal a' w')->wpOpsIn (fen ro) 0 P ops Q (List.range' pre.length rest.length) a w
  | [],pre,T,H,n,ex,T',H',n',_,h=>by
    cases h;refine ⟨rfl,NoneOut.refl _ _,fun β w a ro lo Q hT hs hW _ hM hQ=>?_⟩;exact hQ β a w ⟨Ext.refl hW,hT,hs,hM⟩
  | o::rest,pre,T,H,n,ex,T',H',n',hp,h=>by
    rw [y6B] at h;cases aN:x3P self T H n (compI P sz all o) with
    | bad=>rw [aN] at h;cases h
    | ok v H1 n1 =>
      rw [aN] at h;obtain ⟨⟨s1,s2⟩,s3,s4⟩:=x2W hN ah aN;have h:y6C P self sz all rest (put T (compI P sz all o).dst v) H1 n1 = .ok ex T' H' n':=h;rw [s3] at h;obtain ⟨i1,i2,i3⟩:=y3C hN ah ay rest (pre++[o]) _ _ _ ex T' H' n' (by rw [hp];simp) h
      refine ⟨i1,s1.trans i2,fun β w a ro lo Q hT hs hW hf hM hQ=>?_⟩;have hi:ops[pre.length]? = some o:=by rw [<- Array.getElem?_toList,ay,hp];simp
      have fZ:Fresh β n n1:=fun i h1 h2=>hf i h1 (by have:=i2.1;omega)
      rw [List.length_cons,List.range'_succ,wpOpsIn_cons];refine s2 β w a ro _ Q ops pre.length ay hi (fun t _=>hT t) hW fZ fun γ c w1 hv he=>?_;obtain ⟨p1,p2,p3⟩:=put_tr (hT.mono (he.le fZ)) hs s4 hv;have oK:Fresh γ n1 n':=fun i h1 h2=>by rw [he.same i (.inr h1)];exact hf i (by have:=s1.1;omega) h2
      have:=i3 γ w1 (a.put o.dst c) ro lo Q p1 p2 he.wr oK (by rw [p3];exact hM.ext he fZ s1.1) fun δ a' w' fv=>hQ δ a' w' ⟨he.trans fv.ext s1.1 i2.1 hf,fv.tr,fv.sz,fv.mks⟩
      simpa using this
end
variable [GT]
section
variable {P:Program} {self:Task->Hp->Nat->R}
theorem Pst.trans {β γ δ:Bm}{G:Gp}{n n1 n' lo sz:Nat}{w w1 w':World}{T1 T':Tm}{H1 H':Hp}{a1 a':Act}(h1:Pst P β G n w lo sz T1 H1 n1 γ a1 w1)(h2:Pst P γ (hget H1) n1 w1 lo sz T' H' n' δ a' w')(l1:n <= n1)(l2:n1 <= n')(hf:Fresh β n n') :
    Pst P β G n w lo sz T' H' n' δ a' w':=⟨h1.ext.trans h2.ext l1 l2 hf,h2.tr,h2.sz,h2.mks⟩
theorem Fresh.left {β:Bm}{n n1 n':Nat}(h:Fresh β n n')(l:n1 <= n'):Fresh β n n1:=fun i a b=>h i a (by omega)
theorem Fresh.right {β γ:Bm}{G:Gp}{n n1 n':Nat}{w w1:World}{H1:Hp}(h:Fresh β n n')(e:Ext P β G n w γ (hget H1) n1 w1)(l:n <= n1):Fresh γ n1 n':=fun i a b=>by rw [e.same i (.inr a)];exact h i (by omega) b
theorem CodeS.mk' {rd:Option Nat}{sz:Nat}{c:Code}{T T':Tm}{H H':Hp}{n n':Nat}{ex:Ex}(hc:∀ b,c ≠ .loop b)(h1:NoneOut H n H' n')
    (h:∀ (β:Bm) (w:World) (a:Act) (ro:Option Nat) (lo:Nat) (Q:Exit->Act->World->Prop),TR β T a.tmps->a.tmps.size=sz->WR P β (hget H) w->Fresh β n n'->RdR β rd ro->Mk β (hget H) w lo n a.defers ->
      (∀ γ a' w',Pst P β (hget H) n w lo sz T' H' n' γ a' w'->Q (exOf ex) a' w')->c.wpIn (fen ro) 0 P Q a w):CodeS P rd sz c T H n ex T' H' n' :=
  ⟨h1, 0,fun β w a ro lo Q x1 x2 x3 x4 x5 x6 x7=>by
    have:=h β w a ro lo Q x1 x2 x3 x4 x5 x6 x7
    cases c <;> first | exact this | exact absurd rfl (hc _)⟩
theorem CodeS.stay {rd:Option Nat}{sz:Nat}{c:Code}{T:Tm}{H:Hp}{n:Nat}{ex:Ex}(hc:∀ b,c ≠ .loop b)(h:∀ (ro:Option Nat) (Q:Exit->Act->World->Prop) (a:Act) (w:World),Q (exOf ex) a w->c.wpIn (fen ro) 0 P Q a w):CodeS P rd sz c T H n ex T H n :=
  CodeS.mk' hc (NoneOut.refl _ _) fun β w a ro _ Q hT hs hW _ _ hM hQ=>h ro Q a w (hQ β a w ⟨Ext.refl hW,hT,hs,hM⟩)
theorem CodeS.use {rd:Option Nat}{sz:Nat}{c:Code}{T T':Tm}{H H':Hp}{n n':Nat}{ex:Ex}(h:CodeS P rd sz c T H n ex T' H' n'){β:Bm}{w:World}{a:Act}{ro:Option Nat}{lo:Nat}{Q:Exit->Act->World->Prop}(x1:TR β T a.tmps)(x2:a.tmps.size=sz)(x3:WR P β (hget H) w)(x4:Fresh β n n')(x5:RdR β rd ro)(x6:Mk β (hget H) w lo n a.defers)
    (x7:∀ γ a' w',Pst P β (hget H) n w lo sz T' H' n' γ a' w'->Q (exOf ex) a' w'):c.wpIn (fen ro) 0 P Q a w :=
  let ⟨_,h2⟩:=h.2
  (h2 β w a ro lo Q x1 x2 x3 x4 x5 x6 x7).wp
theorem z5R (ah:∀ t H n,x6W P t H n (self t H n)){rd:Option Nat}{fn:FuncId}{sz:Nat}{x y:Code}{T T':Tm}{H H':Hp}{n n':Nat}{ex:Ex}
    (h:seqK self rd fn sz y (self (.code rd fn sz x T) H n) = .ok ex T' H' n') :
    NoneOut H n H' n'/\∃ m, ∀ (β:Bm) (w:World) (a:Act) (ro:Option Nat) (lo:Nat) (Q:Exit->Act->World->Prop),TR β T a.tmps->a.tmps.size=sz->WR P β (hget H) w->Fresh β n n'->RdR β rd ro->Mk β (hget H) w lo n a.defers ->
      (∀ γ a' w',Pst P β (hget H) n w lo sz T' H' n' γ a' w'->Q (exOf ex) a' w')->x.wpIn (fen ro) 0 P (Exit.then (WpX P m (fen ro) y Q) Q) a w:=by
  cases hx:self (.code rd fn sz x T) H n with
  | bad=>rw [hx] at h;cases h
  | ok e1 T1 H1 n1 =>
    rw [hx] at h;have hs:=ah (.code rd fn sz x T) H n;rw [hx] at hs;have hs:CodeS P rd sz x T H n e1 T1 H1 n1:=hs;cases e1 with
    | normal =>
      have h:self (.code rd fn sz y T1) H1 n1 = .ok ex T' H' n':=h;have aW:=ah (.code rd fn sz y T1) H1 n1;rw [h] at aW;have aW:CodeS P rd sz y T1 H1 n1 ex T' H' n':=aW;obtain ⟨m,h2⟩:=aW.2;refine ⟨hs.1.trans aW.1,m,fun β w a ro lo Q hT hz hW hf hr hM hQ=>?_⟩;refine hs.use (lo:=lo) hT hz hW (hf.left aW.1.1) hr hM fun γ a1 w1 hp=>?_;refine h2 γ w1 a1 ro lo Q hp.tr hp.sz hp.ext.wr (hf.right hp.ext hs.1.1) (hr.mono (hp.ext.le (hf.left aW.1.1))) hp.mks fun δ a' w' fv=>?_;exact hQ δ a' w' (hp.trans fv hs.1.1 aW.1.1 hf)
    | exit id=>cases h;exact ⟨hs.1, 0,fun β w a ro lo Q hT hz hW hf hr hM hQ=>hs.use hT hz hW hf hr hM fun γ a' w' hp=>hQ γ a' w' hp⟩
    | ret=>cases h;exact ⟨hs.1, 0,fun β w a ro lo Q hT hz hW hf hr hM hQ=>hs.use hT hz hW hf hr hM fun γ a' w' hp=>hQ γ a' w' hp⟩
    | goto l=>cases h;exact ⟨hs.1, 0,fun β w a ro lo Q hT hz hW hf hr hM hQ=>hs.use hT hz hW hf hr hM fun γ a' w' hp=>hQ γ a' w' hp⟩
theorem u2X (ah:∀ t H n,x6W P t H n (self t H n)){rd:Option Nat}{fn:FuncId}{sz id:Nat}{b:Code}{T T':Tm}{H H':Hp}{n n':Nat}{ex:Ex}
    (h:u6X id (self (.code rd fn sz b T) H n) = .ok ex T' H' n'):CodeS P rd sz (.block id b) T H n ex T' H' n':=by
  cases hx:self (.code rd fn sz b T) H n with
  | bad=>rw [hx] at h;cases h
  | ok e1 T1 H1 n1 =>
    rw [hx] at h;have hs:=ah (.code rd fn sz b T) H n;rw [hx] at hs;have hs:CodeS P rd sz b T H n e1 T1 H1 n1:=hs;have go:∀ e2:Ex,T1=T'->H1=H'->n1=n'->(∀ (Q:Exit->Act->World->Prop) a w,Q (exOf e2) a w->Exit.inBlock id Q (exOf e1) a w)->CodeS P rd sz (.block id b) T H n e2 T' H' n':=fun e2 e3 e4 e5 hq=>by
      subst e3 e4 e5;exact CodeS.mk' (by simp) hs.1 fun β w a ro lo Q hT hz hW hf hr hM hQ=>wpIn_block (hs.use hT hz hW hf hr hM fun γ a' w' hp=>hq Q a' w' (hQ γ a' w' hp))
    cases e1 with
    | normal=>cases h;exact go _ rfl rfl rfl fun Q a w h=>h
    | ret=>cases h;exact go _ rfl rfl rfl fun Q a w h=>h
    | goto l=>cases h;exact go _ rfl rfl rfl fun Q a w h=>h
    | exit i =>
      have h:cond (Nat.beq i id) (R.ok .normal T1 H1 n1) (.ok (.exit i) T1 H1 n1) = .ok ex T' H' n':=h;cases hb:Nat.beq i id with
      | true =>
        rw [hb] at h;cases h;exact go _ rfl rfl rfl fun Q a w h=>by simp only [exOf,Exit.inBlock];rw [if_pos (x0U hb)];exact h
      | false =>
        rw [hb] at h;cases h;exact go _ rfl rfl rfl fun Q a w h=>by
          simp only [exOf,Exit.inBlock];rw [if_neg (fun e=>by rw [x0T e] at hb;cases hb)]
          exact h
theorem x8S {α:Type}{o:Option α}{f:α->R}{ex:Ex}{T:Tm}{H:Hp}{n:Nat}(h:onOR o f = .ok ex T H n):∃ a,o=some a/\f a = .ok ex T H n:=by
  cases o with
  | none=>cases h
  | some a=>exact ⟨a,rfl,h⟩
theorem y1N {b:Bool}{x:R}{ex:Ex}{T:Tm}{H:Hp}{n:Nat}(h:cond b x .bad = .ok ex T H n):b=true/\x = .ok ex T H n:=by
  cases b
  . cases h
  . exact ⟨rfl,h⟩
theorem v0E (ah:∀ t H n,x6W P t H n (self t H n)){rd:Option Nat}{fn:FuncId}{sz:Nat}{c:Operand}{x y:Code}{T T':Tm}{H H':Hp}{n n':Nat}{ex:Ex}(hc:okX c=true)
    (h:v6Z self rd fn sz x y T H n (ev T c) = .ok ex T' H' n'):CodeS P rd sz (.cond c x y) T H n ex T' H' n':=by
  unfold v6Z at h;split at h
  . rename_i t ht;have hs:=ah (.code rd fn sz (cond t x y) T) H n;rw [h] at hs;have hs:CodeS P rd sz (cond t x y) T H n ex T' H' n':=hs;refine CodeS.mk' (by simp) hs.1 fun β w a ro lo Q hT hz hW hf hr hM hQ=>?_
    have e:a.eval c = .bool t:=bool_of (β := β) (ht▸z7N (fun t _=>hT t) hc);refine wpIn_cond e ?_
    have:=hs.use (ro:=ro) (Q:=Q) hT hz hW hf hr hM hQ
    cases t <;> exact this
  . cases h
theorem z0F {w:World}{r:Nat}{o:Obj}(h:w.heap[r]? = some o)(hc:∀ c e f,o ≠ .cells c e f):(getObj r).run P w = .ok o w:=by
  cases o <;> first | (simp only [getObj,Sem.run,h];done) | exact absurd rfl (hc _ _ _)
theorem z0D {w:World}{r:Nat}{o p:Obj}(h:w.heap[r]? = some o)(hc:∀ c e f,o ≠ .cells c e f):(setObj r p).run P w = .ok () { w with heap:=w.heap.setIfInBounds r p } :=by
  cases o <;> first | (simp only [setObj,Sem.run,h];done) | exact absurd rfl (hc _ _ _)
theorem run_take {w:World}{r:Nat}(h:w.heap[r]? = some (.deferred (some []))):(Instr.takeDeferred r).run P w = .ok [] { w with heap:=w.heap.setIfInBounds r (.deferred none) } :=by
  simp only [Instr.takeDeferred,Sem.run_bind,z0F h (by simp),Result.andThen_ok,z0D h (by simp),Sem.run_pure]
theorem Ext.take {β γ:Bm}{G G':Gp}{n n':Nat}{w w':World}(h:Ext P β G n w γ G' n' w')(hf:Fresh β n n'){i:Nat}{q:Nat×Nat}(hi:G' i=some .defd)(hq:γ i=some q)(h0:G i=none) :
    Ext P β G n w γ G' n' { w' with heap:=w'.heap.setIfInBounds q.1 (.deferred none) } :=by
  have oth:∀ b,b≠q.1->(w'.heap.setIfInBounds q.1 (.deferred none))[b]? = w'.heap[b]? :=fun b hb=>by rw [Array.getElem?_setIfInBounds];simp [Ne.symm hb]
  have lt:=h.wr.lt hi hq;refine ⟨h.same,⟨fun j o g=>?_,h.wr.inj,h.wr.glob.frame fun g cs eN _=>oth g fun e=>h.wr.off g cs eN i _ q hi (by simp) hq e.symm,h.wr.off⟩,by simpa using h.size,fun b hb ho=>?_,h.orig,h.keep,fun j b g hb=>?_,h.os,h.out,h.tape⟩
  . obtain ⟨b,x,h1,h2,h3⟩:=h.wr.obj j o g
    by_cases hd:o = .dead
    . subst hd;have hl:b.1<w'.heap.size:=(Array.getElem?_eq_some_iff.1 h2).1;refine ⟨b,(w'.heap.setIfInBounds q.1 (.deferred none))[b.1]'(by simpa using hl),h1,Array.getElem?_eq_getElem _, .dead _⟩
    . by_cases e:b.1=q.1
      . have:=h.wr.inj j i b q o _ g hi hd (by simp) h1 hq e
        subst this;rw [hi] at g;cases g;exact ⟨b, .deferred none,h1,by rw [e];simp [lt], .defd _⟩
      . exact ⟨b,x,h1,by simpa [oth b.1 e] using h2,h3⟩
  . refine (oth b fun e=>?_).trans (h.frame b hb ho);subst e;rcases h.orig i _ q hi (by simp) hq with hh | ⟨j,p,c,q1,q2,q3,q4⟩
    . omega
    . exact ho j p c q1 q2 q3 q4
  . refine (oth b.1 fun e=>?_).trans (h.kept j b g hb)
    have:=h.wr.inj j i b q _ _ (h.keep j g) hi (by simp) (by simp) (h.le hf _ _ hb) hq e
    subst this;rw [h0] at g;cases g
theorem y6Y {β γ:Bm}{G:Gp}{n n':Nat}{w:World}{H':Hp}{fn:Func}{tmps:Array Value}{v:Value}(hf:Fresh β n n')(hG:∀ i,n <= i->i<n'->G i=none)
    (iY:∀ w':World,WR P γ (hget H') w'->∃ c,(results fn tmps).run P w' = .ok c w'/\VR γ v c):∀ (ids:List (Nat×(Nat×Nat))) (w':World),Ext P β G n w γ (hget H') n' w' ->
    (∀ x∈ids,n <= x.1/\x.1<n'/\γ x.1=some x.2/\hget H' x.1=some .defd/\w'.heap[x.2.1]? = some (.deferred (some [])))->(ids.map (·.1)).Nodup ->
    LeavesInM Fence.wide 0 P fn tmps (RetS P β G n w v H' n') (ids.map fun x=>mark1 x.2.1) .returning w'
  | [],w',e,_,_=>by
    obtain ⟨c,h1,h2⟩:=iY w' e.wr;exact ⟨c,h1,c, γ, rfl,h2,e⟩
  | x::ids,w',e,hm,hn=>by
    obtain ⟨a1,a2,a3,a4,a5⟩:=hm x (by simp)
    refine ⟨by simp, .inl ⟨x.2.1,_,rfl,run_take a5, ?_⟩⟩
    refine y6Y hf hG iY ids _ (e.take hf a4 a3 (hG _ a1 a2)) (fun y hy=>?_) (by simp at hn;simpa using hn.2)
    obtain ⟨b1,b2,b3,b4,b5⟩:=hm y (by simp [hy])
    refine ⟨b1,b2,b3,b4, ?_⟩;have ac:y.2.1≠x.2.1:=fun e'=>by
      have:=e.wr.inj y.1 x.1 y.2 x.2 _ _ b4 a4 (by simp) (by simp) b3 a3 e'
      simp at hn;exact hn.1 y.2.1 y.2.2 (by rw [<- this];exact hy)
    simp only;rw [Array.getElem?_setIfInBounds];simp [Ne.symm ac,b5]
theorem y0Z (T:Tm)(H:Hp)(r:ResultVar)(l:List ResultVar):resL P T H (r::l)=(match r with
    | .tmp t=>(resL P T H l).map fun vs=>tget T t::vs
    | .cell a t=>(v0Q (tget T a)).bind fun a=>(z5W P H t a).bind fun v=>(resL P T H l).map fun vs=>v::vs):=rfl
theorem asPtr_ok {x:Value}{a:Addr}(h:v0Q x=some a):x = .pointer (some a):=by
  unfold v0Q at h;split at h
  . cases h;rfl
  . cases h
theorem v2Q {γ:Bm}{H:Hp}{w:World}(hW:WR P γ (hget H) w){t:TypeId}{a:Addr}{v:Value}(h:z5W P H t a=some v){q:Nat×Nat}(hq:γ a.block=some q):∃ c,(loadVar t ⟨q.1,a.off,none⟩).run P w = .ok c w/\VR γ v c:=by
  unfold z5W at h;cases h1:x0Z H a.block with
  | none=>rw [h1] at h;cases h
  | some p =>
    rw [h1] at h;have h:(cond (x2C (P.underlying t)) ((x1K P t).bind fun n=>(cut p.1 a.off n).map x5Z) ((P.underlying t).bind fun _=>lget p.1 a.off))=some v:=h;obtain ⟨c,l',rest,fz,e1,e2,e3,_,_⟩:=hW.cells h1 hq;cases aF:x2C (P.underlying t) with
    | true =>
      rw [aF,cond_true] at h;obtain ⟨d,hd⟩:=y9F aF;cases h2:x1K P t with
      | none=>rw [h2] at h;cases h
      | some k =>
        rw [h2] at h;have h:(cut p.1 a.off k).map x5Z=some v:=h;cases h3:cut p.1 a.off k with
        | none=>rw [h3] at h;cases h
        | some r =>
          rw [h3] at h;cases h;obtain ⟨r',q1,q2,q3⟩:=part_at e2 e3 h3;exact ⟨.agg r'.toArray,by simp [loadVar,y2C hd,aF,x2D h2,x7A e1 a.off r' k q2 q3], .agg _ _ (by simpa [x5Z] using q1)⟩
    | false =>
      rw [aF,cond_false] at h;cases h2:P.underlying t with
      | none=>rw [h2] at h;cases h
      | some d =>
        rw [h2] at h;have h:lget p.1 a.off=some v:=h;obtain ⟨v',q1,q2⟩:=u6S e2 e3 h;exact ⟨v',by simp [loadVar,y2C h2,aF,u2U e1, -Array.getElem?_toList,q2],q1⟩
theorem z2P {γ:Bm}{T:Tm}{tmps:Array Value}(hT:TR γ T tmps){H:Hp}{w:World}(hW:WR P γ (hget H) w):∀ {l:List ResultVar} {vs:List Value}, resL P T H l=some vs ->
    ∃ cs,(l.mapM (m:=Sem) fun | .tmp t=>pure (tmps.getD t undef) | .cell a t=>do loadVar t (<- asAddr (tmps.getD a undef))).run P w = .ok cs w/\VL γ vs cs
  | [],vs,h=>by cases h;exact ⟨[],by simp, .nil⟩
  | .tmp t::l,vs,h=>by
    rw [y0Z] at h;cases h1:resL P T H l with
    | none=>simp [h1] at h
    | some r =>
      simp [h1] at h;subst h;obtain ⟨cs,e1,e2⟩:=z2P hT hW h1;exact ⟨tmps.getD t undef::cs,by simp only [List.mapM_cons,Sem.run_bind,Sem.run_pure,Result.andThen_ok,e1], .cons (hT t) e2⟩
  | .cell a t::l,vs,h=>by
    rw [y0Z] at h;cases h0:v0Q (tget T a) with
    | none=>simp [h0] at h
    | some ad =>
      cases h2:z5W P H t ad with
      | none=>simp [h0,h2] at h
      | some v =>
        cases h1:resL P T H l with
        | none=>simp [h0,h1] at h
        | some r =>
          simp [h0,h2,h1] at h;subst h;obtain ⟨cs,e1,e2⟩:=z2P hT hW h1;have hr:=hT a;rw [asPtr_ok h0] at hr;obtain ⟨q,_,hq,hc⟩:=x8E hr;obtain ⟨c,q1,q2⟩:=v2Q hW h2 hq;have ha:(asAddr (tmps.getD a undef)).run P w = .ok ⟨q.1,ad.off,none⟩ w:=by rw [hc];rfl
          exact ⟨c::cs,by simp only [List.mapM_cons,Sem.run_bind,ha,Sem.run_pure,Result.andThen_ok,q1,e1], .cons q2 e2⟩
theorem u0E {γ:Bm}{T T2:Tm}{tmps:Array Value}(hT:TR γ T tmps){H H2:Hp}{n n2:Nat}{ex:Ex}{fn:Func}(h:retK H n (resL P T H fn.results.toList) = .ok ex T2 H2 n2) :
    H2=H/\n2=n/\∀ w:World,WR P γ (hget H) w->∃ c,(results fn tmps).run P w = .ok c w/\VR γ (tget T2 0) c:=by
  cases h1:resL P T H fn.results.toList with
  | none=>rw [h1] at h;cases h
  | some vs =>
    rw [h1] at h;have run:∀ w:World,WR P γ (hget H) w->∃ cs:List Value,VL γ vs cs/\(results fn tmps).run P w = .ok (if h:cs.length=1 then cs[0]'(by omega) else .tuple cs.toArray) w:=fun w hW=>by
      obtain ⟨cs,e1,e2⟩:=z2P hT hW h1;refine ⟨cs,e2, ?_⟩;have hm:(fn.results.mapM (m:=Sem) fun | .tmp t=>pure (tmps.getD t undef) | .cell a t=>do loadVar t (<- asAddr (tmps.getD a undef))).run P w = .ok cs.toArray w:=by
        rw [Array.mapM_eq_mapM_toList,Sem.run_map,e1];rfl
      unfold results;rw [Sem.run_bind]
      erw [hm]
      simp
    unfold retK at h;split at h
    . rename_i v hv;cases hv;cases h;refine ⟨rfl,rfl,fun w hW=>?_⟩;obtain ⟨cs,e1,e2⟩:=run w hW;cases e1 with
      | cons a b=>cases b;exact ⟨_,by simpa using e2,a⟩
    . rename_i vs' ac hv;cases hv;cases h;refine ⟨rfl,rfl,fun w hW=>?_⟩;obtain ⟨cs,e1,e2⟩:=run w hW;have hl:cs.length≠1:=fun hl=>by
        rw [<- e1.length] at hl
        match vs,hl with
        | [v],_=>exact ac v rfl
      rw [dif_neg hl] at e2;exact ⟨_,e2, .tuple _ _ (by simpa using e1)⟩
    . rename_i hv;cases hv
theorem v0R (v:Value)(vs:List Value)(k:Nat)(T:Tm):y2Z (v::vs) k T=y2Z vs (k+1) (tset T k v):=rfl
theorem z9A:∀ (vs:List Value) (k:Nat) (T:Tm) (t:Nat),tget (y2Z vs k T) t=if k <= t/\t<k+vs.length then vs.getD (t-k) undef else tget T t
  | [],k,T,t=>by
    have:¬ (k <= t/\t<k+([]:List Value).length):=by simp
    rw [if_neg this];rfl
  | v::vs,k,T,t=>by
    rw [v0R,z9A vs (k+1),x8N];simp only [List.length_cons]
    by_cases h1:t=k
    . subst h1;rw [if_neg (by omega),if_pos rfl,if_pos (by omega)];simp
    . by_cases h2:k+1 <= t/\t<k+1+vs.length
      . rw [if_pos h2,if_pos (by omega)]
        obtain ⟨m,hm⟩:∃ m,t-k=m+1:=⟨t-k-1,by omega⟩
        rw [hm,show t-(k+1)=m from by omega];simp
      . rw [if_neg h2,if_neg h1,if_neg (by omega)]
theorem args_tr {β:Bm}{vs cs:List Value}(h:VL β vs cs)(m:Nat):TR β (y2Z vs 0 .leaf) (cs.toArray++Array.replicate m undef):=fun t=>by
  rw [z9A];have hl:=h.length
  by_cases ht:t<cs.length
  . rw [if_pos (by omega)]
    have:(cs.toArray++Array.replicate m undef).getD t undef=cs.getD t undef:=by
      simp only [Array.getD_eq_getD_getElem?];rw [Array.getElem?_append_left (by simpa using ht)]
      simp
    rw [this];have hv:vs[t]? = some (vs.getD t undef):=by simp [List.getD,List.getElem?_eq_getElem (show t<vs.length by omega)]
    obtain ⟨c,e1,e2⟩:=h.get t _ hv;simp only [Nat.sub_zero];have:cs.getD t undef=c:=by simp [List.getD,e1]
    rw [this];exact e2
  . rw [if_neg (by omega),v1N]
    have:(cs.toArray++Array.replicate m undef).getD t undef=undef:=by
      simp only [Array.getD_eq_getD_getElem?];rw [Array.getElem?_append_right (by simp;omega)]
      rw [Array.getElem?_replicate];split <;> rfl
    rw [this];exact y5R β
def HookOk (P:Program)(hk:Hook):Prop:= ∀ (f:FuncId) (args:List Value) (v:Value),hk f args=some v->(∃ fn c,P.funcs[f]? = some fn/\fn.body=some c) /\
  ∀ (β:Bm) (w:World) (cs:List Value),Glob w->VL β args cs->CallsIn Fence.wide 0 P f cs.toArray w fun e w'=> ∃ c,e = .returned c/\VR β v c/\(∀ b,b<w.heap.size->w'.heap[b]? = w.heap[b]?)/\w.heap.size <= w'.heap.size/\w'.os=w.os/\w'.output=w.output/\w'.tape=w.tape
theorem z6S:HookOk P v3L:=fun _ _ _ h=>by cases h
theorem Ext.grow {β:Bm}{G:Gp}{n:Nat}{w w':World}(h:WR P β G w)(hb:∀ b,b<w.heap.size->w'.heap[b]? = w.heap[b]?)(hs:w.heap.size <= w'.heap.size)(h1:w'.os=w.os)(h2:w'.output=w.output)(h3:w'.tape=w.tape):Ext P β G n w β G n w':=by
  have key:∀ (b:Nat) (q:Obj),w.heap[b]? = some q->w'.heap[b]? = some q:=fun b q e=>by rw [hb b (Array.getElem?_eq_some_iff.1 e).1];exact e
  refine ⟨fun _ _=>rfl,⟨fun i o g=>?_,h.inj,h.glob.frame fun g _ _ ai=>hb g ai,h.off⟩,hs,fun b ai _=>hb b ai,fun i o b g1 g2 g3=> .inr ⟨i,o,b,g1,g2,g3,rfl⟩,fun _ g=>g,fun i b g e=>?_,h1,h2,h3⟩
  . obtain ⟨b,q,e1,e2,e3⟩:=h.obj i o g;exact ⟨b,q,e1,key _ _ e2,e3⟩
  . obtain ⟨b',q,e1,e2,_⟩:=h.obj i _ g;rw [e] at e1;cases e1;rw [key _ _ e2,e2]
theorem v0K {hk:Hook}(kg:HookOk P hk)(ah:∀ t H n,x6W P t H n (self t H n)){f:FuncId}{args:List Value}{H H':Hp}{n n':Nat}{ex:Ex}{T':Tm}(h:z4A P hk self f args H n = .ok ex T' H' n'):v0Y P f args H n (tget T' 0) H' n':=by
  unfold z4A at h;cases hh:hk f args with
  | some v =>
    rw [hh] at h;cases h;obtain ⟨h1,h2⟩:=kg f args v hh;refine ⟨NoneOut.refl _ _,h1,fun β w cs hv hW _=>CallsIn.mono (h2 β w cs hW.glob hv) ?_⟩;rintro e w' ⟨c,rfl,q1,q2,q3,q4,q5,q6⟩;exact ⟨c, β, rfl,q1,Ext.grow hW q2 q3 q4 q5 q6⟩
  | none =>
  rw [hh] at h;have h:onOR (P.funcs[f]?) _ = .ok ex T' H' n':=h;obtain ⟨fn,h1,h2⟩:=x8S h;obtain ⟨c,h3,h4⟩:=x8S h2;obtain ⟨h5,h6⟩:=y1N h4;have hs:=ah (.code none f fn.ntmps c (y2Z args 0 .leaf)) H n;cases hx:self (.code none f fn.ntmps c (y2Z args 0 .leaf)) H n with
  | bad=>rw [hx] at h6;cases h6
  | ok e1 T1 H1 n1 =>
    rw [hx] at hs h6;have hs:CodeS P none fn.ntmps c (y2Z args 0 .leaf) H n e1 T1 H1 n1:=hs;have aV:args.length <= fn.ntmps:=x1H h5;have fin:e1 = .normal\/e1 = .ret->retK H1 n1 (resL P T1 H1 fn.results.toList) = .ok ex T' H' n'->v0Y P f args H n (tget T' 0) H' n':=fun he hr=>by
      have hH:H'=H1/\n'=n1:=by
        unfold retK at hr;split at hr <;> first | (cases hr;done) | (cases hr;exact ⟨rfl,rfl⟩)
      obtain ⟨rfl,rfl⟩:=hH;refine ⟨hs.1,⟨fn,c,h1,h3⟩,fun β w cs hv hW hf=>?_⟩;have hl:=hv.length;refine callsIn_of_wp_marks h1 h3 trivial ?_;refine hs.use (ro:=none) (lo:=n) (args_tr hv _) (by simp;omega) hW hf trivial (Mk.nil (Nat.le_refl _)) fun γ a' w' hp=>?_
      obtain ⟨_,_,iY⟩:=u0E hp.tr hr;obtain ⟨_,ids,m1,m2,m3⟩:=hp.mks;have lv:=y6Y (fn:=fn) hf (fun i a b=>hW.fresh (hf i a b)) iY ids w' hp.ext (fun x hx=>m2 x hx) m3;rw [<- m1] at lv;rcases he with rfl | rfl <;> exact lv
    cases e1 with
    | normal=>exact fin (.inl rfl) h6
    | ret=>exact fin (.inr rfl) h6
    | exit id=>cases h6
    | goto l=>cases h6
end
variable [GT]
section
variable {P:Program} {self:Task->Hp->Nat->R}
theorem y6X {o:Option AObj}{r:ALoop}(h:v4X o=some r):o=some (.loop r):=by
  unfold v4X at h;split at h
  . cases h;rfl
  . cases h
theorem x5L {w:World}{l:Nat}{q:Loop}(h:w.heap[l]? = some (.loop q)):(Instr.getLoop l).run P w = .ok q w:=by
  simp only [Instr.getLoop,Sem.run_bind,z0F h (by simp),Result.andThen_ok,Sem.run_pure]
theorem WR.loop {β:Bm}{H:Hp}{w:World}(h:WR P β (hget H) w){l:Nat}{q:Nat×Nat}{r:ALoop}(hl:x8F H l=some r)(hq:β l=some q):∃ s,w.heap[q.1]? = some (.loop s)/\s.state=r.state/\s.pending=r.pending/\TR β r.T s.tmps/\s.params.toList=r.params/\s.assign=r.assign/\s.body=r.body/\(∃ x, β r.defers=some x/\x.1=s.defers)/\s.tmps.size=r.sz:=by
  obtain ⟨x,h1,h2⟩:=h.at (y6X hl) hq;cases h2 with
  | loop _ s x a1 a2 a3 a4 a5 a6 a7 a8 a9=>exact ⟨s,h1,a1,a2,a3,a4,a5,a6,⟨x,a7,a8⟩,a9⟩
theorem y6W {β:Bm}{H:Hp}{n:Nat}{w:World}(hW:WR P β (hget H) w){l:Nat}{q:Nat×Nat}{r r':ALoop}{s s':Loop}(hl:x8F H l=some r)(hq:β l=some q)(hs:w.heap[q.1]? = some (.loop s))(hR:ObR P β q.2 (.loop r') (.loop s')) :
    (setObj q.1 (.loop s')).run P w = .ok () { w with heap:=w.heap.setIfInBounds q.1 (.loop s') }/\Ext P β (hget H) n w β (hget (hset H l (.loop r'))) n { w with heap:=w.heap.setIfInBounds q.1 (.loop s') } :=by
  have lt:=(Array.getElem?_eq_some_iff.1 hs).1;refine ⟨z0D hs (by simp),Ext.turn hW (y6X hl) hq (by simp) (by simp) (by simp) (by simp [lt]) (fun c hc=>?_) hR rfl rfl rfl⟩
  simp only;rw [Array.getElem?_setIfInBounds];simp [Ne.symm hc]
theorem y7J {H:Hp}{l:Nat}{o:AObj}{r:ALoop}(hl:x8F H l=some r)(n:Nat):NoneOut H n (hset H l o) n:=⟨Nat.le_refl _,fun i _ h0=>by
  rw [x0E];split
  . rename_i e;subst e;rw [y6X hl] at h0;cases h0
  . exact h0⟩
theorem z2K (sz:Nat)(vs:List Value)(T:Tm):x5K sz [] vs T=(match vs with | []=>some T | _::_=>none):=by cases vs <;> rfl
theorem y9P (sz t:Nat)(ts:List Tmp)(vs:List Value)(T:Tm):x5K sz (t::ts) vs T=(match vs with | []=>none | v::vs=>cond (Nat.ble (t+1) sz) (x5K sz ts vs (tset T t v)) none):=by cases vs <;> rfl
theorem z0N {β:Bm}{sz:Nat}:∀ {ts:List Tmp} {vs cs:List Value} {T T':Tm} {tmps:Array Value}, x5K sz ts vs T=some T'->VL β vs cs->TR β T tmps->tmps.size=sz ->
    ts.length=cs.length/\TR β T' ((ts.zip cs).foldl (fun tmps p=>tmps.setIfInBounds p.1 p.2) tmps)/\((ts.zip cs).foldl (fun tmps p=>tmps.setIfInBounds p.1 p.2) tmps).size=sz
  | [],vs,cs,T,T',tmps,h,hv,hT,hz=>by
    rw [z2K] at h;cases hv with
    | nil=>cases h;exact ⟨rfl,hT,hz⟩
    | cons a b=>cases h
  | t::ts,vs,cs,T,T',tmps,h,hv,hT,hz=>by
    rw [y9P] at h;cases hv with
    | nil=>cases h
    | cons a b =>
      rename_i v c vs' cs';have h:cond (Nat.ble (t+1) sz) (x5K sz ts vs' (tset T t v)) none=some T':=h;cases hb:Nat.ble (t+1) sz with
      | false=>rw [hb] at h;cases h
      | true =>
        rw [hb] at h;have ht:t<tmps.size:=by rw [hz];exact x1H hb
        obtain ⟨h1,h2,h3⟩:=z0N (tmps:=tmps.setIfInBounds t c) (show x5K sz ts vs' (tset T t v)=some T' from h) b (hT.set ht a) (by simp [hz])
        exact ⟨by simp [h1],h2,h3⟩
theorem v2L {β:Bm}{H:Hp}{n:Nat}{w:World}(hW:WR P β (hget H) w){l:Nat}{q:Nat×Nat}{r:ALoop}(hl:x8F H l=some r)(hq:β l=some q)(j:Option Code) :
    ∃ w',(Instr.endRound q.1 j).run P w = .ok (.bool j.isNone) w'/\Ext P β (hget H) n w β (hget (hset H l (.loop { r with state:=cond j.isNone .ready .done,pending:=j }))) n w':=by
  obtain ⟨s,h1,h2,h3,h4,h5,h6,h7,⟨x,h8,h9⟩,aH⟩:=hW.loop hl hq;obtain ⟨t1,t2⟩:=y6W (n:=n) (r':= { r with state:=cond j.isNone .ready .done,pending:=j }) (s':= { s with state:=if j.isNone then .ready else .done,pending:=j }) hW hl hq h1 (.loop _ _ x (by cases j <;> rfl) rfl h4 h5 h6 h7 h8 h9 aH)
  exact ⟨_,by simp only [Instr.endRound,Sem.run_bind,x5L h1,Result.andThen_ok,t1,Sem.run_pure],t2⟩
theorem u0C {l:Nat}{H H':Hp}{n n':Nat}{j:Option Code}{ex:Ex}{T':Tm}(h:x7Q l H n j = .ok ex T' H' n'):∃ r,x8F H l=some r/\tget T' 0 = .bool j.isNone/\H'=hset H l (.loop { r with state:=cond j.isNone .ready .done,pending:=j })/\n'=n:=by
  unfold x7Q at h;obtain ⟨r,h1,h2⟩:=x8S h;cases h2;exact ⟨r,h1,rfl,rfl,rfl⟩
def y7A:Ex->Option Code
  | .normal=>none
  | .ret=>some .ret
  | .exit id=>some (.exit id)
  | .goto l=>some (.goto l)
theorem u0D {l:Nat}{x:R}{ex:Ex}{T':Tm}{H':Hp}{n':Nat}(h:y4K l x = .ok ex T' H' n'):∃ e T H n,x = .ok e T H n/\x7Q l H n (y7A e) = .ok ex T' H' n':=by
  unfold y4K at h;split at h <;> first | (cases h;done) | exact ⟨_,_,_,_,rfl,h⟩
theorem z9M (ah:∀ t H n,x6W P t H n (self t H n)){l:Nat}{args:List Value}{H H':Hp}{n n':Nat}{ex:Ex}{T':Tm}(h:y5K self l args H n = .ok ex T' H' n'):YieldS P l args H n (tget T' 0) H' n':=by
  unfold y5K at h;obtain ⟨r,h1,h2⟩:=x8S h;obtain ⟨T0,h3,h4⟩:=x8S h2;have hs:=ah (.code (some l) r.fn r.sz r.assign T0) H n;cases hx:self (.code (some l) r.fn r.sz r.assign T0) H n with
  | bad=>rw [hx] at h4;cases h4
  | ok e1 T1 H1 n1 =>
    rw [hx] at hs h4;have hs:CodeS P (some l) r.sz r.assign T0 H n e1 T1 H1 n1:=hs;cases e1 with
    | exit id=>cases h4
    | ret=>cases h4
    | goto g=>cases h4
    | normal =>
      have h4:(onOR (x8F H1 l) fun r1=>cond (u1A r1.state) (y4K l (self (.code (some l) r.fn r.sz r.body T1) (hset H1 l (.loop { r1 with state:= .busy })) n1)) .bad) = .ok ex T' H' n':=h4;obtain ⟨r1,h5,h6⟩:=x8S h4;obtain ⟨h7,h8⟩:=y1N h6;obtain ⟨e2,T2,H2,n2,h9,aH⟩:=u0D h8;obtain ⟨r2,bK,cX,gj,gH⟩:=u0C aH;have aW:=ah (.code (some l) r.fn r.sz r.body T1) (hset H1 l (.loop { r1 with state:= .busy })) n1;rw [h9] at aW;have aW:CodeS P (some l) r.sz r.body T1 (hset H1 l (.loop { r1 with state:= .busy })) n1 e2 T2 H2 n2:=aW;cases gH;subst gj;have n1b:NoneOut H1 n1 (hset H1 l (.loop { r1 with state:= .busy })) n1:=y7J h5 n1;have n2b:=y7J (o:= .loop { r2 with state:=cond (y7A e2).isNone .ready .done,pending:=y7A e2 }) bK n';have all:=(hs.1.trans n1b).trans (aW.1.trans n2b);refine ⟨all,fun β w cs q hq hv hW hf=>?_⟩;obtain ⟨s,w1,_,_,w4,w5,w6,w7,_,w9⟩:=hW.loop h1 hq
      obtain ⟨p1,p2,p3⟩:=z0N h3 hv w4 w9;refine ⟨s.fn,(s.params.zip cs.toArray).foldl (fun tmps p=>tmps.setIfInBounds p.1 p.2) s.tmps,s.assign,s.body, ?_, ?_⟩
      . have bd:cs.toArray.size=s.params.size:=by rw [<- Array.length_toList (xs:=s.params),w5,p1];simp
        simp only [Instr.yield,Sem.run_bind,x5L w1,Result.andThen_ok,bd,ne_eq,not_true_eq_false,if_false,Sem.run_pure]
      . refine roundIn_of_wpIn trivial ?_;have jo:n <= n1:=hs.1.1;have lr:n1 <= n':=aW.1.1;have fZ:Fresh β n n1:=hf.left lr;have jx:s.assign=r.assign:=w6;have eE:s.body=r.body:=w7;have tD:((s.params.zip cs.toArray).foldl (fun tmps p=>tmps.setIfInBounds p.1 p.2) s.tmps)=((r.params.zip cs).foldl (fun tmps p=>tmps.setIfInBounds p.1 p.2) s.tmps):=by
          rw [<- Array.foldl_toList,Array.toList_zip,w5]
        rw [jx,eE];refine hs.use (ro:=some q.1) (lo:=n) (by rw [tD];exact p2) (by rw [tD];exact p3) hW fZ ⟨q,hq,rfl⟩ (Mk.nil (Nat.le_refl _)) fun γ a1 v1 hp=>?_
        have dd:γ l=some q:=hp.ext.le fZ _ _ hq;obtain ⟨s1,y1,y2,y3,y4,y5,y6,y7,⟨x,y8,y9⟩,y10⟩:=hp.ext.wr.loop h5 dd;obtain ⟨t1,t2⟩:=y6W (n:=n1) (r':= { r1 with state:= .busy }) (s':= { s1 with state:= .busy }) hp.ext.wr h5 dd y1 (.loop _ _ x rfl y3 y4 y5 y6 y7 y8 y9 y10);have aN:s1.state = .ready:=by rw [y2];unfold u1A at h7;split at h7 <;> first | assumption | cases h7
        refine ⟨_,by simp [Instr.beginRound,x5L y1,t1,aN];rfl, ?_⟩
        have oK:Fresh γ n1 n':=hf.right hp.ext jo;refine aW.use (ro:=some q.1) (lo:=n) hp.tr hp.sz t2.wr oK ⟨q,dd,rfl⟩ (hp.mks.ext t2 (fun i a b=>by omega) (Nat.le_refl _)) fun δ a2 v2 fN=>?_
        have dT:δ l=some q:=fN.ext.le oK _ _ dd;obtain ⟨v3,z1,z2⟩:=v2L (P:=P) (n:=n') fN.ext.wr bK dT (y7A e2);have iX:RetS P β (hget H) n w (tget T' 0) (hset H2 l (.loop { r2 with state:=cond (y7A e2).isNone .ready .done,pending:=y7A e2 })) n' (.returned (.bool (y7A e2).isNone)) v3:=by
          refine ⟨_, δ, rfl,by rw [cX];exact .bool _, ?_⟩
          have e01:Ext P β (hget H) n w γ (hget (hset H1 l (.loop { r1 with state:= .busy }))) n1 _:=hp.ext.trans t2 jo (Nat.le_refl _) fZ;have e02:=e01.trans fN.ext jo lr hf;exact e02.trans z2 (Nat.le_trans jo lr) (Nat.le_refl _) hf
        cases e2 with
        | normal=>exact ⟨_,v3,z1,iX⟩
        | ret=>exact ⟨_,v3,z1,iX⟩
        | exit id=>exact ⟨_,v3,z1,iX⟩
        | goto g=>exact ⟨_,v3,z1,iX⟩
theorem u0F (hN:x3M P)(ah:∀ t H n,x6W P t H n (self t H n)){rd:Option Nat}{fn:FuncId}{sz:Nat}{T T':Tm}{H H':Hp}{n n':Nat}{f:Operand}{ps:Array Tmp}{assign body:Code}{ex:Ex}
    (h:y6E self rd fn sz T H n f ps.toList assign body = .ok ex T' H' n'):CodeS P rd sz (.rangeFunc f ps assign body) T H n ex T' H' n':=by
  unfold y6E at h;obtain ⟨h1,h2⟩:=y1N h;obtain ⟨⟨d,Hd,lp⟩,h3,h4⟩:=x8S h2;simp only at h4;unfold u4S at h4;split at h4
  . rename_i e3 T3 H3 n3 aq;obtain ⟨r,h5,h6⟩:=x8S h4;obtain ⟨h7,h8⟩:=y1N h6;unfold z5Z at aq;split at aq
    . rename_i g first cap hv
      have hs:=ah (.call g (first.toList++(.func (.yield lp) #[] #[])::cap.toList)) (hset Hd lp (.loop ⟨.ready,none,fn,T,ps.toList,assign,body,d,sz⟩)) (lp+1)
      rw [show Nat.succ lp=lp+1 from rfl] at aq
      rw [aq] at hs;obtain ⟨c1,⟨fnd,cd,c2,c3⟩,c4⟩:=hs;have jump:NoneOut (hset H3 lp (.loop { r with state := .exhausted })) n3 H' n'/\∀ (β:Bm) (w:World) (a:Act) (ro:Option Nat) (lo:Nat) (Q:Exit->Act->World->Prop), TR β T a.tmps->a.tmps.size=sz->WR P β (hget (hset H3 lp (.loop { r with state := .exhausted }))) w->Fresh β n3 n'->RdR β rd ro->Mk β (hget (hset H3 lp (.loop { r with state := .exhausted }))) w lo n3 a.defers ->
          (∀ γ a' w',Pst P β (hget (hset H3 lp (.loop { r with state:= .exhausted }))) n3 w lo sz T' H' n' γ a' w'->Q (exOf ex) a' w')->(match r.pending with | none=>Q .normal a w | some c=>c.wpIn (fen ro) 0 P Q a w):=by
        unfold z5Y at h8;split at h8
        . rename_i kT;cases h8;refine ⟨NoneOut.refl _ _,fun β w a ro lo Q hT hz hW hf hr hM hQ=>?_⟩;rw [kT];exact hQ β a w ⟨Ext.refl hW,hT,hz,hM⟩
        . rename_i c kT;have hs:=ah (.code rd fn sz c T) (hset H3 lp (.loop { r with state:= .exhausted })) n3;rw [h8] at hs;have hs:CodeS P rd sz c T _ n3 ex T' H' n':=hs;refine ⟨hs.1,fun β w a ro lo Q hT hz hW hf hr hM hQ=>?_⟩;rw [kT];exact hs.use hT hz hW hf hr hM hQ
      obtain ⟨j1,j2⟩:=jump;have n3b:NoneOut H3 n3 (hset H3 lp (.loop { r with state:= .exhausted })) n3:=y7J h5 n3;have begun:n <= lp/\NoneOut H n Hd lp/\∀ (β:Bm) (w:World) (a:Act) (ro:Option Nat) (lo:Nat), WR P β (hget H) w->Fresh β n n'->RdR β rd ro->lp <= n'->Mk β (hget H) w lo n a.defers->∀ fnc:FuncId,
          ∃ (γ:Bm) (w1:World) (dl:Nat) (mks:List Deferred),Ext P β (hget H) n w γ (hget Hd) lp w1/\(∃ x, γ d=some x/\x.1=dl)/\Mk γ (hget Hd) w1 lo lp (mks++a.defers) /\
            (Instr.enterLoop fnc a.tmps ps assign body ro).run P w = .ok (w1.heap.size,mks) { w1 with heap:=w1.heap.push (.loop { state:= .ready,pending:=none,fn:=fnc,tmps:=a.tmps,params:=ps,assign,body,defers:=dl }) } :=by
        unfold rangeD at h3;split at h3
        . rename_i l;cases h0:x8F H l with
          | none=>rw [h0] at h3;cases h3
          | some r0 =>
            rw [h0] at h3;cases h3;refine ⟨Nat.le_refl _,NoneOut.refl _ _,fun β w a ro lo hW hf hr _ hM fnc=>?_⟩;cases ro with
            | none=>exact hr.elim
            | some m =>
              obtain ⟨q,q1,rfl⟩:=hr;obtain ⟨s,w1,_,_,_,_,_,_,⟨x,x1,x2⟩,_⟩:=hW.loop h0 q1;refine ⟨β, w,s.defers,[],Ext.refl hW,⟨x,x1,x2⟩,hM, ?_⟩;simp only [Instr.enterLoop,Sem.run_bind,x5L w1,Result.andThen_ok,Sem.run_pure,run_newObj]
        . cases h3;refine ⟨by omega,⟨by omega,fun i hi h0=>by rw [x0E,if_neg (by omega)];exact h0⟩,fun β w a ro lo hW hf hr aV hM fnc=>?_⟩
          cases ro with
          | some m=>exact hr.elim
          | none =>
            have hn:=hf n (Nat.le_refl _) (by omega)
            have e:=Ext.new hW hn (m:= 0) (.defd (P:=P) (β := β) (m:= 0) (some []));refine ⟨_,_,w.heap.size,[mark1 w.heap.size],e,⟨_,x1J _ _ _,rfl⟩, ?_, ?_⟩
            . obtain ⟨m0,ids,m1,m2,m3⟩:=hM;refine ⟨by omega,(n,(w.heap.size, 0))::ids,by simp [m1],fun x hx=>?_, ?_⟩
              . rcases List.mem_cons.1 hx with rfl | hx
                . exact ⟨m0,by simp,x1J _ _ _,by rw [x0E,if_pos rfl],by simp⟩
                . obtain ⟨a1,a2,a3,a4,a5⟩:=m2 x hx;exact ⟨a1,by omega,u3Z hn _ _ a3,e.keep _ a4,by rw [e.kept _ _ a4 a3];exact a5⟩
              . simp only [List.map_cons,List.nodup_cons];refine ⟨fun hm=>?_,m3⟩;obtain ⟨x,hx,dy⟩:=List.mem_map.1 hm
                have:=(m2 x hx).2.1
                omega
            . simp only [Instr.enterLoop,Sem.run_bind,run_newObj,Result.andThen_ok,Sem.run_pure];rfl
      obtain ⟨b0,b00,begun⟩:=begun;have s1:NoneOut Hd lp (hset Hd lp (.loop ⟨.ready,none,fn,T,ps.toList,assign,body,d,sz⟩)) (lp+1):=⟨by omega,fun i hi h0=>by rw [x0E,if_neg (by omega)];exact h0⟩
      have l1:lp+1 <= n3:=c1.1;have l2:n3 <= n':=j1.1;refine CodeS.mk' (by simp) (b00.trans (s1.trans (c1.trans (n3b.trans j1)))) fun β w a ro lo Q hT hz hW hf hr hM hQ=>?_
      refine wpIn_rangeFunc fun fnc _=>?_;obtain ⟨γ, w1,dl,mks,e1,⟨x,b2,b3⟩,b4,b5⟩:=begun β w a ro lo hW hf hr (by omega) hM fnc
      have f1:Fresh β n lp:=hf.left (by omega)
      have g1:Fresh γ lp n':=hf.right e1 b0;have nZ:γ lp=none:=g1 lp (Nat.le_refl _) (by omega)
      have lw1:=e1.le f1;have e2:=Ext.new e1.wr nZ (m:= 0) (ObR.loop (P:=P) (β := γ) (m:= 0) ⟨.ready,none,fn,T,ps.toList,assign,body,d,sz⟩ { state:= .ready,pending:=none,fn:=fnc,tmps:=a.tmps,params:=ps,assign,body,defers:=dl } x rfl rfl (hT.mono lw1) rfl rfl rfl b2 b3 hz);have lw2:=u3Z (b:=(w1.heap.size, 0)) nZ;have e12:=e1.trans e2 b0 (by omega) (hf.left (by omega))
      have g2:Fresh (upd γ lp (w1.heap.size, 0)) (lp+1) n':=hf.right e12 (by omega)
      have dk:=z7N (β := β) (T:=T) (a:=a) (x:=f) (fun t _=>hT t) h1;rw [hv] at dk;generalize hρ:a.eval f=X at dk;cases dk with
      | func _ _ _ first' cap' k1 k2 =>
        have cw:VL (upd γ lp (w1.heap.size, 0)) (first.toList++(.func (.yield lp) #[] #[])::cap.toList) (first'.toList++(.func (.yield w1.heap.size) #[] #[])::cap'.toList) :=
          ((AllR.mono (fun _ _ y=>(y.mono lw1).mono lw2) k1)).append (.cons (.yield lp (w1.heap.size, 0) (x1J _ _ _)) (AllR.mono (fun _ _ y=>(y.mono lw1).mono lw2) k2))
        have lL:=c4 _ _ _ cw e2.wr (g2.left l2);have hb:fnd.body.isNone=false:=by rw [c3];rfl
        have he:(first'++#[.func (.yield w1.heap.size) #[] #[]]++cap':Array Value)=(first'.toList++(.func (.yield w1.heap.size) #[] #[])::cap'.toList).toArray:=by
          apply Array.ext';simp
        refine ⟨w1.heap.size,mks,_, { target:= .fn (.func g) cap',args:=first'++#[.func (.yield w1.heap.size) #[] #[]] }, { w1 with heap:=w1.heap.push (.loop { state:= .ready,pending:=none,fn:=fnc,tmps:=a.tmps,params:=ps,assign,body,defers:=dl }) }, g,(first'.toList++(.func (.yield w1.heap.size) #[] #[])::cap'.toList).toArray, { w1 with heap:=w1.heap.push (.loop { state:= .ready,pending:=none,fn:=fnc,tmps:=a.tmps,params:=ps,assign,body,defers:=dl }) }, b5, ?_,fun _ _=>trivial, ?_,fun h=>by simp at h, ?_⟩
        . simp only [resolve,List.map_toArray,List.map_cons,List.map_nil,hρ, Deferred.ofValue];rfl
        . simp only [invoke,callFunc,Sem.run_bind,run_program,Result.andThen_ok,c2,hN g fnd c2,Bool.false_eq_true,if_false,hb,he,Sem.run_pure]
        . refine CallsIn.mono (F:=fen ro) lL ?_;rintro e w3 ⟨cc, ε, rfl,_,e3⟩;have lw3:=e3.le (g2.left l2);have e123:=e12.trans e3 (by omega) l1 (hf.left l2)
          have kS:ε lp=some (w1.heap.size, 0):=lw3 _ _ (x1J _ _ _);obtain ⟨s,y1,y2,y3,y4,y5,y6,y7,⟨z,y8,y9⟩,y10⟩:=e3.wr.loop h5 kS;obtain ⟨t1,t2⟩:=y6W (n:=n3) (r':= { r with state:= .exhausted }) (s':= { s with state:= .exhausted }) e3.wr h5 kS y1 (.loop _ _ z rfl y3 y4 y5 y6 y7 y8 y9 y10);refine ⟨r.pending, { w3 with heap:=w3.heap.setIfInBounds w1.heap.size (.loop { s with state:= .exhausted }) }, ?_, ?_⟩
          . have df:(s.state==LoopState.busy)=false := by
              rw [y2];cases aN:r.state <;> first | rfl | (rw [aN] at h7;cases h7)
            simp only [Instr.endLoop,Sem.run_bind,x5L y1,Result.andThen_ok,df,Bool.false_eq_true,if_false,t1,Sem.run_pure];rw [y3]
          . have eall:=e123.trans t2 (by omega) (Nat.le_refl _) (hf.left l2)
            have lall:=eall.le (hf.left l2);have xK:Mk ε (hget (hset H3 lp (.loop { r with state:= .exhausted }))) _ lo n3 (mks++a.defers) :=
              ((b4.ext e2 (g1.left (by omega)) (by omega)).ext e3 (g2.left l2) l1).ext t2 (fun i a b=>by omega) (Nat.le_refl _)
            exact j2 ε _ { a with defers:=mks++a.defers } ro lo Q (hT.mono lall) hz t2.wr (hf.right eall (by omega)) (hr.mono lall) xK fun η a' w' hp=>hQ η a' w' ⟨eall.trans hp.ext (by omega) l2 hf,hp.tr,hp.sz,hp.mks⟩
    . cases aq
  . cases h4
end
end Go.Xec
