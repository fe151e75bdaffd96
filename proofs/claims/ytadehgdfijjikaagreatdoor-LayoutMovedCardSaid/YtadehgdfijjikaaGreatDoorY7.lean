/-
  THE PURE EXECUTOR: operations that lay or turn blocks and give a value.;THE PURE EXECUTOR: the two ways of a chain of guards.;THE PURE EXECUTOR: a region in the order of its text is sound.
-/
import Derived.Test.YtadehgdfijjikaaGreatDoorY6
set_option linter.all false
namespace Go.Yec
open Go Go.Xec
variable [GT]
section
variable {D:Type} {V:D->List (PV D)} {μ:Mu} {H:Hp} {P:Program} {hk:Hook} {o:Oper} {T:Tm} {X:Nat->Prop} {n m:Nat} {st:Y D} {dn:Dn} {C:Ch} {B:Bt D} {R:Type} {ρ:Yd->PV D}
theorem v2S {op:Op}{p:Prim}{ys:List Yd}(hc:x1Z P op=some (.prim p ys)):(∃ t x a,op = .range t x/\P.underlying t=some .string/\ydO x=some a/\p = .rng/\ys=[a])\/(∃ it a,op = .next it true/\ydO it=some a/\p = .nxt/\ys=[a])\/(∃ t l c e k a,op = .makeSlice t l c/\opEq l c=true/\x2X (P.underlying t)=some e/\x3E P e=some k/\ydO l=some a/\p = .mks e k/\ys=[a]):=by
  rcases x3S hc with h | ⟨t,a,rfl⟩ | ⟨s,d,x,e0,_,_,_,_,h⟩ | ⟨e,x,rfl⟩ | ⟨e,rfl⟩ | ⟨t,len,ps,rfl⟩ | ⟨t,a,v,rfl⟩ | ⟨args,ts,rfl⟩ | ⟨s,d,x,e0,_,_,_,h⟩
  . unfold x1Z at hc;split at hc
    all_goals first
      | (obtain ⟨a,_,h⟩:=x0G hc;cases h;done)
      | (obtain ⟨a,b,_,_,h⟩:=x0V hc;cases h;done)
      | (cases hc;done)
      | (obtain ⟨_,e1,h1⟩:=x0A hc;obtain ⟨_,e2,h2⟩:=x0A h1;obtain ⟨_,e3,h3⟩:=x0C h2;cases h3;done)
      | (obtain ⟨a,h1,h2⟩:=x0C hc;cases h2;done)
      | skip
    . unfold yBin at hc;split at hc <;> first | (cases hc;done) | (split at hc <;> first | (cases hc;done) | (obtain ⟨a,b,_,_,h⟩:=x0V hc;cases h;done))
    . unfold z1Z at hc;split at hc
      . obtain ⟨a,_,h⟩:=x0G hc;cases h
      . obtain ⟨a,_,h⟩:=x0G hc;cases h
      . obtain ⟨a,_,h⟩:=x0G hc;cases h
      . obtain ⟨a,_,h⟩:=x0G (x0B hc).2;cases h
      . obtain ⟨a,_,h⟩:=x0G (x0B hc).2;cases h
      . obtain ⟨a,_,h⟩:=x0G (x0B hc).2;cases h
      . cases hc
    . split at hc
      . obtain ⟨a,b,_,_,h⟩:=x0V hc;cases h
      . obtain ⟨a,b,_,_,h⟩:=x0V (x0B hc).2;cases h
      . cases hc
    . unfold y0R at hc;split at hc
      . obtain ⟨_,_,h1⟩:=x0A hc;obtain ⟨_,_,h2⟩:=x0A h1;obtain ⟨_,_,h3⟩:=x0C h2;cases h3
      . cases hc
    . unfold x1D at hc;split at hc
      . split at hc
        . obtain ⟨a,_,h⟩:=x0G hc;cases h
        . obtain ⟨a,_,h⟩:=x0G hc;cases h
        . cases hc
      . obtain ⟨a,b,_,_,h⟩:=x0V hc;cases h
      . obtain ⟨a,b,_,_,h⟩:=x0V hc;cases h
      . obtain ⟨_,_,h1⟩:=x0A hc;obtain ⟨_,_,h2⟩:=x0A h1;obtain ⟨_,_,h3⟩:=x0A h2;obtain ⟨_,_,h4⟩:=x0A h3;obtain ⟨a,b,_,_,h⟩:=x0V h4;cases h
      . cases hc
    all_goals first
      | (unfold yAlloc at hc
         obtain ⟨z,_,h2⟩:=x0A hc;obtain ⟨cs,_,h4⟩:=x0A h2;cases aE:x2A P _ <;> rw [aE] at h4
         . cases h4
         . rw [cond_true] at h4;split at h4
           . obtain ⟨l,_,h5⟩:=x0C h4;cases h5
           . cases h4
           . cases h4)
      | (unfold yMake at hc
         obtain ⟨h0,h1⟩:=x0B hc;obtain ⟨e,h4,h2⟩:=x0A h1;obtain ⟨k,h5,h3⟩:=x0A h2;obtain ⟨a,h6,h⟩:=x0G h3;cases h;exact .inr (.inr ⟨_,_,_,_,_,_,rfl,h0,h4,h5,h6,rfl,rfl⟩))
      | (obtain ⟨_,_,h1⟩:=x0A hc;obtain ⟨_,_,h2⟩:=x0A h1;obtain ⟨_,_,h3⟩:=x0A h2;obtain ⟨_,_,h4⟩:=x0A h3;obtain ⟨_,_,h6⟩:=x0C h4;cases h6;done)
      | (obtain ⟨_,_,h1⟩:=x0A hc;obtain ⟨_,_,h2⟩:=x0A h1;obtain ⟨_,h3⟩:=x0B h2;obtain ⟨a,_,h⟩:=x0G h3;cases h;done)
      | (obtain ⟨_,_,h1⟩:=x0A hc;obtain ⟨_,_,h2⟩:=x0A h1;obtain ⟨_,_,h3⟩:=x0A h2;obtain ⟨a,_,h⟩:=x0G h3;cases h;done)
      | (obtain ⟨_,_,h1⟩:=x0A hc;obtain ⟨_,_,h2⟩:=x0A h1;obtain ⟨a,_,h⟩:=x0G h2;cases h;done)
      | (obtain ⟨_,_,h1⟩:=x0A hc;obtain ⟨a,b,_,_,h⟩:=x0V h1;cases h;done)
      | (obtain ⟨_,_,h1⟩:=x0A hc;obtain ⟨_,_,h2⟩:=x0A h1;obtain ⟨_,_,h3⟩:=x0A h2;obtain ⟨_,_,h4⟩:=x0A h3;obtain ⟨_,_,h5⟩:=x0A h4;obtain ⟨_,_,h6⟩:=x0C h5;cases h6;done)
      | (obtain ⟨_,_,h1⟩:=x0A hc;obtain ⟨_,_,h2⟩:=x0A h1;obtain ⟨_,_,h3⟩:=x0A h2;obtain ⟨_,h4⟩:=x0B h3;cases h4;done)
      | (split at hc
         . rename_i hu;obtain ⟨a,h1,h2⟩:=x0G hc;cases h2;exact .inl ⟨_,_,_,rfl,hu,h1,rfl,rfl⟩
         . cases hc)
      | (obtain ⟨a,h1,h2⟩:=x0G hc;cases h2;exact .inr (.inl ⟨_,_,rfl,h1,rfl,rfl⟩))
      | (unfold yIaddr at hc
         split at hc
         . obtain ⟨a,b,_,_,h⟩:=x0V (x0B hc).2;cases h
         . obtain ⟨a,b,_,_,h⟩:=x0V (x0B hc).2;cases h
         . cases hc)
  . obtain ⟨_,_,h1⟩:=x0A hc;obtain ⟨_,_,h2⟩:=x0A h1;obtain ⟨a,_,h⟩:=x0G h2;cases h
  . obtain ⟨a,_,h⟩:=x0G h;cases h
  . obtain ⟨a,_,h⟩:=x0G (show y1 (.box e) x=some _ from hc);cases h
  . have hc:yAlloc P e=some _:=hc;unfold yAlloc at hc;obtain ⟨z,_,h2⟩:=x0A hc;obtain ⟨cs,_,h4⟩:=x0A h2;cases aE:x2A P e <;> rw [aE] at h4
    . cases h4
    . rw [cond_true] at h4;split at h4
      . obtain ⟨l,_,h5⟩:=x0C h4;cases h5
      . cases h4
      . cases h4
  . obtain ⟨_,_,h1⟩:=x0A (show x1E P t len ps.toList=some _ from hc)
    obtain ⟨_,_,h2⟩:=x0A h1;obtain ⟨_,_,h3⟩:=x0A h2;obtain ⟨_,h4⟩:=x0B h3;cases h4
  . obtain ⟨_,_,h1⟩:=x0A hc;obtain ⟨a,b,_,_,h⟩:=x0V h1;cases h
  . have hc:x1D P .append args.toList ts.toList=some _:=hc;unfold x1D at hc;split at hc <;> first | (rename_i hh _ _;cases hh;done) | (rename_i hh _;cases hh;done) | (cases hc;done) | skip
    obtain ⟨_,_,h1⟩:=x0A hc;obtain ⟨_,_,h2⟩:=x0A h1;obtain ⟨_,_,h3⟩:=x0A h2;obtain ⟨_,_,h4⟩:=x0A h3;obtain ⟨a,b,_,_,h⟩:=x0V h4;cases h
  . rcases h with ⟨_,h⟩ | ⟨_,_,_,_,h⟩ <;> (obtain ⟨a,_,h⟩:=x0G h;cases h)
theorem v7Q (u:ByteArray):(⟨u.data.toList.toArray⟩:ByteArray)=u:=by simp
theorem prim_got (hρ:OpdR V μ H (MX X μ B) T ρ)(hr:HR V X μ B m H n){p:Prim}{ys:List Yd}(hc:x1Z P o.op=some (.prim p ys)){ck:Bool}{v:PV D}{B':Bt D}{m':Nat}(h:u0G p (ys.map ρ) B m = .ok ck v B' m')(_hck:ck=true) :
    ∃ w H' n' μ',(x0N P o).f T H n = .ok w H' n'/\Gr μ B m H n μ' B' m' H' n'/\HR V X μ' B' m' H' n'/\Rep V μ' H' (MX X μ' B') v w:=by
  rcases v2S hc with ⟨t,x,a,ho,hu,ha,rfl,rfl⟩ | ⟨it,a,ho,ha,rfl,rfl⟩ | ⟨t,l,c,e,k,a,ho,rE,hs,hk,ha,rfl,rfl⟩
  . have h:u0G .rng [ρ a] B m = .ok ck v B' m':=h;have aj:=hρ x a ha;generalize ρ a=y at h aj;cases y <;> first | (cases h;done) | skip
    rename_i s;cases h;obtain ⟨u,rfl,hx⟩:=aj.str_of;have hf:=hr.fresh_blk (oi:=none) (H':=hset H n (.iter u 0)) (len:= 0) (b:= .iter u.data.toList 0) (fun y hy _=>by rw [x0E,if_neg hy]) (fun i hi=>by cases hi)
      (fun μ' H2 M' kp hm hg=> .iter n 0 u 0 (by rw [hg,x0E,if_pos rfl]))
    have hm:updM μ m n 0 m=some (some n, 0):=if_pos rfl;refine ⟨_,_,_,_, ?_,hf.1,hf.2, .lptr m 0 n 0 hm⟩;have:(x0N P o).f T H n=(u6U P t x).f T H n:=by unfold x0N;rw [ho]
    rw [this];unfold u6U;rw [hu];show y9S (ev T x) _=_;rw [hx];rfl
  . have h:u0G .nxt [ρ a] B m = .ok ck v B' m':=h;have aj:=hρ it a ha;generalize ρ a=y at h aj;cases y <;> first | (cases h;done) | skip
    rename_i i off;cases off with
    | succ k=>cases h
    | zero =>
      have h:(match bget B i with
        | some (_, .iter s p)=>PrimR.ok true (.nx (decide (p<slen s)) p (x5B s p)) (bset B i (some (m, .iter s (y2D s p)))) (Nat.succ m)
        | _=> .bad) = .ok ck v B' m':=h
      split at h
      . rename_i st s p bI;cases h;obtain ⟨x,len,hm,hx⟩:=y0G aj;obtain ⟨_,ox,len',h1,h2⟩:=hr.blk i st _ bI;rw [hm] at h1;cases h1;generalize hs:s=s' at h2;generalize hp:p=p' at h2;cases h2 with
        | iter _ _ u q hg =>
          subst hs hp;have bu:(x0N P o).f T H n=v3N u q H n x:=by
            have:(x0N P o).f T H n=(cNext it).f T H n:=by unfold x0N;rw [ho]
            rw [this];unfold cNext;show x6R (ev T it) _=_;rw [hx];show onO (u5P (hget H x)) _=_;rw [hg];rfl
          have eK:slen u.data.toList=(u.size:Int):=by unfold slen;rw [<- x2K]
          have tC:(q:Int).toNat=q:=by simp
          cases hb:Nat.ble (Nat.succ q) u.size with
          | true =>
            have ai:(q:Int)<slen u.data.toList:=by rw [eK];have:=x1H hb;omega
            have hn:y2D u.data.toList q=((q+(Utf8.decode u q).2:Nat):Int):=by
              unfold y2D;rw [decide_eq_true ai,cond_true,v7Q,tC];simp
            have vH:x5B u.data.toList q=((Utf8.decode u q).1:Int):=by
              unfold x5B;rw [v7Q,tC]
            rw [decide_eq_true ai,hn,vH];have hf:=hr.write_blk (H':=hset H x (.iter u (q+(Utf8.decode u q).2))) (b:= .iter u.data.toList ((q+(Utf8.decode u q).2:Nat):Int)) bI hm (fun y hy=>by rw [x0E,if_neg hy]) (fun M' kp=> .iter x len u _ (by rw [x0E,if_pos rfl]))
            refine ⟨_,_,_,_, ?_,hf.1,hf.2, .nx1 _ _⟩;rw [bu];unfold v3N;rw [hb];rfl
          | false =>
            have ai:¬ (q:Int)<slen u.data.toList:=by
              rw [eK];intro hl;rw [Nat.ble_eq_true_of_le (by omega)] at hb
              cases hb
            have hn:y2D u.data.toList q=(q:Int):=by
              unfold y2D;rw [decide_eq_false ai,cond_false]
            rw [decide_eq_false ai,hn];have hf:=hr.write_blk (H':=H) (b:= .iter u.data.toList (q:Int)) bI hm (fun y hy=>rfl) (fun M' kp=> .iter x len u _ hg);refine ⟨_,_,_,_, ?_,hf.1,hf.2, .nx0 _ _⟩;rw [bu];unfold v3N;rw [hb];rfl
      . cases h
  . have h:u0G (.mks e k) [ρ a] B m = .ok ck v B' m':=h;have aj:=hρ l a ha;generalize ρ a=y at h aj;cases y <;> first | (cases h;done) | skip
    rename_i k2 q;cases h;have lK:=of_decide_eq_true _hck;have hx:=aj.int_of;obtain ⟨i,h1,h2,h3,h4,h5,h6,h7⟩:=y2J hk;have rE:=v3A rE;subst rE;obtain ⟨nx,rfl⟩:∃ nx:Nat,q=nx:=⟨q.toNat,by omega⟩
    have eu:nx <= 1000000:=by omega
    have pM:∀ j,(repI j).length=j:=fun j=>by
      induction j with
      | zero=>rfl
      | succ j ih=>show (0::repI j).length=_;simp [ih]
    have vI:∀ j,(repI j).map (Value.int k)=repl j [Value.int k 0]:=fun j=>by
      induction j with
      | zero=>rfl
      | succ j ih=>show (0::repI j).map (Value.int k)=[Value.int k 0]++repl j [Value.int k 0];rw [List.map_cons,ih];rfl
    have hf:=hr.fresh_blk (oi:=none) (H':=hset H n (.cells (repl nx [Value.int k 0]) e)) (len:=(repI nx).length) (b:= .rowI e k (repI nx)) (fun y hy _=>by rw [x0E,if_neg hy]) (fun i hi=>by cases hi)
      (fun μ' H2 M' kp hm hg=> .rowI n e k (repI nx) (by rw [hg,x0E,if_pos rfl,vI]))
    have hm:updM μ m n (repI nx).length m=some (some n,(repI nx).length):=if_pos rfl;have hT:((nx:Int)).toNat=nx:=by simp
    refine ⟨_,hset H n (.cells (repl nx [Value.int k 0]) e),n+1,_, ?_, ?_, ?_, .lsl m n (repI nx).length (repI nx).length hm (.inr rfl)⟩
    . have:(x0N P o).f T H n=(x7J P t l l).f T H n:=by unfold x0N;rw [ho]
      rw [this];unfold x7J;rw [hs];show (coO (P.info? e) _).f T H n=_;rw [h4];show (coO (x4Q P e) _).f T H n=_;rw [h3];show (coIf (Nat.beq 1 i.size) _).f T H n=_;rw [h7];show u0M (ev T l) _=_;rw [hx];show chk (cond (Nat.ble nx nx) (cond (Nat.ble (Nat.mul nx i.bytes) 1099511627776) (Nat.ble nx 1099511627776) false) false) (newS H n (repl nx [Value.int k 0]) e nx nx)=_;have b1:Nat.mul nx i.bytes <= 1099511627776:=Nat.le_trans (Nat.mul_le_mul eu h6) (by decide)
      rw [Nat.ble_eq_true_of_le (Nat.le_refl nx),Nat.ble_eq_true_of_le b1,Nat.ble_eq_true_of_le (show nx <= 1099511627776 by omega)]
      rw [pM nx];rfl
    . rw [hT];exact hf.1
    . rw [hT];exact hf.2
end
variable [GT]
section
variable {D:Type} {V:D->List (PV D)} {μ:Mu} {H:Hp} {P:Program} {hk:Hook} {o:Oper} {T:Tm} {X:Nat->Prop} {n m:Nat} {st:Y D} {dn:Dn} {C:Ch} {B:Bt D} {R:Type} {all:List Oper} {sz:Nat}
def TEq (T T':Tt D):Prop:= ∀ t,pget T' t=pget T t
theorem y7N {T T':Tt D}(e:TEq T T')(C:Ch):gOf T' C=gOf T C:=y1K fun p _=>e p.1
theorem u6R {T T':Tt D}(e:TEq T T'):∀ C:Ch,chOk T' C=chOk T C
  | []=>rfl
  | p::C=>by rw [y1R,y1R,u6R e C,e p.1]
theorem RegI.teq {T T':Tt D}(h:RegI T dn)(e:TEq T T'):RegI T' dn where
  opt t C g v hp:=by
    rw [e t] at hp;obtain ⟨h1,h2,h3⟩:=h.opt t C g v hp;exact ⟨h1,by rw [h2,y7N e],h3⟩
  has C t hm ac:=by rw [e t];exact h.has C t hm ac
  cl:=h.cl
theorem Pre.teq (hp:Pre P V X all o C dn sz μ st T H n){T':Tt D}(e:TEq st.T T'):Pre P V X all o C dn sz μ ⟨T',st.B,st.m⟩ T H n where
  sr:=⟨hp.sr.hr,fun t=>by show Rep V μ H _ (pget T' t) _;rw [e t];exact hp.sr.tr t⟩
  reg:=hp.reg.teq e
  fit:=hp.fit
  ok:=by rw [u6R e];exact hp.ok
  gd:=hp.gd
  dst:=hp.dst
  new:=hp.new
theorem z6Z {T0 T:Tt D}(hI:RegI T0 dn)(e:TEq T0 T){t:Nat}{b:Bool}(hg:gOf T0 C=true)(hb:y7E (x3T C (pget T0 t))=true)(hv:x8H (x3T C (pget T t))=b):TEq T0 (y9U T t b):=fun u=>by
  rw [<- e t] at hb;unfold y9U;split
  . rename_i C' g v hp;rw [x3W];split
    . rename_i hu;subst hu;rw [hp] at hb hv;have hs:x3T C (.opt C' g v)=cond (sufB C' C) v .undef:=rfl;rw [hs] at hb hv;cases my:sufB C' C with
      | false=>rw [my] at hb;cases hb
      | true =>
        rw [my] at hb hv;simp only [cond_true] at hb hv;have h1:=(hI.opt u C' g v (by rw [<- e u];exact hp)).2.1
        rw [z9Q my hg] at h1;rw [<- e u,hp,h1];unfold y7E at hb;split at hb
        . cases hv;rfl
        . cases hb
    . exact e u
  . rename_i hp;rw [x3W];split
    . rename_i hu;subst hu;have hs:x3T C (pget T u)=pget T u:=by
        unfold x3T;split
        . rename_i C' g v hq;exact absurd hq (hp C' g v)
        . rfl
      rw [hs] at hb hv;rw [<- e u];unfold y7E at hb;split at hb
      . rename_i b' hq;rw [hq] at hv |-;cases hv;rfl
      . cases hb
    . exact e u
theorem z2G {T0:Tt D}(hI:RegI T0 dn){r:R}:∀ {C:Ch} {T:Tt D} {kt kf:Tt D->Option R}, TEq T0 T->chOk T0 C=true->u4E C T kt kf=some r->(∃ T',TEq T0 T'/\gOf T0 C=true/\kt T'=some r)\/(∃ T',TEq T0 T'/\gOf T0 C=false/\kf T'=some r)
  | [],T,kt,kf,e,_,h=> .inl ⟨T,e,rfl,h⟩
  | p::C,T,kt,kf,e,aC,h=>by
    rw [y1R] at aC;obtain ⟨o1,o2⟩:=x0D aC;have h:u4E C T (fun T=>cond (x8H (x3T C (pget T p.1))) (cond p.2 (kt (y9U T p.1 true)) (kf (y9U T p.1 true))) (cond p.2 (kf (y9U T p.1 false)) (kt (y9U T p.1 false)))) kf=some r:=h;rw [x9P];rcases z2G hI e o2 h with ⟨T',e',hg,h'⟩ | ⟨T',e',hg,h'⟩
    . rw [hg,cond_true];have hl:lit T0 C p=cond p.2 (x8H (x3T C (pget T' p.1))) (!(x8H (x3T C (pget T' p.1)))):=by unfold lit;rw [e' p.1]
      rw [hl];cases hb:x8H (x3T C (pget T' p.1)) with
      | true =>
        rw [hb,cond_true] at h';have ht:=z6Z hI e' hg o1 hb;cases hp:p.2 with
        | true=>rw [hp,cond_true] at h';exact .inl ⟨_,ht,rfl,h'⟩
        | false=>rw [hp,cond_false] at h';exact .inr ⟨_,ht,rfl,h'⟩
      | false =>
        rw [hb,cond_false] at h';have ht:=z6Z hI e' hg o1 hb;cases hp:p.2 with
        | true=>rw [hp,cond_true] at h';exact .inr ⟨_,ht,rfl,h'⟩
        | false=>rw [hp,cond_false] at h';exact .inl ⟨_,ht,rfl,h'⟩
    . rw [hg,cond_false];exact .inr ⟨T',e',rfl,h'⟩
theorem u6G {M:Nat->Prop}{v:PV D}{x:Value}(h:Rep V μ H M v x):Rep V μ H M (dst1 C v) x:=by
  unfold dst1;split
  . exact h.noOpt
  . exact .opt1 _ _ _ h.noOpt
theorem u6H {v:PV D}{C':Ch}{g:Bool}{w:PV D}(h:dst1 C v = .opt C' g w):C'=C/\g=true/\C≠[]:=by
  unfold dst1 at h;split at h
  . exact absurd h (x7B _ _ _ _)
  . rename_i ac;cases h;exact ⟨rfl,rfl,fun e=>ac e⟩
theorem u6J {v:PV D}(h:C≠[]):∃ g w,dst1 C v = .opt C g w:=by
  unfold dst1;split
  . exact absurd rfl h
  . exact ⟨_,_,rfl⟩
end
variable [GT]
section
variable {D:Type} {V:D->List (PV D)} {μ:Mu} {H:Hp} {P:Program} {hk:Hook} {o:Oper} {T:Tm} {X:Nat->Prop} {n m:Nat} {st:Y D} {dn:Dn} {C:Ch} {B:Bt D} {R:Type} {all:List Oper} {sz:Nat} {tbl:Tbl D}
theorem z2J {y:YOp}(hp:Pre P V X all o C dn sz μ st T H n){K:Y D->Option R}{r:R}(h:skipG st ⟨C,o.dst,y⟩ K=some r):∃ st',y1W P hk V X all sz o C dn μ st T H n st'/\K st'=some r:=by
  unfold skipG at h;cases C with
  | nil=>cases h
  | cons p C =>
    have h:cond (gOf st.T (p::C)) none (K (setD st ⟨p::C,o.dst,y⟩ .undef))=some r:=h;cases hg:gOf st.T (p::C) with
    | true=>rw [hg] at h;cases h
    | false =>
      rw [hg,cond_false] at h;exact ⟨_,x9D hp (fun ju=>by rw [hg] at ju;cases ju),h⟩
theorem u5Z {args:Array Operand}{f:FuncId}{ys:List Yd}(hp:Pre P V X all o C dn sz μ st T H n)(hy:ydL args.toList=some ys)(hK:x6B P o = .call (.func f) args.toList){tc:List Nat}{v:PV D}{B':Bt D}{m':Nat}(hF:FunS P hk V f (ys.map (opd st.T C)) st.B st.m tc v B' m')(hg:gOf st.T C=true) :
    ∃ w H' n' μ',(∃ k0, ∀ k,k0 <= k->y4B (run P hk k) T H n (x6B P o) = .ok w H' n')/\Gr μ st.B st.m H n μ' B' m' H' n'/\HR V X μ' B' m' H' n'/\Rep V μ' H' (MX X μ' B') v w/\∀ i s b x len,bget st.B i=some (s,b)->inN i tc=false->μ i=some (some x,len)->hget H' x=hget H x:=by
  have cw:=y5L (x2T hp.sr hp.reg hg) hy;obtain ⟨xv,H',n', μ',⟨k0,h1⟩,h2,h3,h4,h5⟩:=hF X μ H n _ hp.sr.hr cw;refine ⟨xv,H',n', μ',⟨k0,fun k bG=>?_⟩,h3,h2,h4,h5⟩;rw [hK];show y3K (run P hk k (.call f ([]++args.toList.map (ev T)++[])) H n)=_;rw [List.nil_append,List.append_nil,h1 k bG];rfl
theorem y7P {args:Array Operand}{f:FuncId}{ys:List Yd}(hp:Pre P V X all o C dn sz μ st T H n)(hy:ydL args.toList=some ys)(hK:x6B P o = .call (.func f) args.toList){tc:List Nat}{v:PV D}{B':Bt D}{m':Nat}(hF:FunS P hk V f (ys.map (opd st.T C)) st.B st.m tc v B' m')(hg:gOf st.T C=true) :
    ∃ w H' n' μ',(∃ k0, ∀ k,k0 <= k->y4B (run P hk k) T H n (x6B P o) = .ok w H' n')/\Gr μ st.B st.m H n μ' B' m' H' n'/\HR V X μ' B' m' H' n'/\Rep V μ' H' (MX X μ' B') v w :=
  let ⟨w,H',n', μ',h1,h2,h3,h4,_⟩:=u5Z hp hy hK hF hg
  ⟨w,H',n', μ',h1,h2,h3,h4⟩
theorem v2X {X':Type}{x:Option X'}{d a:X'}(h:optG st C x d=some a)(hg:gOf st.T C=true):x=some a:=by
  unfold optG at h;split at h
  . exact h
  . rw [hg] at h;exact h
def InlConc (P:Program)(hk:Hook)(V:D->List (PV D))(f:FuncId)(args:List (PV D))(B:Bt D)(m:Nat)(tc:List Nat){R:Type}(K:PV D->Bt D->Nat->Option R)(r:R):Prop :=
  ∀ (X:Nat->Prop) (μ:Mu) (H:Hp) (n:Nat) (xs:List Value),HR V X μ B m H n->RepL V μ H (MX X μ B) args xs ->
    ∃ v B' m' xv H' n' μ',(∃ k0, ∀ k,k0 <= k->run' P hk k f xs H n xv H' n')/\HR V X μ' B' m' H' n'/\Gr μ B m H n μ' B' m' H' n'/\Rep V μ' H' (MX X μ' B') v xv /\
      (∀ i s b x len,bget B i=some (s,b)->inN i tc=false->μ i=some (some x,len)->hget H' x=hget H x)/\(∀ i s b,bget B i=some (s,b)->inN i tc=false->bget B' i=some (s,b))/\K v B' m'=some r
theorem v2E (tbl:Tbl D)(args:List (PV D))(B:Bt D)(m:Nat)(ix:Int)(v:PV D)(l:List (PV D))(j:Nat):selL tbl args B m ix (v::l) j=Option.casesOn (selL tbl args B m ix l (Nat.succ j)) none fun q=>match v with
    | .fn f [] []=>match tbl f args B m with
      | .inl tc _ run=>some (tc++q.1,fun R K=>cond (decide (ix=(j:Int))) (run R K) (q.2 R K))
      | .tot v=>some (q.1,fun R K=>cond (decide (ix=(j:Int))) (K v B m) (q.2 R K))
      | .opt _ o _ out=>some (q.1,fun R K=>cond (decide (ix=(j:Int))) (Option.bind o fun x=>K (out x) B m) (q.2 R K))
      | _=>none
    | _=>some (q.1,fun R K=>cond (decide (ix=(j:Int))) none (q.2 R K)):=rfl
theorem inN_iff4 {x:Nat}:∀ {l:List Nat}, inN x l=true↔x∈l
  | []=>by constructor <;> intro h <;> cases h
  | y::l=>by
    have e:inN x (y::l)=cond (Nat.beq y x) true (inN x l):=rfl;rw [e,List.mem_cons];cases h:Nat.beq y x with
    | true=>have:=Nat.eq_of_beq_eq_true h;simp [this]
    | false =>
      have ac:x≠y:=fun e=>by subst e;rw [Nat.beq_refl] at h;cases h
      rw [cond_false,inN_iff4];simp [ac]
theorem z0W {i:Nat}{l l':List Nat}(h:inN i (l++l')=false):inN i l=false/\inN i l'=false:=by
  constructor
  . cases e:inN i l with
    | false=>rfl
    | true=>rw [inN_iff4.2 (List.mem_append_left _ (inN_iff4.1 e))] at h;cases h
  . cases e:inN i l' with
    | false=>rfl
    | true=>rw [inN_iff4.2 (List.mem_append_right _ (inN_iff4.1 e))] at h;cases h
theorem InlConc.more {f:FuncId}{args:List (PV D)}{tc tc':List Nat}{K:PV D->Bt D->Nat->Option R}{r:R}(h:InlConc P hk V f args B m tc K r)(hs:∀ i,inN i tc'=false->inN i tc=false):InlConc P hk V f args B m tc' K r:=by
  intro X μ H n xs hr ha;obtain ⟨v,B',m',xv,H',n', μ',q1,q2,q3,q4,q5,q6,q7⟩:=h X μ H n xs hr ha;exact ⟨v,B',m',xv,H',n', μ',q1,q2,q3,q4,fun i s b x len a b' c=>q5 i s b x len a (hs i b') c,fun i s b a b'=>q6 i s b a (hs i b'),q7⟩
theorem FunS.conc {f:FuncId}{args:List (PV D)}{v:PV D}{K:PV D->Bt D->Nat->Option R}{r:R}(h:FunS P hk V f args B m [] v B m)(hK:K v B m=some r):InlConc P hk V f args B m [] K r:=by
  intro X μ H n xs hr ha;obtain ⟨xv,H',n', μ',h1,h2,h3,h4,h5⟩:=h X μ H n xs hr ha;exact ⟨v,B,m,xv,H',n', μ',h1,h2,h3,h4,h5,fun _ _ _ a _=>a,hK⟩
theorem v2D (hT:y1V P hk V tbl){args:List (PV D)}{ix:Int}:∀ {l:List (PV D)} {j:Nat} {q:List Nat×((R:Type)->(PV D->Bt D->Nat->Option R)->Option R)}, selL tbl args B m ix l j=some q->∀ {K:PV D->Bt D->Nat->Option R} {r:R}, q.2 R K=some r ->
    ∃ i f,ix=((j+i:Nat):Int)/\l[i]? = some (.fn f [] [])/\InlConc P hk V f args B m q.1 K r
  | [],j,q,h,K,r,hr=>by cases h;cases hr
  | v::l,j,q,h,K,r,hr=>by
    rw [v2E] at h;cases hl:selL tbl args B m ix l (Nat.succ j) with
    | none=>rw [hl] at h;cases h
    | some q' =>
      rw [hl] at h;have later:∀ {K:PV D->Bt D->Nat->Option R} {r:R}, q'.2 R K=some r->(∀ i,inN i q.1=false->inN i q'.1=false)->∃ i f,ix=((j+i:Nat):Int)/\(v::l)[i]? = some (.fn f [] [])/\InlConc P hk V f args B m q.1 K r:=fun {K r} hr hs=>by
        obtain ⟨i,f,e1,e2,e3⟩:=v2D hT hl hr;exact ⟨i+1,f,by rw [e1];omega,by simpa using e2,e3.more hs⟩
      simp only at h;split at h
      . rename_i f;have aq:=hT f args B m;split at h
        . rename_i tc d rn he;cases h;rw [he] at aq;cases hd:decide (ix=(j:Int)) with
          | true =>
            simp only [hd,cond_true] at hr;exact ⟨0,f,by have:=of_decide_eq_true hd;omega,rfl,InlConc.more (aq R K r hr) fun i hi=>(z0W hi).1⟩
          | false =>
            simp only [hd,cond_false] at hr;exact later hr fun i hi=>(z0W hi).2
        . rename_i v' he;cases h;rw [he] at aq;cases hd:decide (ix=(j:Int)) with
          | true =>
            simp only [hd,cond_true] at hr;exact ⟨0,f,by have:=of_decide_eq_true hd;omega,rfl,(FunS.conc aq hr).more fun i hi=>rfl⟩
          | false =>
            simp only [hd,cond_false] at hr;exact later hr fun i hi=>hi
        . rename_i X' o' d out he;cases h;rw [he] at aq;cases hd:decide (ix=(j:Int)) with
          | true =>
            simp only [hd,cond_true] at hr;obtain ⟨a,h1,h2⟩:=x0A hr;exact ⟨0,f,by have:=of_decide_eq_true hd;omega,rfl,(FunS.conc (aq a h1) h2).more fun i hi=>rfl⟩
          | false =>
            simp only [hd,cond_false] at hr;exact later hr fun i hi=>hi
        . cases h
      . cases h;cases hd:decide (ix=(j:Int)) with
        | true=>simp only [hd,cond_true] at hr;cases hr
        | false =>
          simp only [hd,cond_false] at hr;exact later hr fun i hi=>hi
theorem execO_ok (hT:y1V P hk V tbl){y:YOp}(hc:x1Z P o.op=some y)(hS:SR V X μ st T H n)(hI:RegI st.T dn)(bT:y3X dn C=true)(hG:y4A all o C)(hd:y9V sz o.dst=true)(fb:∀ t,o.dst=some t->dIn t dn=false){K:Y D->Option R}{r:R}(h:execO tbl ⟨C,o.dst,y⟩ st K=some r) :
    ∃ st',y1W P hk V X all sz o C dn μ st T H n st'/\K st'=some r:=by
  unfold execO at h;obtain ⟨aC,h⟩:=x0B h;have hp:Pre P V X all o C dn sz μ st T H n:=⟨hS,hI,bT,aC,hG,hd,fb⟩;have op:∀ {y:YOp}, x1Z P o.op=some y->x8V y=false->fin st ⟨C,o.dst,y⟩ K (opR st.B (opd st.T C) y)=some r->∃ st',y1W P hk V X all sz o C dn μ st T H n st'/\K st'=some r:=fun {y} hc hn h=>by
    cases hr:opR st.B (opd st.T C) y with
    | bad=>rw [hr] at h;exact z2J hp h
    | val v=>rw [hr] at h;exact ⟨_,z3J hp hc hn fun hg=>z2B (x2T hS hI hg) hS.hr hc (.inl hr),h⟩
    | par b v =>
      rw [hr] at h;obtain ⟨h1,h2⟩:=x0B h;exact ⟨_,z3J hp hc hn fun hg=>z2B (x2T hS hI hg) hS.hr hc (.inr (by rw [hr,z0Y h1 hg])),h2⟩
    | ld src v =>
      rw [hr] at h;refine ⟨_,x9D hp fun hg=>?_,h⟩;obtain ⟨w,h1,h2⟩:=ld_got (x2T hS hI hg) hS.hr hc hr;exact ⟨w,H,n, μ, ⟨0,fun k _=>by rw [x6K hc hn];exact h2 H n fun _ _ _ _ _=>rfl⟩,Gr.refl _ _ _ _ _,hS.hr,h1⟩
    | mk b f =>
      rw [hr] at h;obtain ⟨rfl,h2⟩:=x6H h;exact ⟨_,mk_ok hp hc hn hr,h2⟩
    | wr i b =>
      rw [hr] at h;obtain ⟨rfl,h2⟩:=x6H h;exact ⟨_,wr_ok hp hc hn hr,h2⟩
    | ap ck i b =>
      rw [hr] at h;obtain ⟨rfl,h2⟩:=x6H h;obtain ⟨h3,h4⟩:=x0B h2;exact ⟨_,ap_ok hp hc hn hr h3,h4⟩
  cases y with
  | call f ys =>
    have h:finC st ⟨C,o.dst, .call f ys⟩ K (tbl f (ys.map (opd st.T C)) st.B st.m)=some r:=h;obtain ⟨args,ts,_,hy,hK⟩:=z1R hc;have aq:=hT f (ys.map (opd st.T C)) st.B st.m;cases hr:tbl f (ys.map (opd st.T C)) st.B st.m with
    | bad=>rw [hr] at h;exact z2J hp h
    | tot v =>
      rw [hr] at h aq;exact ⟨_,x9D hp fun hg=>y7P hp hy hK aq hg,h⟩
    | par b v =>
      rw [hr] at h aq;obtain ⟨h1,h2⟩:=x0B h;exact ⟨_,x9D hp fun hg=>y7P hp hy hK (aq (z0Y h1 hg)) hg,h2⟩
    | opt X' x d out =>
      rw [hr] at h aq;obtain ⟨a,h1,h2⟩:=x0A h;exact ⟨_,x9D hp fun hg=>y7P hp hy hK (aq a (v2X h1 hg)) hg,h2⟩
    | inl tc d rn =>
      rw [hr] at h aq;have hg:=x4B (P:=P) hp.sr hp.reg hp.fit hp.ok hp.gd hp.dst;rcases z2G hp.reg (fun _=>rfl) hp.ok h with ⟨T',e,hC,h⟩ | ⟨T',e,hC,h⟩
      . have cw:=y5L (x2T hp.sr hp.reg hC) hy;obtain ⟨v,B',m',xv,H',n', μ',⟨k0,q1⟩,q2,q3,q4,q5,q6,q7⟩:=aq R _ r h X μ H n _ hp.sr.hr cw;refine ⟨_,⟨xv,H',n', μ',⟨k0,fun k bG=>?_⟩,(hp.teq e).sr.mk_put q3 q2 o.dst (u6G q4),q3, ?_,fun t ht=>?_⟩,q7⟩
        . rw [(hg _).1 hC,hK];show y3K (run P hk k (.call f ([]++args.toList.map (ev T)++[])) H n)=_;rw [List.nil_append,List.append_nil,q1 k bG];rfl
        . exact (hp.teq e).reg.set hp.fit hp.new (fun C' g w h1=>by obtain ⟨a,b,c⟩:=u6H h1;exact ⟨a,by rw [b];exact (by rw [y7N e];exact hC.symm),c⟩) (fun ac=>u6J ac)
        . show pget (pput T' o.dst _) t=_;rw [x1B _ _ _ _ ht,e t]
      . refine ⟨_,⟨undef,H,n, μ, ⟨0,fun k _=>by rw [(hg _).2.1 hC]⟩,(hp.teq e).sr.put o.dst (.opt0 C _),Gr.refl _ _ _ _ _, ?_,fun t ht=>?_⟩,h⟩
        . exact (hp.teq e).reg.set hp.fit hp.new (fun C' g w h1=>by cases h1;exact ⟨rfl,by rw [y7N e];exact hC.symm,fun e0=>by subst e0;cases hC⟩) (fun ac=>⟨_,_,rfl⟩)
        . show pget (pput T' o.dst _) t=_;rw [x1B _ _ _ _ ht,e t]
  | callv x ys =>
    have h:y7H C (finC st ⟨C,o.dst, .callv x ys⟩ K (selC tbl (opd st.T C x) (ys.map (opd st.T C)) st.B st.m))=some r:=h;obtain ⟨rfl,h⟩:=x6H h;obtain ⟨g,args,ts,_,rfl,hy,hK⟩:=u2T hc;have hx:=x2T hS hI (C:=[]) rfl (.tmp g) (.t g) rfl;have cw:=y5L (x2T hS hI (C:=[]) rfl) hy;generalize opd st.T [] (.t g)=xp at h hx;unfold selC at h;split at h
    . rename_i l ix;cases hl:selL tbl (ys.map (opd st.T [])) st.B st.m ix l 0 with
      | none=>rw [hl] at h;cases h
      | some q =>
        rw [hl] at h;have h:finC st ⟨[],o.dst, .callv (.t g) ys⟩ K (CallR.inl q.1 .undef q.2)=some r:=h;have h:q.2 R (fun v B m=>K ⟨pput st.T o.dst (noOpt v),B,m⟩)=some r:=h;obtain ⟨i,f,e1,e2,e3⟩:=v2D hT hl h;obtain ⟨v,B',m',xv,H',n', μ',⟨k0,q1⟩,q2,q3,q4,q5,q6,q7⟩:=e3 X μ H n _ hp.sr.hr cw;have vj:ev T (.tmp g) = .func (.func f) #[] #[]:=by
          generalize ev T (.tmp g)=xw at hx;cases hx with
          | sel _ _ v' _ h0 oh aj =>
            rw [show ix.toNat=i by omega,e2] at oh
            cases oh;cases aj with
            | fn _ _ _ x y a b =>
              have dG:x=#[]:=Array.ext' (by cases ha:x.toList with | nil=>rfl | cons c d=>rw [ha] at a;cases a)
              have tw:y=#[]:=Array.ext' (by cases ha:y.toList with | nil=>rfl | cons c d=>rw [ha] at b;cases b)
              rw [dG,tw]
        have hg:=x4B (P:=P) hp.sr hp.reg hp.fit hp.ok hp.gd hp.dst;refine ⟨_,⟨xv,H',n', μ',⟨k0,fun k bG=>?_⟩,hp.sr.mk_put q3 q2 o.dst q4.noOpt,q3,hp.reg.set hp.fit hp.new (fun C' g v e=>absurd e (x7B _ _ _ _)) (fun ac=>absurd rfl ac),fun t ht=>x1B _ _ _ _ ht⟩,q7⟩;rw [(hg _).1 rfl,hK];show y4J (run P hk k) H n (args.toList.map (ev T)) (ev T (.tmp g))=_;rw [vj];show y3K (run P hk k (.call f ([]++args.toList.map (ev T)++[])) H n)=_;rw [List.nil_append,List.append_nil,q1 k bG];rfl
    . cases h
  | pick c a b =>
    have h:fin st ⟨C,o.dst, .pick c a b⟩ K (y1C st C c a b)=some r:=h;have hv:∃ v q,y1C st C c a b = .val v\/y1C st C c a b = .par q v\/y1C st C c a b = .bad:=by
      unfold y1C;split
      . unfold selP;split
        . exact ⟨_,true, .inl rfl⟩
        . cases ikeq _ _
          . exact ⟨.undef,true, .inr (.inr rfl)⟩
          . exact ⟨_,true, .inl rfl⟩
        . exact ⟨_,true, .inl rfl⟩
        . exact ⟨_,_, .inr (.inl rfl)⟩
        . exact ⟨_,_, .inr (.inl rfl)⟩
        . exact ⟨.undef,true, .inr (.inr rfl)⟩
      . exact ⟨.undef,true, .inr (.inr rfl)⟩
    obtain ⟨v,q,hv | hv | hv⟩:=hv
    . rw [hv] at h;exact ⟨_,z3J hp hc rfl fun hg=>y4P hp hc (.inl hv) hg,h⟩
    . rw [hv] at h;obtain ⟨h1,h2⟩:=x0B h;exact ⟨_,z3J hp hc rfl fun hg=>y4P hp hc (.inr (by rw [hv,z0Y h1 hg])) hg,h2⟩
    . rw [hv] at h;exact z2J hp h
  | prim p ys =>
    have h:finP st ⟨C,o.dst, .prim p ys⟩ K (u0G p (ys.map (opd st.T C)) st.B st.m)=some r:=h;cases hr:u0G p (ys.map (opd st.T C)) st.B st.m with
    | bad=>rw [hr] at h;cases h
    | ok ck v B' m' =>
      rw [hr] at h;obtain ⟨rfl,h0⟩:=x6H h;obtain ⟨h1,h2⟩:=x0B h0;obtain ⟨w,H',n', μ',q1,q2,q3,q4⟩:=prim_got (x2T hS hI rfl) hS.hr hc hr h1;exact ⟨_,u6E hp hc rfl q1 q2 q3 q4.noOpt fun C g v=>x7B _ _ _ _,h2⟩
  | _=>exact op hc rfl h
structure RunOk (P:Program) (hk:Hook) (V:D->List (PV D)) (X:Nat->Prop) (μ:Mu) (st:Y D) (H:Hp) (n:Nat) (st':Y D) (T':Tm) (H':Hp) (n':Nat) (dn':Dn) (asg:List Nat):Prop where
  ex:∃ μ',SR V X μ' st' T' H' n'/\Gr μ st.B st.m H n μ' st'.B st'.m H' n'
  reg:RegI st'.T dn'
  oth:∀ t,t∉asg->pget st'.T t=pget st.T t
noncomputable def dnL (l:List YO)(dn:Dn):Dn:=l.foldl (fun dn o=>x7Y o.dst o.C dn) dn
theorem u8U (o:YO)(l:List YO)(st:Y D)(K:Y D->Option R):v6F tbl (o::l) st K=execO tbl o st fun st=>v6F tbl l st K:=rfl
theorem u0N (o:YO)(l:List YO)(dn:Dn):x6G (o::l) dn=cond (y3X dn o.C) (match o.dst with | some d=>cond (dIn d dn) false (x6G l ((o.C,d)::dn)) | none=>x6G l dn) false:=rfl
theorem y6N {o:YO}{l:List YO}{dn:Dn}(h:x6G (o::l) dn=true):y3X dn o.C=true/\(∀ t,o.dst=some t->dIn t dn=false)/\x6G l (x7Y o.dst o.C dn)=true:=by
  rw [u0N] at h;obtain ⟨h1,h2⟩:=x0D h;refine ⟨h1, ?_⟩;cases hd:o.dst with
  | none=>rw [hd] at h2;exact ⟨fun t e=>(by cases e),h2⟩
  | some d =>
    rw [hd] at h2;have h2:cond (dIn d dn) false (x6G l ((o.C,d)::dn))=true:=h2;cases hi:dIn d dn with
    | true=>rw [hi] at h2;cases h2
    | false=>rw [hi] at h2;exact ⟨fun t e=>(by cases e;exact hi),h2⟩
theorem u9U (o:YO)(l:List YO):y7U (o::l)=match o.dst with | some d=>d::y7U l | none=>y7U l:=rfl
theorem u6F {o:YO}{l:List YO}{t:Nat}(h:t∉y7U (o::l)):o.dst≠some t/\t∉y7U l:=by
  rw [u9U] at h;cases hd:o.dst with
  | none=>rw [hd] at h;exact ⟨by simp,h⟩
  | some d=>rw [hd] at h;simp at h;exact ⟨fun e=>by cases e;exact h.1 rfl,h.2⟩
inductive Made (P:Program) (sz:Nat) (all:List Oper):List Oper->List YO->Prop
  | nil:Made P sz all [] []
  | cons (o:Oper) (C:Ch) (y:YOp) (l:List Oper) (m:List YO) (h1:x1Z P o.op=some y) (h2:y9V sz o.dst=true) (h3:y4A all o C) (t:Made P sz all l m):Made P sz all (o::l) (⟨C,o.dst,y⟩::m)
theorem u6A (hT:y1V P hk V tbl):∀ {rest:List Oper} {l:List YO}, Made P sz all rest l->∀ {μ:Mu} {st:Y D} {T:Tm} {H:Hp} {n:Nat} {dn:Dn} {K:Y D->Option R} {r:R}, SR V X μ st T H n->RegI st.T dn->x6G l dn=true->v6F tbl l st K=some r ->
    ∃ st' T' H' n',(∃ k0, ∀ k,k0 <= k->y6C P (run P hk k) sz all rest T H n = .ok .normal T' H' n')/\RunOk P hk V X μ st H n st' T' H' n' (dnL l dn) (y7U l)/\K st'=some r
  | _,_, .nil, μ, st,T,H,n,dn,K,r,hS,hI,_,h=>⟨st,T,H,n,⟨0,fun _ _=>rfl⟩,⟨⟨μ, hS,Gr.refl _ _ _ _ _⟩,hI,fun _ _=>rfl⟩,h⟩
  | _,_, .cons o C y rest l h1 h2 h3 ht, μ, st,T,H,n,dn,K,r,hS,hI,aC,h=>by
    rw [u8U] at h;obtain ⟨s1,s2,s3⟩:=y6N aC;obtain ⟨st1,⟨xv,H1,n1, μ1,⟨k1,q1⟩,q2,q3,q4,q5⟩,q6⟩:=execO_ok hT h1 hS hI s1 h3 h2 s2 h;obtain ⟨st',T',H',n',⟨k2,r1⟩,r2,r3⟩:=u6A hT ht q2 q4 s3 q6;obtain ⟨μ',u1,u2⟩:=r2.ex;refine ⟨st',T',H',n',⟨max k1 k2,fun k bG=>?_⟩,⟨⟨μ',u1,q3.trans u2⟩,r2.reg,fun t iI=>?_⟩,r3⟩
    . rw [y6B,q1 k (by omega)]
      have cH:(Xec.compI P sz all o).dst=o.dst:=by
        unfold Xec.compI;rw [h2,cond_true];rcases h3 with ⟨e,_⟩ | ⟨j,w,t,C',e,e2,_⟩
        . rw [e]
        . rw [e];simp only [e2]
      rw [cH];exact r1 k (by omega)
    . obtain ⟨e1,e2⟩:=u6F iI;rw [r2.oth t e2,q5 t e1]
end
end Go.Yec
