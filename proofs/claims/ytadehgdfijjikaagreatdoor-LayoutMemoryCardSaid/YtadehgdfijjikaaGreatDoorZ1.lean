/- PLAIN LEAN -/
import Derived.Laws.BitsLemmas
import Derived.Test.YtadehgdfijjikaaGreatDoorY1
set_option linter.all false
namespace Go.Yec
open Go
section
variable {A R:Type}
theorem x2G (N:Nat)(step:(A->Option R)->A->Option R)(x:A):iter (N+1) step x=step (iter N step) x:=rfl
theorem x7U {N k:Nat}(h:k+1<=N):∃M,N=M+1/\k<=M:=⟨N-1,by omega,by omega⟩
theorem w64 {n:Int}(h0:-9223372036854775808<=n)(h1:n<9223372036854775808):IntKind.wrap .i64 n=n:=by rw[IntKind.wrap_i64];omega
theorem w8 {n:Int}(h0:0<=n)(h1:n<256):IntKind.wrap .u8 n=n:=by rw[IntKind.wrap_u8];omega
theorem w32 {n:Int}(h0:-2147483648<=n)(h1:n<2147483648):IntKind.wrap .i32 n=n:=by rw[IntKind.wrap_i32];omega
theorem z0X {i n:Int}(h0:0<=i)(h1:i<n):inB i n=true:=qk ⟨h0,h1⟩
theorem u4G (s:List UInt8)(i:Nat):KB s (i:Int)=((s.getD i 0).toNat:Int):=rfl
theorem x0Q (s:List UInt8):slen s=(s.length:Int):=rfl
theorem scan {P E:Type}{s:List E}{step:(A->Option R)->A->Option R}(emb:P->Nat->A)(Inv:P->Nat->Prop)(spec:P->List E->Option R) (cC:∀again a,Inv a s.length->step again (emb a s.length)=spec a []) (bV:∀again a i c r,Inv a i->s.drop i=c::r->i<s.length->(∀a',Inv a' (i+1)->again (emb a' (i+1))=spec a' r)->step again (emb a i)=spec a (c::r)):∀(k N:Nat) (a:P) (i:Nat),Inv a i->i+k=s.length->k+1<=N->iter N step (emb a i)=spec a (s.drop i)|0,N,a,i,ha,h,hN=>by{(obtain⟨M,rfl,_⟩:=x7U hN;have:i=s.length:=by omega);subst this;rw[x2G,cC _ _ ha,zj (by omega)]}|k+1,N,a,i,ha,h,hN=>by(obtain⟨M,rfl,hM⟩:=x7U hN;rw[x2G];have ah:i<s.length:=by omega);rw[zK ah];exact bV _ a i _ _ ha (zK ah) ah fun a' ik=>scan emb Inv spec cC bV k M a' (i+1) ik (by omega) hM
end
theorem y3T {s:List UInt8}{i:Nat}{c:UInt8}{r:List UInt8}(h:s.drop i=c::r):s.getD i 0=c/\i<s.length/\s.drop (i+1)=r:=by have ah:i<s.length:=by{apply qM;intro hn;rw[zj (by omega)]at h;cases h};rw[zK ah]at h;injection h with h1 h2;exact⟨by rw[qU,qW ah];exact h1,ah,h2⟩
theorem scan0 {A R P E:Type}{s:List E}{step:(A->Option R)->A->Option R}(emb:P->Nat->A)(Inv:P->Nat->Prop)(spec:P->List E->Option R) (cC:∀again a,Inv a s.length->step again (emb a s.length)=spec a []) (bV:∀again a i c r,Inv a i->s.drop i=c::r->i<s.length->(∀a',Inv a' (i+1)->again (emb a' (i+1))=spec a' r)->step again (emb a i)=spec a (c::r)) {N:Nat} (a:P) (ha:Inv a 0) (hN:s.length+1<=N):iter N step (emb a 0)=spec a s:=by rw[scan emb Inv spec cC bV s.length N a 0 ha (by omega) hN,Je]
theorem x8P {s:List UInt8}{i:Nat}{c:UInt8}{r:List UInt8}(h:s.drop i=c::r):KB s (i:Int)=(c.toNat:Int):=by rw[u4G,(y3T h).1]
theorem x9M (l:List Int):Zm l=(l.length:Int):=rfl
theorem x1P (s:List UInt8):(x0S s).length=s.length:=by unfold x0S;rw[zD]
theorem z7F (l:List Int)(i:Nat):x1U l (i:Int)=l.getD i 0:=rfl
theorem z7E (s:List UInt8)(i:Nat)(h:i<s.length):x1U (x0S s) (i:Int)=KB s (i:Int):=by rw[z7F,u4G,qU,qU,qW h,qW (by rw[x1P];exact h)];unfold x0S;simp
theorem x7S (s:List UInt8):x1R (x0S s)=s:=by unfold x1R x0S;rw[List.map_map];have:((fun n:Int=>UInt8.ofNat n.toNat) ∘ fun b:UInt8=>(b.toNat:Int))=id:=by{funext b;show UInt8.ofNat ((b.toNat:Int)).toNat=b;rw[qO];exact UInt8.ofNat_toNat};rw[this,List.map_id]
theorem z2D (s t:List UInt8):x0S (s++t)=x0S s++x0S t:=zC
theorem z4L {n:Nat}{x:Int}(h:n<137438953472):ZJ n [x]=true:=qk (by simp;omega)
def ci (c:UInt8):Int:=(c.toNat:Int)
theorem ci_eq {c d:UInt8}:ci c=ci d↔c=d:=⟨fun h=>UInt8.toNat_inj.1 (by unfold ci at h;omega),fun h=>by rw[h]⟩
theorem x8X (c:UInt8):0<=ci c:=Int.natCast_nonneg _
theorem ci_lt (c:UInt8):ci c<256:=by have:=c.toNat_lt;unfold ci;omega
theorem z2C (c:UInt8):(ci c).toNat.toUInt8=c:=by unfold ci;rw[qO];exact UInt8.ofNat_toNat
theorem y3V {E:Type}{s:List E}{i:Nat}{c:E}{r:List E}(h:s.drop i=c::r):s.drop (i+1)=r:=by(have:s.drop (i+1)=(s.drop i).drop 1:=by rw[Jd]);rw[this,h];rfl
end Go.Yec
