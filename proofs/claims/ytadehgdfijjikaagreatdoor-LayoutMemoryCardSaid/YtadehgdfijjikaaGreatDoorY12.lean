/- THE PURE EXECUTOR -/
import Derived.Test.YtadehgdfijjikaaGreatDoorY11
set_option linter.all false
namespace Go.Yec
open Go Go.Xec
variable [GT]
section
variable {D:Type} {V:D->List (PV D)} {P:Program} {hk:QX}
theorem x7D (f7:HookOk P hk)(hm:P.follows .mixedOrders=true)(hN:namesB P=true){f:FuncId}{args:List (PV D)}{pv:PV D}(h:QD P hk V f args .leaf 0 [] pv .leaf 0){xs:List Value}{xv:Value} (ha:Qt V (fun _=>none) .leaf (MX (fun _=>False) (fun _=>none) (.leaf:Bt D)) args xs) (hp:x6N xs=true) (ho:∀μ H M y,Rep V μ H M pv y->y=xv) (mZ:u4X xv=true) (w:World) (bF:QF w):Calls P f xs.toArray w fun e w'=>e=.returned xv/\(∀b,b<w.heap.size->w'.heap[b]? =w.heap[b]?)/\w.heap.size<=w'.heap.size/\w'.os=w.os/\w'.output=w.output/\w'.tape=w.tape:=by have hr:HR V (fun _=>False) (fun _=>none) (.leaf:Bt D) 0 (.leaf:Hp) 0:=⟨fun i s b hb=>(by rw[x4U]at hb;cases hb),fun i j s s' b b' x a c hb=>(by rw[x4U]at hb;cases hb),fun i s b x len hb=>(by rw[x4U]at hb;cases hb),fun i x len hm=>(by cases hm),fun i q hm=>(by cases hm),fun x hx=>hx.elim,fun x _=>y1J x⟩;obtain⟨xv',H',n',μ',⟨k,bf⟩,_,_,ai,_⟩:=h _ _ _ _ xs hr ha;obtain rfl:=ho _ _ _ _ ai;have hs:=y0W f7 hm (y6S hN) k (.call f xs) .leaf 0;rw[bf k (qQ _)]at hs;have hs:v0Y P f xs .leaf 0 (KP (one xv') 0) H' n':=hs;have no:∀i o,Zg .leaf i=some o->False:=fun i o e=>by{rw[y1J]at e;cases e};have hW:WR P (fun _=>none) (Zg .leaf) w:=⟨fun i o e=>(no i o e).elim,fun i j b c o p e=>(no i o e).elim,bF,fun g cs hg i o c e=>(no i o e).elim⟩;have:=hs.2.2 (fun _=>none) w xs (x9B hp) hW (fun _ _ _=>rfl);refine Jk (JP.1 this) ?_;rintro e w' ⟨c,γ,rfl,hv,hE⟩;refine⟨?_,fun b hb=>hE.frame b hb fun i o c e=>(no i o e).elim,hE.size,hE.os,hE.out,hE.tape⟩;have e1:KP (one xv') 0=xv':=rfl;rw[e1]at hv;rw[z6C mZ hv]
end
end Go.Yec
namespace Go.Proofs
open Go.RowKit
theorem v2H:Xec.endsWith Tryz.prog 100000 14 (.bool true)=true:=by kernel_rfl
theorem u4J (w:World)(hg:Xec.QF w):Calls Tryz.prog 14 #[] w fun e w'=>e=.returned (.bool true)/\Below w.heap.size w w':=Jk (Xec.closed_run x2P x2N v2H w hg) fun _ _ ⟨h1,h2,h3,h4,h5,h6⟩=>⟨h1,h4,h6,h5,h3,h2⟩
theorem u8L:Xec.HookOk Tryz.prog Yec.hkW:=Yec.hkW_ok u4J
end Go.Proofs
