/-
  THE EXECUTOR: a closed call with plain arguments (numbers, strings, structs of these), and a plain result.
-/
import Derived.Test.YtadehgdfijjikaaGreatDoorX6
set_option linter.all false
namespace Go.Xec
open Go
variable [GT]
section
variable {P:Program}
noncomputable def x6N (l:List Value):Bool:=List.rec true (fun v _ ih=>cond (plain v) ih false) l
noncomputable def veqLL (l:List Value):List Value->Bool:=List.rec (fun m=>List.casesOn m true (fun _ _=>false)) (fun x _ ih m=>List.casesOn m false (fun y m=>cond (veq x y) (ih m) false)) l
noncomputable def u4X:Value->Bool|.tuple a=>x6N a.toList|v=>plain v
noncomputable def veqR:Value->Value->Bool|.tuple a,.tuple b=>veqLL a.toList b.toList|a,b=>veq a b
theorem u3W:∀{l m:List Value},veqLL l m=true->l=m|[],[],_=>rfl|[],_::_,h=>by cases h|_::_,[],h=>by cases h|x::l,y::m,h=>by{have h:cond (veq x y) (veqLL l m) false=true:=h;obtain⟨h1,h2⟩:=x0D h;rw[u3V h1,u3W h2]}
theorem veqR_eq {a b:Value}(h:veqR a b=true):a=b:=by{unfold veqR at h;split at h;·{rename_i x y;rw[show x=y from Array.ext' (u3W h)]};·{exact u3V h}}
theorem x9B {β:Bm}:∀{l:List Value},x6N l=true->VL β l l|[],_=>.nil|v::l,h=>by{have h:cond (plain v) (x6N l) false=true:=h;obtain⟨h1,h2⟩:=x0D h;exact .cons (x5N h1) (x9B h2)}
theorem y0P {β:Bm}:∀{l m:List Value},x6N l=true->VL β l m->m=l|_,_,_,.nil=>rfl|v::l,_,h,.cons a b=>by{have h:cond (plain v) (x6N l) false=true:=h;obtain⟨h1,h2⟩:=x0D h;rw[y4N h1 a,y0P h2 b]}
theorem z6C {β:Bm}{v w:Value}(h:u4X v=true)(r:VR β v w):w=v:=by{cases r with|tuple a b hl=>{exact congrArg Value.tuple (Array.ext' (y0P (β:=β) h hl))}|_=>{exact y4N (β:=β) (by simpa[u4X]using h) (by first|assumption|(constructor<;>assumption))}}
noncomputable def givesB (P:Program)(k:Nat)(f:FuncId)(args:List Value)(v:Value):Bool:=cond (x6N args) (match run P v3L k (.call f args) .leaf 0 with|.ok _ T _ _=>cond (u4X v) (veqR (tget T 0) v) false|.bad=>false) false
theorem closed_call (hm:P.follows .mixedOrders=true)(hN:namesB P=true){k:Nat}{f:FuncId}{args:List Value}{v:Value}(h:givesB P k f args v=true)(w:World)(cX:Glob w):Calls P f args.toArray w fun e w'=>e=.returned v/\(∀b,b<w.heap.size->w'.heap[b]? =w.heap[b]?)/\w.heap.size<=w'.heap.size/\w'.os=w.os/\w'.output=w.output/\w'.tape=w.tape:=by{unfold givesB at h;obtain⟨h0,h⟩:=x0D h;split at h;·{rename_i ex T' H' n' hr;obtain⟨h1,h2⟩:=x0D h;have hs:=y0W z6S hm (y6S hN) k (.call f args) .leaf 0;rw[hr]at hs;have hs:v0Y P f args .leaf 0 (tget T' 0) H' n':=hs;have no:∀i o,hget .leaf i=some o->False:=fun i o e=>by{rw[y1J]at e;cases e};have hW:WR P (fun _=>none) (hget .leaf) w:=⟨fun i o e=>(no i o e).elim,fun i j b c o p e=>(no i o e).elim,cX,fun g cs hg i o c e=>(no i o e).elim⟩;have:=hs.2.2 (fun _=>none) w args (x9B h0) hW (fun _ _ _=>rfl);refine Calls.mono (callsIn_wide.1 this) ?_;rintro e w' ⟨c,γ,rfl,hv,hE⟩;refine⟨?_,fun b hb=>hE.frame b hb fun i o c e=>(no i o e).elim,hE.size,hE.os,hE.out,hE.tape⟩;rw[veqR_eq h2]at hv;rw[z6C h1 hv]};·{cases h}}
end
end Go.Xec
