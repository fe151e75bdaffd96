/- THE MEMORY's ZERO VALUE -/
import Derived.Test.YtadehgdfijjikaaGreatDoorChecked
import Derived.KernelRfl
import Derived.WalkKit
import Derived.WalkSpells
import Derived.Deep.Light
import Derived.LoopTactic
import Derived.Deep.WholeRow
import Derived.Lib.BufferWrite
import Derived.Lib.SlBuf
import Derived.Test.YtadehgdfijjikaaGreatDoorX1
set_option linter.all false
set_option maxHeartbeats 400000
set_option maxRecDepth 100000
namespace Go.Proofs.YtadehgdfijjikaaGreatDoor
def Zs (l:List Value)(n:Nat):Prop:=l=List.replicate n (.int .u8 0)
theorem Zs.app {a b:List Value}{n:Nat}(h1:Zs a n)(h2:Zs b n):Zs (List.append a b) (n*2):=by unfold Zs at*;subst h1 h2;show List.replicate n _++List.replicate n _=_;rw[List.replicate_append_replicate,Nat.mul_two]
theorem zs_of_toArray {l:List Value}{n:Nat}(h:Zs l n):Zs (List.toArray l).toList n:=h
theorem zero130:Zs Tryz.zeroCells170.toList (64*2*2*2*2*2*2*2*2*2*2):=by unfold Tryz.zeroCells170;refine zs_of_toArray ?_;refine .app ?_ ?_<;>refine .app ?_ ?_<;>refine .app ?_ ?_<;>refine .app ?_ ?_<;>refine .app ?_ ?_<;>refine .app ?_ ?_<;>refine .app ?_ ?_<;>refine .app ?_ ?_<;>refine .app ?_ ?_<;>refine .app ?_ ?_<;>exact rfl
theorem zero130_eq:Tryz.zeroCells170=Array.replicate 65536 (.int .u8 0):=by apply qm;rw[Array.toList_replicate];exact zero130
open Go.RowKit
theorem KJ (w:World):Calls Tryz.prog 64 #[] w fun e w'=>e=.returned (.pointer (some ⟨w.heap.size,0,none⟩))/\w'=w.alloc (.cells Tryz.zeroCells170 170):=by go_enter Tryz.func64,Tryz.ntmps64;go_wp2;go_ret;exact⟨rfl,rfl⟩
theorem info128:(Tryz.prog.info? 168).map (·.size)=some 65536:=by kernel_rfl
theorem setRow_new (w:World)(c c':Array Value)(t:TypeId):(w.alloc (.cells c t)).setRow w.heap.size c'=w.alloc (.cells c' t):=World.setRow_alloc_new w c c' t
theorem clone_any (B:Nat)(c:Array Value)(w:World)(hB:w.heap[B]? =some (.cells c 170 (0,0)))(hc:c.size=65536)(h1:c.all (·.oneCell')=true):Calls Tryz.prog 66 #[.pointer (some ⟨B,0,none⟩)] w fun e w'=>e=.returned (.pointer (some ⟨w.heap.size,0,none⟩))/\w'=w.alloc (.cells c 170):=by(have ah:B<w.heap.size:=(qN.1 hB).1;have ch:(w.alloc (.cells Tryz.zeroCells170 170)).heap[B]? =some (.cells c 170 (0,0)):=by rw[Below.heap_alloc _ _ _ ah];exact hB);(have hi:(Tryz.prog.info? 168).map (·.size)=some c.size:=by rw[hc];exact info128);(have hz:Tryz.zeroCells170.size=c.size:=by rw[hc,Tryz.zeroCells170_size]);have hn:(w.alloc (.cells Tryz.zeroCells170 170)).heap[w.heap.size]? =some (.cells Tryz.zeroCells170 170 (0,0)):=heap_alloc_last w _;have gl:=setRow_new w Tryz.zeroCells170 c 170;go_enter Tryz.func66,Tryz.ntmps66;go_wp2_with (first|(go_at_call 64;refine(KJ _).mono ?_;rintro e w' ⟨rfl,rfl⟩)|(refine wpList_load_row rfl 168 (.tmp 10) rfl B rfl 170 c (0,0) _ ch Tryz.underlying168 rfl hi ?_)|(refine wpList_store_row rfl 168 (.tmp 13) (.tmp 11) rfl w.heap.size c rfl rfl 170 Tryz.zeroCells170 hn hi hz h1 ?_;rw[gl]));go_ret;exact⟨rfl,rfl⟩
structure Bs (c:Array Value) (f:Nat->Int):Prop where
 size:c.size=65536
 at':∀i,i<65536->c[i]? =some (.int .u8 (f i))
 lo:∀i,i<65536->0<=f i
 hi:∀i,i<65536->f i<=255
theorem z2M {P:Program}{t e n:Nat}{d:TypeDesc}(hu:P.underlying t=some (.array n e))(he:P.underlying e=some d)(hd:(match d with|.struct _|.array _ _=>true|_=>false)=false)(hs:∀w,(sizeOf e).run P w=.ok 1 w)(c:Array Value)(x:Int)(v:Value)(w:World)(h0:0<=x)(hk:x.toNat<n)(hc:c[x.toNat]? =some v):(Instr.index t (.agg c) (.int .i64 x)).run P w=.ok v w:=by(have h1:x<(n:Int):=by omega);have ha:(isAgg e).run P w=.ok false w:=by{unfold isAgg;rw[qR,run_underlying he w];cases d<;>simp_all};unfold Instr.index;simp only[qR,asIntOf,qA,qy,run_underlying hu];rw[qE ⟨h0,h1⟩];simp only[qR,hs,qy,part,ha,zf];simp[hc]
theorem run_indexAt_arr {P:Program}{t e n:Nat}(hu:P.underlying t=some (.array n e))(hs:∀w,(sizeOf e).run P w=.ok 1 w)(B:Nat)(x:Int)(w:World)(h0:0<=x)(hk:x.toNat<n):(Instr.indexAt t (.pointer (some ⟨B,0,none⟩)) (.int .i64 x)).run P w=.ok (.pointer (some ⟨B,x.toNat,none⟩)) w:=by(have h1:x<(n:Int):=by omega);unfold Instr.indexAt;simp only[qR,asIntOf,qA,qy,run_underlying hu,Instr.sureAddr];rw[qE ⟨h0,h1⟩];simp only[qR,hs,qy,qA,zf];unfold Addr.add;split;{rename_i h;rw[h]};simp
theorem x8D {P:Program}{ops:Array Oper}{rest:List Oper}{o:Oper}{a:Act}{w:World}{Q:Exit->Act->World->Prop}(dI:o.guard=none)(t:TypeId)(x i:Operand)(ho:o.op=.index t x i)(c:Array Value)(k:Int)(v:Value) (hx:a.eval x=.agg c) (hi:a.eval i=.int .i64 k) (hr:(Instr.index t (.agg c) (.int .i64 k)).run P w=.ok v w) (h:wpList P ops Q rest (a.put o.dst v) w):wpList P ops Q (o::rest) a w:=wpList_plain dI fun _ hK=>by unfold Oper.wp execOp;simp only[ho,hx,hi,qR,hr,qy,qA];exact hK _ _ h
theorem Ke {P:Program}{ops:Array Oper}{rest:List Oper}{o:Oper}{a:Act}{w:World}{Q:Exit->Act->World->Prop}(dI:o.guard=none)(t:TypeId)(x i:Operand)(ho:o.op=.indexAddr t x i)(B:Nat)(k:Int) (hx:a.eval x=.pointer (some ⟨B,0,none⟩)) (hi:a.eval i=.int .i64 k) (hr:(Instr.indexAt t (.pointer (some ⟨B,0,none⟩)) (.int .i64 k)).run P w=.ok (.pointer (some ⟨B,k.toNat,none⟩)) w) (h:wpList P ops Q rest (a.put o.dst (.pointer (some ⟨B,k.toNat,none⟩))) w):wpList P ops Q (o::rest) a w:=wpList_plain dI fun _ hK=>by unfold Oper.wp execOp;simp only[ho,hx,hi,qR,hr,qy,qA];exact hK _ _ h
theorem info5:(Tryz.prog.info? 5).map (fun i=>(i.zero,i.size,i.bytes))=some (some (.int .u8 0),1,1):=by kernel_rfl
def ZI (n at0:Int):Int:=(48+bits .and .u8 (n/2^(7-at0%8).toNat) 1)%256
theorem info5s:(Tryz.prog.info? 5).map (·.size)=some 1:=by kernel_rfl
theorem arr128:Tryz.prog.arrayLen 168=65536:=by kernel_rfl
theorem Kf {P:Program}{ops:Array Oper}{rest:List Oper}{o:Oper}{a:Act}{w:World}{Q:Exit->Act->World->Prop}(dI:o.guard=none)(t:TypeId)(x:Operand)(lo hi mx:Option Operand)(ho:o.op=.slice t x lo hi mx) {v v':Value} {l h m:Option Value} (hx:a.eval x=v) (hl:lo.map a.eval=l) (hh:hi.map a.eval=h) (hm:mx.map a.eval=m) (hr:(Instr.sliceAt t v l h m).run P w=.ok v' w) (hk:wpList P ops Q rest (a.put o.dst v') w):wpList P ops Q (o::rest) a w:=wpList_plain dI fun _ hK=>by unfold Oper.wp execOp;simp only[ho,hx,hl,hh,hm,qR,hr,qy,qA];exact hK _ _ hk
theorem fits_any (x n:Int)(w:World):Calls Tryz.prog 128 #[.int .i64 x,.int .i64 n] w fun e w'=>e=.returned (.bool (decide (0<=x)&&decide (0<=n)&&decide (x<=524288)&&decide (n<=524288-x)))/\w'=w:=by by_cases h0:0<=x;{by_cases h1:0<=n;{by_cases h2:x<=524288;{(have h3:IntKind.wrap .i64 (524288-x)=524288-x:=by simp[IntKind.wrap,IntKind.bits,IntKind.signed];omega);rw[qk h0,qk h1,qk h2];go_enter Tryz.func128,Tryz.ntmps128;go_wp2;go_ret;simp};rw[qk h0,qk h1,qj h2];go_enter Tryz.func128,Tryz.ntmps128;go_wp2;go_ret;simp};rw[qk h0,qj h1];go_enter Tryz.func128,Tryz.ntmps128;go_wp2;go_ret;simp};rw[qj h0];go_enter Tryz.func128,Tryz.ntmps128;go_wp2;go_ret;simp
theorem elem128:Tryz.prog.elem 168=5:=by kernel_rfl
end Go.Proofs.YtadehgdfijjikaaGreatDoor
