/- THE PURE EXECUTOR -/
import Derived.Laws.Strings
import Derived.Test.YtadehgdfijjikaaGreatDoorX6
set_option linter.all false
noncomputable section
namespace Go.Yec
open Go Go.Xec
def cst0:GB->GA Cst|.bool b=>some (.bool b)|.int k n=>some (.int k n)|.string s=>some (.str s.data.toList)|.pointer none=>some .nilp|.slice none 0 0=>some .nils|.nilFunc=>some .nilf|.nilIface=>some .nili|_=>none
def cstL (l:List GB):GA (List Cst):=List.rec (some []) (fun v _ ih=>(cst0 v).bind fun c=>ih.map fun r=>c::r) l
def cstV:GB->GA Cst|.agg cs=>(cstL cs.toList).map .agg|v=>cst0 v
def GO:GC->GA Yd|.tmp t=>some (.t t)|.const v=>(cstV v).map .c|.func f=>some (.f f)|.global _=>none
def ydL (l:List GC):GA (List Yd):=List.rec (some []) (fun x _ ih=>(GO x).bind fun c=>ih.map fun r=>c::r) l
def y1 (f:Yd->WC)(x:GC):GA WC:=(GO x).map f
def y2 (f:Yd->Yd->WC)(x y:GC):GA WC:=(GO x).bind fun a=>(GO y).map fun b=>f a b
def ydOpt:GA GC->GA (GA Yd)|none=>some none|some x=>(GO x).map some
def cInts (l:List Cst):GA (IntKind×List Int):=List.rec none (fun c _ ih=>match c with|.int k n=>(match ih with|some (k',r)=>cond (VW k k') (some (k,n::r)) none|none=>some (k,[n]))|_=>none) l
def x2A (P:GF)(t:GD):Bool:=match P.underlying t with|some (.array _ _)=>true|some (.struct fs)=>(match fs.toList with|[f]=>(match P.underlying f.type with|some (.array _ _)=>true|_=>false)|_=>false)|_=>false
def y9D (k:IntKind)(l:List Cst):GA (List Int):=List.rec (some []) (fun c _ ih=>match c with|.int k' n=>cond (VW k k') (ih.map fun r=>n::r) none|_=>none) l
def GN (P:GF)(e:GD):GA WC:=(x4Q P e).bind fun z=>(cstL z).bind fun cs=>cond (x2A P e) (match cs with|.int k _::_=>(y9D k cs).map fun l=>.allocI e k l|.nilf::_=>some (.alloc cs)|_=>none) (some (.alloc cs))
def ekOf:GA TypeDesc->GA EK|some (.int _)=>some .i|some .bool=>some .b|some .string=>some .s|_=>none
def eqFs (P:GF)(fs:List Field):Nat->GA (List EK):=List.rec (fun _=>some []) (fun f _ ih i=>cond (cond (f.name != "_") (Nat.beq f.offset i) false) ((ekOf (P.underlying f.type)).bind fun k=>(ih (Nat.succ i)).map fun r=>k::r) none) fs
def eqKs (P:GF)(t:GD)(fs:List Field):List EK:=cond (cond (P.stoodInHeld t) true (P.eqGuardType P.depth t)) [] (match eqFs P fs 0 with|some l=>l|none=>[])
def yBin (P:GF)(op:BinOp)(t:GD)(x y:GC):GA WC:=match P.underlying t with|some (.int _)=>(match op with|.add|.sub|.mul|.and|.or|.xor|.andNot=>y2 (.ari op) x y|.quo|.rem=>y2 (.div op) x y|.shl|.shr=>y2 (.shf op) x y|.eql|.neq|.lss|.leq|.gtr|.geq=>y2 (.cmp op) x y)|some .bool=>(match op with|.eql=>y2 (.beq false) x y|.neq=>y2 (.beq true) x y|_=>none)|some .string=>(match op with|.add=>y2 .scat x y|.eql=>y2 (.scmp false) x y|.neq=>y2 (.scmp true) x y|_=>none)|some (.pointer _)=>(match op with|.eql=>y2 (.eqnil false false) x y|.neq=>y2 (.eqnil false true) x y|_=>none)|some (.slice _)=>(match op with|.eql=>y2 (.eqnil true false) x y|.neq=>y2 (.eqnil true true) x y|_=>none)|some (.struct fs)=>(match op with|.eql=>y2 (.aeq false (eqKs P t fs.toList)) x y|.neq=>y2 (.aeq true (eqKs P t fs.toList)) x y|_=>none)|_=>none
def y0J (P:GF)(e:GD):Bool:=cond (VA (P.underlying e)) (match Yh P e with|some k=>Nat.beq k 1|none=>false) false
def z1Z (P:GF)(s d:GD)(x:GC):GA WC:=match P.underlying d,P.underlying s with|some (.int k),some (.int _)=>y1 (.iconv k) x|some .string,some (.int _)=>y1 .rstr x|some .string,some .string=>y1 (fun x=>.ssl x none none) x|some .string,some (.slice e)=>cond (VA (P.underlying e)) (y1 .b2s x) none|some (.slice e),some .string=>cond (y0J P e) (y1 (.s2b e) x) none|some (.slice e),some (.slice e')=>cond (cond (cond (Nat.beq s d) (Nat.beq e' e) false) (y0J P e) false) (y1 .b2b x) none|_,_=>none
def y0R (P:GF)(t:GD)(x:GC)(lo hi:GA GC):GA WC:=match P.underlying t with|some .string=>(GO x).bind fun x=>(ydOpt lo).bind fun l=>(ydOpt hi).map fun h=>.ssl x l h|_=>none
def x3E (P:GF)(e:GD):GA IntKind:=match P.underlying e,Yh P e,x4Q P e,P.info? e with|some (.int k),some 1,some [.int k' 0],some i=>cond (cond (VW k k') (cond (Nat.ble 1 i.bytes) (Nat.ble i.bytes 8) false) false) (some k) none|_,_,_,_=>none
def y5M (ps:List (Nat×GC)):GA (List (Nat×Yd)):=List.rec (some []) (fun p _ ih=>(GO p.2).bind fun c=>ih.map fun r=>(p.1,c)::r) ps
def z1Y (pl:List (Nat×Nat))(ps:List (Nat×Yd)):GA (List ((Nat×Nat)×Yd)):=List.rec (some []) (fun p _ ih=>(VF pl p.1).bind fun q=>ih.map fun r=>(q,p.2)::r) ps
def arrPl (s n:Nat):List (Nat×Nat):=(List.range n).map fun i=>(Nat.mul i s,s)
def yPl (P:GF)(t:GD):GA (List (Nat×Nat)):=match x6Q (P.underlying t)with|some fs=>x7R P fs|none=>(y9A (P.underlying t)).bind fun p=>(Yh P p.2).map fun s=>arrPl s p.1
def yBuild (P:GF)(t:GD)(ps:List (Nat×GC)):GA WC:=(x4Q P t).bind fun z=>(cstL z).bind fun cs=>(yPl P t).bind fun pl=>(y5M ps).bind fun ys=>(z1Y pl ys).map fun q=>.bld cs q
def x1E (P:GF)(t len:Nat)(ps:List (Nat×GC)):GA WC:=(x2X (P.underlying t)).bind fun e=>(x3E P e).bind fun k=>(y5M ps).bind fun ys=>cond (Nat.ble len 65536) (some (.bslI e k len ys)) none
def GL (P:GF)(t:GD)(x i:GC):GA WC:=match P.underlying t with|some (.array n e)=>cond (match Yh P e with|some s=>Nat.beq s 1|none=>false) (y2 (.aaddr n) x i) none|some (.slice e)=>cond (match Yh P e with|some s=>Nat.beq s 1|none=>false) (y2 .iaddr x i) none|_=>none
def v1B (P:GF)(s:GD)(f:Nat):GA Field:=(x6Q (P.underlying s)).bind fun fs=>VF fs f
def Ye (P:GF)(b:Builtin)(args:List GC)(ts:List GD):GA WC:=match b,args,ts with|.len,[x],[t]=>(match P.underlying t with|some .string=>y1 .slen x|some (.slice _)=>y1 .llen x|_=>none)|.max,[x,y],_=>y2 (.mx true) x y|.min,[x,y],_=>y2 (.mx false) x y|.append,[s,x],[st,xt]=>(x2X (P.underlying st)).bind fun e=>(x2X (P.underlying xt)).bind fun e'=>(x3E P e).bind fun _=>(x3E P e').bind fun _=>y2 (.app e) s x|_,_,_=>none
def u0L (P:GF)(e:GD):Bool:=match P.underlying e,Yh P e with|some (.int _),some 1=>true|_,_=>false
def opEq:GC->GC->Bool|.tmp a,.tmp b=>Nat.beq a b|_,_=>false
theorem v3A {a b:GC}(h:opEq a b=true):a=b:=by unfold opEq at h;split at h;{rw[Ju h]};cases h
def yMake (P:GF)(t:GD)(l c:GC):GA WC:=cond (opEq l c) ((x2X (P.underlying t)).bind fun e=>(x3E P e).bind fun k=>y1 (fun x=>.prim (.mks e k) [x]) l) none
def Yt (P:GF):Op->GA WC|.move x=>y1 .mv x|.assign x=>y1 .mv x|.nilCheck x=>y1 .nilck x|.pick c a b=>(GO c).bind fun c=>(GO a).bind fun a=>(GO b).map fun b=>.pick c a b|.binOp op t x y _=>yBin P op t x y|.unOp .not _ x=>y1 .not x|.unOp .neg _ x=>y1 .neg x|.convert s d x=>z1Z P s d x|.index t x i=>(match P.underlying t with|some .string=>y2 .sidx x i|some (.array n e)=>cond (u0L P e) (y2 (.aidx n) x i) none|_=>none)|.slice t x lo hi none=>y0R P t x lo hi|.call {callee:=.builtin b,args,argTypes}=>Ye P b args.toList argTypes.toList|.call {callee:=.value (.func f),args,..}=>(ydL args.toList).map fun a=>.call f a|.call {callee:=.value (.tmp t),args,..}=>(ydL args.toList).map fun a=>.callv (.t t) a|.box e x=>y1 (.box e) x|.alloc e=>GN P e|.fieldAddr s x f=>(v1B P s f).bind fun fd=>(Yh P fd.type).bind fun k=>cond (Nat.ble 1 k) (y1 (fun x=>.faddr x fd.offset) x) none|.field s x f=>(v1B P s f).bind fun fd=>(P.underlying fd.type).bind fun _=>(Yh P fd.type).bind fun k=>y1 (fun x=>.fld x fd.offset k (Yu (P.underlying fd.type))) x|.load t a=>(P.underlying t).bind fun _=>(Yh P t).bind fun k=>y1 (.ld k (Yu (P.underlying t))) a|.store t a v=>(Yh P t).bind fun k=>y2 (.st k) a v|.build t ps=>yBuild P t ps.toList|.buildSlice t len ps=>x1E P t len ps.toList|.indexAddr t x i=>GL P t x i|.extract t ix=>y1 (fun x=>.ext x ix) t|.range t x=>(match P.underlying t with|some .string=>y1 (fun x=>.prim .rng [x]) x|_=>none)|.next it true=>y1 (fun x=>.prim .nxt [x]) it|.makeSlice t l c=>yMake P t l c|_=>none
def chOf (all:List Oper)(Cs:List Ch):GA (Nat×Bool)->GA Ch|none=>some []|some (j,want)=>((VF all j).bind (·.dst)).bind fun t=>(VF Cs j).map fun C=>(t,want)::C
def x5V (all:List Oper):List Oper->List Ch->GA (List Ch):=fun l=>List.rec (fun acc=>some acc) (fun o _ ih acc=>(chOf all acc o.guard).bind fun C=>ih (acc++[C])) l
def Wv (P:GF)(sz:Nat)(C:Ch)(o:Oper):GA YO:=cond (y9V sz o.dst) ((Yt P o.op).map fun y=>⟨C,o.dst,y⟩) none
def v7A (P:GF)(sz:Nat)(ops:List Oper)(Cs:List Ch):GA (List YO):=List.rec (fun Cs=>List.casesOn Cs (some []) (fun _ _=>none)) (fun o _ ih Cs=>List.casesOn Cs none (fun C Cs=>(Yec.Wv P sz C o).bind fun y=>(ih Cs).map fun r=>y::r)) ops Cs
def x2B (l:List YO):List Nat:=List.rec [] (fun o _ ih=>match o.C,o.dst with|_::_,some d=>d::ih|_,_=>ih) l
abbrev Dn:=List (Ch×Nat)
def hasD (t:Nat)(C:Ch)(dn:Dn):Bool:=List.rec false (fun q _ ih=>cond (cond (Nat.beq q.2 t) (eqC q.1 C) false) true ih) dn
def dIn (t:Nat)(dn:Dn):Bool:=List.rec false (fun q _ ih=>cond (Nat.beq q.2 t) true ih) dn
def y3X (dn:Dn):Ch->Bool|[]=>true|p::C=>hasD p.1 C dn
def x6G (l:List YO):Dn->Bool:=List.rec (fun _=>true) (fun o _ ih dn=>cond (y3X dn o.C) (match o.dst with|some d=>cond (dIn d dn) false (ih ((o.C,d)::dn))|none=>ih dn) false) l
def EZ:Kd->DK|.free=>.free|.load=>.load|.eff=>.eff
def v7B (P:GF)(sz:Nat)(all:List Oper)(Cs:List Ch)(L:List PI):GA (List YD):=List.rec (some []) (fun x _ ih=>(VF all x.i).bind fun o=>(VF Cs x.i).bind fun C=>(Yec.Wv P sz C o).bind fun y=>ih.map fun r=>⟨x.i,x.D,EZ x.kd,y⟩::r) L
def GR (l:List YD):List YO:=List.rec [] (fun x _ ih=>x.o::ih) l
def isMk:WC->Bool|.box _ _|.alloc _|.allocI _ _ _|.bslI _ _ _ _|.s2b _ _=>true|_=>false
def okEA (l:List YD):Nat->Nat->Bool:=List.rec (fun _ _=>true) (fun x _ ih E A=>match x.kd with|.free=>ih E (cond (isMk x.o.op) (Nat.lor A (Wa x.i)) A)|.load=>cond (sub E x.D) (ih E A) false|.eff=>cond (cond (sub E x.D) (sub A x.D) false) (ih (Nat.lor E (Wa x.i)) A) false) l
def compR (P:GF)(sz:Nat)(ops:List Oper):Bool->GA YC|false=>(x5V ops ops []).bind fun Cs=>(v7A P sz ops Cs).bind fun l=>cond (x6G l []) (some (.ops l (x2B l))) none|true=>(x5V ops ops []).bind fun Cs=>(y1B P sz ops).bind fun L=>(v7B P sz ops Cs L).bind fun l=>cond (cond (x6G (GR l) []) (okEA l 0 0) false) (some (.draw l (x2B (GR l)))) none
def y7U (l:List YO):List Nat:=List.rec [] (fun o _ ih=>match o.dst with|some d=>d::ih|none=>ih) l
def GG (h:Kh):List Nat:=List.rec [] (fun p _ ih=>match p.1 with|.tmp t=>t::ih|_=>ih) h
def x6C (c:YC):List Nat:=YC.rec (motive:=fun _=>List Nat) [] (fun l clr=>y7U l++clr) (fun l clr=>y7U (GR l)++clr) (fun _ _ a b=>a++b) (fun _ _ _ a b=>a++b) (fun _ _ a=>a) (fun h _ _ a=>GG h++a) (fun _=>[]) [] c
def z8N (P:GF)(sz:Nat)(c:Code):List Kh->GA (YC×List Kh):=Code.rec (motive:=fun _=>List Kh->GA (YC×List Kh)) (fun hs=>some (.skip,hs)) (fun _ ops draw hs=>(compR P sz ops.toList draw).map fun y=>(y,hs)) (fun _ _ ia ib hs=>(ia hs).bind fun p=>(ib p.2).map fun q=>(.seq p.1 q.1,q.2)) (fun c _ _ ia ib hs=>(GO c).bind fun c=>(ia hs).bind fun p=>(ib p.2).map fun q=>(.cond c p.1 q.1,q.2)) (fun id _ ib hs=>(ib hs).map fun p=>(.block id p.1,p.2)) (fun _ ib hs=>match hs with|h::hs=>(ib hs).map fun p=>(.loop h (GG h++x6C p.1) p.1,p.2)|[]=>none) (fun _ _ _ _ _ _ _=>none) (fun id hs=>some (.exit id,hs)) (fun _ _ _=>none) (fun _ _=>none) (fun _ _=>none) (fun hs=>some (.ret,hs)) (fun _ _=>none) c
def resV (P:GF):ResultVar->GA RV|.tmp t=>some (.t t)|.cell a t=>(P.underlying t).bind fun _=>(Yh P t).map fun n=>.c a n (Yu (P.underlying t))
def resT (P:GF)(l:List ResultVar):GA (List RV):=List.rec (some []) (fun r _ ih=>(resV P r).bind fun v=>ih.map fun vs=>v::vs) l
def v0H (P:GF)(f:FuncId)(hs:List Kh):GA (YC×List RV×Nat):=(P.funcs[f]?).bind fun fn=>fn.body.bind fun c=>(z8N P fn.ntmps c hs).bind fun p=>(resT P fn.results.toList).map fun rs=>(p.1,rs,fn.ntmps)
abbrev Mu:=Nat->GA (GA Nat×Nat)
section
variable {D:Type}
mutual
inductive Wy (V:D->List (PV D)) (μ:Mu) (H:Hp) (M:Nat->Prop):PV D->GB->Prop
 |undef (v:GB):Wy V μ H M .undef v
 |bool (b:Bool):Wy V μ H M (.bool b) (.bool b)
 |int (k:IntKind) (n:Int):Wy V μ H M (.int k n) (.int k n)
 |str (b:ByteArray):Wy V μ H M (.str b.data.toList) (.string b)
 |agg (l:List (PV D)) (a:Array GB) (h:WY V μ H M l a.toList):Wy V μ H M (.agg l) (.agg a)
 |aggI (k:IntKind) (l:List Int) (a:Array GB) (h:a.toList=l.map (Value.int k)):Wy V μ H M (.aggI k l) (.agg a)
 |tup (l:List (PV D)) (a:Array GB) (h:WY V μ H M l a.toList):Wy V μ H M (.tup l) (.tuple a)
 |nilp:Wy V μ H M .nilp (.pointer none)
 |nils:Wy V μ H M .nils (.slice none 0 0)
 |nilf:Wy V μ H M .nilf .nilFunc
 |nili:Wy V μ H M .nili .nilIface
 |lptr (i off x len:Nat) (h:μ i=some (some x,len)):Wy V μ H M (.lptr i off) (.pointer (some ⟨x,off,none⟩))
 |lelt (i:Nat) (ix:Int) (x len:Nat) (h:μ i=some (some x,len)) (h0:0<=ix) (h1:ix.toNat<len):Wy V μ H M (.lelt i ix) (.pointer (some ⟨x,ix.toNat,none⟩))
 |lsl (i x len c:Nat) (h:μ i=some (some x,len)) (hc:c=Uu\/c=len):Wy V μ H M (.lsl i) (.slice (some ⟨x,0,none⟩) len c)
 |lsln (i:Nat) (h:μ i=some (none,0)):Wy V μ H M (.lsl i) (.slice none 0 0)
 |fsl0 (esz:Nat) (f:Nat->PV D):Wy V μ H M (.fsl esz 0 f) (.slice none 0 0)
 |fsl (esz n:Nat) (f:Nat->PV D) (x off c:Nat) (l:List GB) (e:GD) (hx:¬M x) (hg:VJ H x=some (.cells l e)) (hl:off+n*esz<=l.length) (h:∀i,i<n->Rep1 V μ H M esz (f i) ((l.drop (off+i*esz)).take esz)):Wy V μ H M (.fsl esz n f) (.slice (some ⟨x,off,none⟩) n c)
 |fptr (esz:Nat) (v:PV D) (x off:Nat) (l:List GB) (e:GD) (hx:¬M x) (hg:VJ H x=some (.cells l e)) (hl:off+esz<=l.length) (h:Rep1 V μ H M esz v ((l.drop off).take esz)):Wy V μ H M (.fptr v) (.pointer (some ⟨x,off,none⟩))
 |dat (d:D) (a:Array GB) (h:WY V μ H M (V d) a.toList):Wy V μ H M (.dat d) (.agg a)
 |fn (f:FuncId) (a b:List (PV D)) (x y:Array GB) (h1:WY V μ H M a x.toList) (h2:WY V μ H M b y.toList):Wy V μ H M (.fn f a b) (.func (.func f) x y)
 |opt1 (C:Ch) (v:PV D) (x:GB) (h:Wy V μ H M v x):Wy V μ H M (.opt C true v) x
 |opt0 (C:Ch) (v:PV D):Wy V μ H M (.opt C false v) Go.undef
 |nx1 (p c:Int):Wy V μ H M (.nx true p c) (.tuple #[.bool true,.int .i64 p,.int .i32 c])
 |nx0 (p c:Int):Wy V μ H M (.nx false p c) (.tuple #[.bool false])
 |celt (i:Nat) (ix:Int) (n:Nat) (x len:Nat) (h:μ i=some (some x,len)) (h0:0<=ix) (h1:ix.toNat<n):Wy V μ H M (.celt i ix n) (.pointer (some ⟨x,ix.toNat,none⟩))
 |sel (l:List (PV D)) (ix:Int) (v:PV D) (x:GB) (h0:0<=ix) (hl:l[ix.toNat]? =some v) (h:Wy V μ H M v x):Wy V μ H M (.sel l ix) x
inductive WY (V:D->List (PV D)) (μ:Mu) (H:Hp) (M:Nat->Prop):List (PV D)->List GB->Prop
 |nil:WY V μ H M [] []
 |cons (a:PV D) (x:GB) (l:List (PV D)) (m:List GB) (h:Wy V μ H M a x) (t:WY V μ H M l m):WY V μ H M (a::l) (x::m)
inductive Rep1 (V:D->List (PV D)) (μ:Mu) (H:Hp) (M:Nat->Prop):Nat->PV D->List GB->Prop
 |one (v:PV D) (x:GB) (h:Wy V μ H M v x):Rep1 V μ H M 1 v [x]
 |agg (n:Nat) (l:List (PV D)) (m:List GB) (h:WY V μ H M l m):Rep1 V μ H M n (.agg l) m
 |dat (n:Nat) (d:D) (m:List GB) (h:WY V μ H M (V d) m):Rep1 V μ H M n (.dat d) m
end
variable {V:D->List (PV D)} {μ μ':Mu} {H H':Hp} {M M':Nat->Prop}
structure Keep (μ:Mu) (H:Hp) (M:Nat->Prop) (μ':Mu) (H':Hp) (M':Nat->Prop):Prop where
 mu:∀i q,μ i=some q->μ' i=some q
 fz:∀x o,¬M x->VJ H x=some o->¬M' x/\VJ H' x=some o
theorem Wy.keep {v:PV D}{x:GB}(h:Wy V μ H M v x)(k:Keep μ H M μ' H' M'):Wy V μ' H' M' v x:=by refine Wy.rec (motive_1:=fun v x _=>Wy V μ' H' M' v x) (motive_2:=fun l m _=>WY V μ' H' M' l m) (motive_3:=fun n v m _=>Rep1 V μ' H' M' n v m) ?_ ?_ ?_ ?_ ?_ ?_ ?_ ?_ ?_ ?_ ?_ ?_ ?_ ?_ ?_ ?_ ?_ ?_ ?_ ?_ ?_ ?_ ?_ ?_ ?_ ?_ ?_ ?_ ?_ ?_ ?_ h;{exact fun v=>.undef v};{exact fun b=>.bool b};{exact fun k n=>.int k n};{exact fun b=>.str b};{exact fun l a _ h=>.agg l a h};{exact fun k l a h=>.aggI k l a h};{exact fun l a _ h=>.tup l a h};{exact .nilp};{exact .nils};{exact .nilf};{exact .nili};{exact fun i off x len h=>.lptr i off x len (k.mu _ _ h)};{exact fun i ix x len h h0 h1=>.lelt i ix x len (k.mu _ _ h) h0 h1};{exact fun i x len c h hc=>.lsl i x len c (k.mu _ _ h) hc};{exact fun i h=>.lsln i (k.mu _ _ h)};{exact fun esz f=>.fsl0 esz f};{exact fun esz n f x off c l e hx hg hl _ ih=>.fsl esz n f x off c l e (k.fz _ _ hx hg).1 (k.fz _ _ hx hg).2 hl ih};{exact fun esz v x off l e hx hg hl _ ih=>.fptr esz v x off l e (k.fz _ _ hx hg).1 (k.fz _ _ hx hg).2 hl ih};{exact fun d a _ h=>.dat d a h};{exact fun f a b x y _ _ h1 h2=>.fn f a b x y h1 h2};{exact fun C v x _ h=>.opt1 C v x h};{exact fun C v=>.opt0 C v};{exact fun p c=>.nx1 p c};{exact fun p c=>.nx0 p c};{exact fun i ix n x len h h0 h1=>.celt i ix n x len (k.mu _ _ h) h0 h1};{exact fun l ix v x h0 hl _ h=>.sel l ix v x h0 hl h};{exact .nil};{exact fun a x l m _ _ h t=>.cons a x l m h t};{exact fun v x _ h=>.one v x h};{exact fun n l m _ h=>.agg n l m h};exact fun n d m _ h=>.dat n d m h
theorem WY.keep {l:List (PV D)}{m:List GB}(h:WY V μ H M l m)(k:Keep μ H M μ' H' M'):WY V μ' H' M' l m:=by induction l generalizing m with|nil=>{cases h;exact .nil}|cons a l ih=>cases h with|cons _ x _ m h t=>exact .cons a x l m (h.keep k) (ih t)
theorem WY.length {l:List (PV D)}{m:List GB}(h:WY V μ H M l m):l.length=m.length:=by induction l generalizing m with|nil=>{cases h;rfl}|cons a l ih=>cases h with|cons _ x _ m h t=>simp[ih t]
theorem WY.append {l l':List (PV D)}{m m':List GB}(h:WY V μ H M l m)(h':WY V μ H M l' m'):WY V μ H M (l++l') (m++m'):=by induction l generalizing m with|nil=>{cases h;exact h'}|cons a l ih=>cases h with|cons _ x _ m h t=>exact .cons _ _ _ _ h (ih t)
theorem WY.get {l:List (PV D)}{m:List GB}(h:WY V μ H M l m)(i:Nat)(v:PV D)(hi:l[i]? =some v):∃x,m[i]? =some x/\Wy V μ H M v x:=by induction l generalizing m i with|nil=>{simp at hi}|cons a l ih=>cases h with|cons _ x _ m h t=>cases i with|zero=>{simp at hi;subst hi;exact⟨x,rfl,h⟩}|succ i=>simpa using ih t i (by simpa using hi)
theorem WY.drop {l:List (PV D)}{m:List GB}(h:WY V μ H M l m)(i:Nat):WY V μ H M (l.drop i) (m.drop i):=by induction l generalizing m i with|nil=>{cases h;simpa using .nil}|cons a l ih=>cases h with|cons _ x _ m h t=>cases i with|zero=>{exact .cons _ _ _ _ h t}|succ i=>simpa using ih t i
theorem WY.take {l:List (PV D)}{m:List GB}(h:WY V μ H M l m)(i:Nat):WY V μ H M (l.take i) (m.take i):=by induction l generalizing m i with|nil=>{cases h;simpa using .nil}|cons a l ih=>cases h with|cons _ x _ m h t=>cases i with|zero=>{simpa using .nil}|succ i=>simpa using .cons _ _ _ _ h (ih t i)
theorem Wy.int_of {k:IntKind}{n:Int}{x:GB}(h:Wy V μ H M (.int k n) x):x=.int k n:=by cases h;rfl
theorem Wy.bool_of {b:Bool}{x:GB}(h:Wy V μ H M (.bool b) x):x=.bool b:=by cases h;rfl
theorem Wy.str_of {s:GS}{x:GB}(h:Wy V μ H M (.str s) x):∃b:ByteArray,b.data.toList=s/\x=.string b:=by cases h;exact⟨_,rfl,rfl⟩
inductive KT (V:D->List (PV D)) (μ:Mu) (H:Hp) (M:Nat->Prop):GA Nat->Nat->KR D->Prop
 |cells (x len:Nat) (l:List (PV D)) (xl:List GB) (e:GD) (h:VJ H x=some (.cells xl e)) (hl:WY V μ H M l xl):KT V μ H M (some x) len (.cells l)
 |rowI (x e:Nat) (k:IntKind) (l:List Int) (h:VJ H x=some (.cells (l.map (Value.int k)) e)):KT V μ H M (some x) l.length (.rowI e k l)
 |rowN (e:Nat) (k:IntKind):KT V μ H M none 0 (.rowI e k [])
 |iter (x len:Nat) (s:ByteArray) (p:Nat) (h:VJ H x=some (.iter s p)):KT V μ H M (some x) len (.iter s.data.toList (p:Int))
theorem KT.keep {ox:GA Nat}{len:Nat}{b:KR D}(h:KT V μ H M ox len b)(k:Keep μ H M μ' H' M')(he:∀x,ox=some x->VJ H' x=VJ H x):KT V μ' H' M' ox len b:=by cases h with|cells x len l xl e h hl=>{exact .cells x len l xl e (by rw[he x rfl];exact h) (hl.keep k)}|rowI x e k l h=>{exact .rowI x e k l (by rw[he x rfl];exact h)}|rowN e k=>{exact .rowN e k}|iter x len s p h=>exact .iter x len s p (by rw[he x rfl];exact h)
def MX (X:Nat->Prop)(μ:Mu)(B:Bt D):Nat->Prop:=fun x=>X x\/∃i s b len,WX B i=some (s,b)/\μ i=some (some x,len)
structure HR (V:D->List (PV D)) (X:Nat->Prop) (μ:Mu) (B:Bt D) (m:Nat) (H:Hp) (n:Nat):Prop where
 blk:∀i s b,WX B i=some (s,b)->s<m/\∃ox len,μ i=some (ox,len)/\KT V μ H (MX X μ B) ox len b
 inj:∀i j s s' b b' x a c,WX B i=some (s,b)->WX B j=some (s',b')->μ i=some (some x,a)->μ j=some (some x,c)->i=j
 nx:∀i s b x len,WX B i=some (s,b)->μ i=some (some x,len)->¬X x
 lt:∀i x len,μ i=some (some x,len)->x<n
 lm:∀i q,μ i=some q->i<m
 xlt:∀x,X x->x<n
 fresh:∀x,n<=x->VJ H x=none
theorem x1A (B:Bt D)(i j:Nat)(o:GA (Nat×KR D)):WX (Wc B i o) j=if j=i then o else WX B j:=Tr.get_set none o (i+1) B i j (Jh i)
theorem x3W (T:Tt D)(t u:Nat)(v:PV D):UJ (UI T t v) u=if u=t then v else UJ T u:=Tr.get_set .undef v (t+1) T t u (Jh t)
theorem z6F (t:Nat):UJ (.leaf:Tt D) t=.undef:=rfl
theorem x4U (t:Nat):WX (.leaf:Bt D) t=none:=rfl
structure Gr (μ:Mu) (B:Bt D) (m:Nat) (H:Hp) (n:Nat) (μ':Mu) (B':Bt D) (m':Nat) (H':Hp) (n':Nat):Prop where
 le:n<=n'
 lem:m<=m'
 mu:∀i,i<m->μ' i=μ i
 frame:∀x,x<n->(∀i s b len,WX B i=some (s,b)->μ i≠some (some x,len))->VJ H' x=VJ H x
 live:∀i s b,i<m->WX B' i=some (s,b)->∃s' b',WX B i=some (s',b')
 new:∀i s b x len,m<=i->WX B' i=some (s,b)->μ' i=some (some x,len)->n<=x\/∃j s' b' c,WX B j=some (s',b')/\μ j=some (some x,c)
 st:∀i s b,WX B' i=some (s,b)->s<m->WX B i=some (s,b)
 kept:∀i s b x len,i<m->WX B' i=some (s,b)->s<m->μ i=some (some x,len)->VJ H' x=VJ H x
theorem Gr.refl (μ:Mu)(B:Bt D)(m:Nat)(H:Hp)(n:Nat):Gr μ B m H n μ B m H n where
  le:=Jj _
  lem:=Jj _
  mu _ _:=rfl
  frame _ _ _:=rfl
  live _ s b _ h:=⟨s,b,h⟩
  new i s b x len _ h1 h2:=.inr ⟨i,s,b,len,h1,h2⟩
  st _ _ _ h _:=h
  kept _ _ _ _ _ _ _ _ _:=rfl
variable {X:Nat->Prop} {B B' B'':Bt D} {m m' m'' n n' n'':Nat} {μ'':Mu} {H'':Hp}
theorem Gr.off (g:Gr μ B m H n μ' B' m' H' n'){x:Nat}(hx:x<n)(h:∀i s b len,WX B i=some (s,b)->μ i≠some (some x,len)):∀i s b len,WX B' i=some (s,b)->μ' i≠some (some x,len):=by intro i s b len hb hm;by_cases hi:i<m;{obtain⟨s',b',h1⟩:=g.live i s b hi hb;exact h i s' b' len h1 (by rw[<-g.mu i hi];exact hm)};rcases g.new i s b x len (by omega) hb hm with h1|⟨j,s',b',c,h1,h2⟩;{omega};exact h j s' b' c h1 h2
theorem Gr.trans (g:Gr μ B m H n μ' B' m' H' n')(g':Gr μ' B' m' H' n' μ'' B'' m'' H'' n''):Gr μ B m H n μ'' B'' m'' H'' n'' where
  le:=JH g.le g'.le
  lem:=JH g.lem g'.lem
  mu i hi:=by rw[g'.mu i (by have:=g.lem;omega),g.mu i hi]
  frame x hx h:=by rw[g'.frame x (by have:=g.le;omega) (g.off hx h),g.frame x hx h]
  live i s b hi hb:=by
    obtain⟨s1,b1,h1⟩:=g'.live i s b (by have:=g.lem;omega) hb
    exact g.live i s1 b1 hi h1
  new i s b x len hi hb hm:=by
    have key:∀j s' b' c,WX B' j=some (s',b')->μ' j=some (some x,c)->n<=x\/∃j s' b' c,WX B j=some (s',b')/\μ j=some (some x,c):=fun j s' b' c h1 h2=>by
      by_cases hj:j<m
      . obtain⟨s2,b2,h3⟩:=g.live j s' b' hj h1;exact .inr ⟨j,s2,b2,c,h3,by rw[<-g.mu j hj];exact h2⟩
      . exact g.new j s' b' x c (by omega) h1 h2
    by_cases dp:i<m'
    . obtain⟨s1,b1,h1⟩:=g'.live i s b dp hb;exact key i s1 b1 len h1 (by rw[<-g'.mu i dp];exact hm)
    . rcases g'.new i s b x len (by omega) hb hm with h1|⟨j,s',b',c,h1,h2⟩
      . exact .inl (JH g.le h1)
      . exact key j s' b' c h1 h2
  st i s b hb hs:=g.st i s b (g'.st i s b hb (by have:=g.lem;omega)) hs
  kept i s b x len hi hb hs hm:=by
    have hl:=g.lem;rw[g'.kept i s b x len (by omega) hb (by omega) (by rw[g.mu i hi];exact hm),g.kept i s b x len hi (g'.st i s b hb (by omega)) hs hm]
theorem Gr.keep (g:Gr μ B m H n μ' B' m' H' n')(hr:HR V X μ B m H n):Keep μ H (MX X μ B) μ' H' (MX X μ' B') where
  mu i q h:=by rw[g.mu i (hr.lm i q h)];exact h
  fz x o hx ho:=by
    have ah:x<n:=by
      apply JP;intro hn;rw[hr.fresh x (by omega)]at ho;cases ho
    have dQ:∀i s b len,WX B i=some (s,b)->μ i≠some (some x,len):=fun i s b len h1 h2=>hx (.inr ⟨i,s,b,len,h1,h2⟩);refine⟨fun hm=>?_,by rw[g.frame x ah dQ];exact ho⟩
    rcases hm with h1|⟨i,s,b,len,h1,h2⟩
    . exact hx (.inl h1)
    . exact g.off ah dQ i s b len h1 h2
structure SR (V:D->List (PV D)) (X:Nat->Prop) (μ:Mu) (st:Y D) (T:Tm) (H:Hp) (n:Nat):Prop where
 hr:HR V X μ st.B st.m H n
 tr:∀t,Wy V μ H (MX X μ st.B) (UJ st.T t) (Um T t)
theorem x9J (T:Tt D)(d:GA Tmp)(v:PV D)(t:Nat):UJ (UY T d v) t=if d=some t then v else UJ T t:=by cases d with|none=>{simp[UY]}|some d=>simp only[UY,x3W];by_cases h:t=d;{subst h;simp};rw[JZ h,JZ (fun e=>h (by cases e;rfl))]
theorem v2R (T:Tm)(d:GA Tmp)(v:GB)(t:Nat):Um (put T d v) t=if d=some t then v else Um T t:=by cases d with|none=>{simp[put]}|some d=>simp only[put,x8N];by_cases h:t=d;{subst h;simp};rw[JZ h,JZ (fun e=>h (by cases e;rfl))]
theorem SR.put {st:Y D}{T:Tm}(h:SR V X μ st T H n)(d:GA Tmp){v:PV D}{x:GB}(hv:Wy V μ H (MX X μ st.B) v x):SR V X μ ⟨UY st.T d v,st.B,st.m⟩ (Xec.put T d x) H n:=⟨h.hr,fun t=>by rw[x9J,v2R];split;{exact hv};exact h.tr t⟩
end
variable [GT]
section
variable {D:Type} {V:D->List (PV D)} {μ:Mu} {H:Hp} {M:Nat->Prop} {P:GF} {o:Oper} {T:Tm} {ρ:Yd->PV D}
theorem YL {α β:Type}(s:Sem α)(f:α->Sem β):UG P (s>>=f)=(UG P s).bind fun a=>UG P (f a):=by show UG P (Sem.bind s f)=_;induction s with|pure a=>rfl|program k ih=>{exact ih P}|_=>rfl
theorem x3D {α:Type}(a:α):UG P (pure a:Sem α)=some a:=rfl
theorem x0W {t:GD}{d:TypeDesc}(h:P.underlying t=some d):UG P (underlying t)=some d:=by unfold underlying;rw[YL];have:UG P program=some P:=rfl;rw[this];simp only[JK,h];rfl
theorem z9D (k:IntKind):∀l:List Int,WD (l.map (Value.int k))=true|[]=>rfl|_::l=>z9D k l
def WZ (V:D->List (PV D))(μ:Mu)(H:Hp)(M:Nat->Prop)(T:Tm)(ρ:Yd->PV D):Prop:=∀(x:GC) (y:Yd),GO x=some y->Wy V μ H M (ρ y) (ev T x)
def WT (P:GF)(o:Oper)(T:Tm)(x:GB):Prop:=∀H2 n2,(YB P o).f T H2 n2=.ok x H2 n2
theorem YM {f:Yd->WC}{x:GC}{y:WC}(h:y1 f x=some y):∃a,GO x=some a/\y=f a:=by unfold y1 at h;cases e:GO x with|none=>{rw[e]at h;cases h}|some a=>rw[e]at h;cases h;exact⟨a,rfl,rfl⟩
theorem Ya {f:Yd->Yd->WC}{x x':GC}{y:WC}(h:y2 f x x'=some y):∃a b,GO x=some a/\GO x'=some b/\y=f a b:=by unfold y2 at h;cases e:GO x with|none=>{rw[e]at h;cases h}|some a=>rw[e]at h;cases e':GO x' with|none=>{rw[e']at h;cases h}|some b=>rw[e']at h;cases h;exact⟨a,b,rfl,rfl,rfl⟩
theorem Yy {α β:Type}{o:GA α}{f:α->GA β}{b:β}(h:o.bind f=some b):∃a,o=some a/\f a=some b:=by cases o with|none=>{cases h}|some a=>exact⟨a,rfl,h⟩
theorem GP {α β γ:Type}{o:Option α}{g:α->Option β}{k:α->β->Option γ}{c:γ}(h:(o.bind fun a=>(g a).bind (k a))=some c):∃a b,o=some a/\g a=some b/\k a b=some c:=by obtain⟨a,h1,h2⟩:=Yy h;obtain⟨b,h3,h4⟩:=Yy h2;exact⟨a,b,h1,h3,h4⟩
theorem YG {α β:Type}{o:GA α}{f:α->β}{b:β}(h:o.map f=some b):∃a,o=some a/\f a=b:=by cases o with|none=>{cases h}|some a=>cases h;exact⟨a,rfl,rfl⟩
theorem YY {α:Type}{b:Bool}{x:GA α}{a:α}(h:cond b x none=some a):b=true/\x=some a:=by cases b;{cases h};exact⟨rfl,h⟩
theorem x4W {a b:IntKind}(h:VW a b=true):a=b:=by cases a<;>cases b<;>first|rfl|(cases h)
theorem z1Q {v:GB}{c:Cst}(h:cst0 v=some c):x5P v=true:=by unfold cst0 at h;split at h<;>first|rfl|(cases h)
theorem u6Q {v:GB}{c:Cst}(h:cst0 v=some c):Wy V μ H M c.pv v:=by unfold cst0 at h;split at h<;>first|(cases h;done)|(cases h;first|exact .bool _|exact .int _ _|exact .str _|exact .nilp|exact .nils|exact .nilf|exact .nili)
theorem y7Z (v:GB)(l:List GB):cstL (v::l)=((cst0 v).bind fun c=>(cstL l).map fun r=>c::r):=rfl
theorem y7Y:∀{l:List GB} {cs:List Cst},cstL l=some cs->WD l=true/\WY V μ H M (pvL cs) l|[],cs,h=>by cases h;exact⟨rfl,.nil⟩|v::l,cs,h=>by rw[y7Z]at h;obtain⟨c,h1,h2⟩:=Yy h;obtain⟨r,h3,rfl⟩:=YG h2;obtain⟨i1,i2⟩:=y7Y h3;refine⟨?_,.cons _ _ _ _ (u6Q h1) i2⟩;show cond (x5P v) (WD l) false=true;rw[z1Q h1,i1];rfl
theorem pvL_eq (l:List Cst):(Cst.agg l).pv (D:=D)=.agg (pvL l):=by show PV.agg _=_;congr 1;induction l with|nil=>rfl|cons c l ih=>exact JV (List.cons _) ih
theorem v6X {v:GB}{c:Cst}(h:cstV v=some c):plain v=true/\Wy V μ H M c.pv v:=by unfold cstV at h;split at h;{rename_i cs;obtain⟨r,h1,rfl⟩:=YG h;obtain⟨h2,h3⟩:=y7Y (V:=V) (μ:=μ) (H:=H) (M:=M) h1;rw[pvL_eq];exact⟨h2,.agg _ _ h3⟩};rename_i ac;have h0:=z1Q h;refine⟨?_,u6Q h⟩;unfold plain;split;{exact absurd rfl (ac _)};{cases h0};exact h0
theorem x8K {x:GC}{y:Yd}(h:GO x=some y):Vp x=true:=by cases x with|tmp t=>rfl|const v=>{obtain⟨c,h1,rfl⟩:=YG h;exact(v6X (D:=Unit) (V:=fun _=>[]) (μ:=fun _=>none) (H:=.leaf) (M:=fun _=>True) h1).1}|global g=>{cases h}|func f=>rfl
theorem x3U {v:GB}(hp:plain v=true)(h:UG P (execOp (ev T) o)=some (.value v))(H2:Hp)(n2:Nat):Yb P T H2 n2 o=.ok v H2 n2:=by unfold Yb;rw[h];show We (plain v) (.ok v H2 n2)=_;rw[hp];rfl
theorem x9Q {op:BinOp}{t yt:GD}{x y:GC}(ho:o.op=.binOp op t x y yt){v:GB}(hg:UG P (eqGuard op t x y (ev T x) (ev T y))=some ())(h:UG P (binOp op t (ev T x) (ev T y))=some v):UG P (execOp (ev T) o)=some (.value v):=by unfold execOp;rw[ho];simp only[YL,hg,h,JK];rfl
theorem v5X (op:BinOp)(t:GD)(x y:GC)(k k':IntKind)(a b:Int):UG P (eqGuard op t x y (.int k a) (.int k' b))=some ():=by unfold eqGuard;split<;>rfl
theorem z7H (op:BinOp)(t:GD)(x y:GC)(a b:ByteArray):UG P (eqGuard op t x y (.string a) (.string b))=some ():=by unfold eqGuard;split<;>rfl
theorem u8R (op:BinOp)(t:GD)(x y:GC)(a b:Bool):UG P (eqGuard op t x y (.bool a) (.bool b))=some ():=by unfold eqGuard;split<;>rfl
theorem z4G {op:BinOp}{t yt:GD}{x y:GC}(ho:o.op=.binOp op t x y yt){k k':IntKind}{a b:Int}(hx:ev T x=.int k a)(hy:ev T y=.int k' b){v:GB}(hp:plain v=true) (hb:UG P (binOp op t (.int k a) (.int k' b))=some v) (yG:op=.add->v=.int k (k.wrap (a+b))) (aW:op=.sub->v=.int k (k.wrap (a-b))) (lH:op=.mul->v=.int k (k.wrap (a*b))) (iO:op=.eql->v=.bool (a==b)) (ac:op=.neq->v=.bool (a !=b)) (ah:op=.lss->v=.bool (decide (a<b))) (aJ:op=.leq->v=.bool (decide (a<=b))) (gl:op=.gtr->v=.bool (decide (a>b))) (bZ:op=.geq->v=.bool (decide (a≥b))):WT P o T v:=by intro H2 n2;have bX:=x3U (P:=P) (o:=o) (T:=T) hp (x9Q ho (by rw[hx,hy];exact v5X ..) (by rw[hx,hy];exact hb)) H2 n2;have iq:GY P T H2 n2 o op t (ev T x) (ev T y)=.ok v H2 n2:=by{unfold GY;rw[hx,hy];exact bX};have hf:∀m:Int,v=.int k (k.wrap m)->(k=.i64->y7R m H2 n2 (GY P T H2 n2 o op t (ev T x) (ev T y))=.ok v H2 n2):=fun m hv hk=>by{unfold y7R;split;{rename_i m;cases yv:Nat.ble m 9223372036854775807 with|true=>{rw[Jz];subst hk;have:=Yg yv;rw[hv,IntWalk.i64_in _ (by simp;omega)]}|false=>rw[Jk];exact iq};rename_i m;cases yv:Nat.ble m 9223372036854775807 with|true=>{rw[Jz];subst hk;have:=Yg yv;rw[hv,IntWalk.i64_in _ (by omega)]}|false=>rw[Jk];exact iq};(have hc:(YB P o).f T H2 n2=(y3Z P o t x y op).f T H2 n2:=by unfold YB;rw[ho]);rw[hc];have gen:∀f:Int->Int->OR,(k=.i64->k'=.i64->f a b=.ok v H2 n2)->x3Y (ev T x) (ev T y) f (GY P T H2 n2 o op t (ev T x) (ev T y))=.ok v H2 n2:=fun f hf=>by{unfold x3Y;rw[hx,hy]at*;split;{rename_i a' b' e1 e2;cases e1;cases e2;exact hf rfl rfl};exact iq};unfold y3Z;cases op;(case add=>exact gen _ fun e _=>hf _ (yG rfl) e);(case sub=>exact gen _ fun e _=>hf _ (aW rfl) e);(case mul=>exact gen _ fun e _=>hf _ (lH rfl) e);(case eql=>exact gen _ fun e _=>by rw[iO rfl]);(case neq=>exact gen _ fun e _=>by rw[ac rfl]);(case lss=>exact gen _ fun e _=>by rw[ah rfl]);(case leq=>exact gen _ fun e _=>by rw[aJ rfl]);(case gtr=>exact gen _ fun e _=>by rw[gl rfl]);(case geq=>exact gen _ fun e _=>by rw[bZ rfl]);all_goals exact iq
theorem x9A {op:BinOp}{t yt:GD}{x y:GC}(ho:o.op=.binOp op t x y yt){v:GB}(hp:plain v=true)(hx:plain (ev T x)=true)(hy:plain (ev T y)=true)(hi:∀a b,¬(ev T x=.int .i64 a/\ev T y=.int .i64 b)) (h:UG P (execOp (ev T) o)=some (.value v)):WT P o T v:=by intro H2 n2;have iq:GY P T H2 n2 o op t (ev T x) (ev T y)=.ok v H2 n2:=by{unfold GY;rw[hx,hy];exact x3U hp h H2 n2};(have hc:(YB P o).f T H2 n2=(y3Z P o t x y op).f T H2 n2:=by unfold YB;rw[ho]);rw[hc];have gen:∀f:Int->Int->OR,x3Y (ev T x) (ev T y) f (GY P T H2 n2 o op t (ev T x) (ev T y))=.ok v H2 n2:=fun f=>by{rw[<-iq];unfold x3Y;split;{rename_i a b e1 e2;exact absurd ⟨e1,e2⟩ (hi a b)};rfl};unfold y3Z;cases op;(case add=>exact gen _);(case sub=>exact gen _);(case mul=>exact gen _);(case eql=>exact gen _);(case neq=>exact gen _);(case lss=>exact gen _);(case leq=>exact gen _);(case gtr=>exact gen _);(case geq=>exact gen _);all_goals exact iq
theorem u5A {x y:PV D}{f:IntKind->Int->Int->WJ D}{r:WJ D}(h:onI2 x y f=r)(hr:r≠ .bad):∃k a b,x=.int k a/\y=.int k b/\f k a b=r:=by unfold onI2 at h;split at h;{rename_i k a k' b;cases hk:VW k k' with|false=>{rw[hk]at h;exact absurd h.symm hr}|true=>rw[hk]at h;rw[<-x4W hk];exact⟨k,a,b,rfl,rfl,h⟩};exact absurd h.symm hr
theorem z6M {x y:PV D}{f:IntKind->Int->Int->WJ D}{r:WJ D}(h:u7Y x y f=r)(hr:r≠ .bad):∃k a k' b,x=.int k a/\y=.int k' b/\f k a b=r:=by unfold u7Y at h;split at h;{exact⟨_,_,_,_,rfl,rfl,h⟩};exact absurd h.symm hr
theorem ari_ok {op:BinOp}{t yt:GD}{x y:GC}(ho:o.op=.binOp op t x y yt){k:IntKind}{a b:Int}(hx:ev T x=.int k a)(hy:ev T y=.int k b){v:PV D}(h:ariR op k a b=.val v):∃w,Wy V μ H M v w/\WT P o T w:=by unfold ariR at h;split at h<;>first|(cases h;done)|(cases h;refine⟨_,.int _ _,z4G ho hx hy rfl ?_ ?_ ?_ ?_ ?_ ?_ ?_ ?_ ?_ ?_⟩<;>first|(intro e;cases e;done)|(intro _;rfl)|(simp[binOp,Op.intArith,Op.intBits,x3D,v5U]))
theorem v5J {y:Int}(h:v5K y=false):y≠0:=by intro e;subst e;cases h
theorem div_ok {op:BinOp}{t yt:GD}{x y:GC}(ho:o.op=.binOp op t x y yt){k:IntKind}{a b:Int}(hx:ev T x=.int k a)(hy:ev T y=.int k b){c:Bool}{v:PV D}(h:divR op k a b=.par c v)(hc:c=true):∃w,Wy V μ H M v w/\WT P o T w:=by(unfold divR at h;split at h<;>first|(cases h;done)|skip);all_goals (cases h;have hb:=v5J (by simpa using hc);refine⟨_,.int _ _,z4G ho hx hy rfl ?_ ?_ ?_ ?_ ?_ ?_ ?_ ?_ ?_ ?_⟩<;>first|(intro e;cases e;done)|(simp[binOp,Op.intDiv,x3D,hb]))
theorem shf_ok {op:BinOp}{t yt:GD}{x y:GC}(ho:o.op=.binOp op t x y yt){k k':IntKind}{a b:Int}(hx:ev T x=.int k a)(hy:ev T y=.int k' b){c:Bool}{v:PV D}(h:shfR op k a b=.par c v)(hc:c=true):∃w,Wy V μ H M v w/\WT P o T w:=by(unfold shfR at h;split at h<;>first|(cases h;done)|skip);all_goals ((cases h;have hb:¬b<0:=by have:=JG hc;omega);refine⟨_,.int _ _,z4G ho hx hy rfl ?_ ?_ ?_ ?_ ?_ ?_ ?_ ?_ ?_ ?_⟩<;>first|(intro e;cases e;done)|(simp[binOp,Op.shift,x3D,hb]))
theorem cmp_ok {op:BinOp}{t yt:GD}{x y:GC}(ho:o.op=.binOp op t x y yt){k:IntKind}{a b:Int}(hx:ev T x=.int k a)(hy:ev T y=.int k b){v:PV D}(h:cmpR op a b=.val v):∃w,Wy V μ H M v w/\WT P o T w:=by(unfold cmpR at h;split at h<;>first|(cases h;done)|skip);all_goals (cases h;refine⟨_,.bool _,z4G ho hx hy rfl ?_ ?_ ?_ ?_ ?_ ?_ ?_ ?_ ?_ ?_⟩<;>first|(intro e;cases e;done)|(intro _;rfl)|(intro _;simp[bne];done)|(simp[binOp,Op.intCmp,x3D,bne];done)|(unfold binOp;simp only[ne_eq,not_true_eq_false,Qb,Op.intCmp];exact x3D _))
end
variable [GT]
theorem x2K (b:ByteArray):b.size=b.data.toList.length:=(Je (xs:=b.data)).symm
theorem ba_loop (b:ByteArray):∀(k i:Nat) (acc:GS),b.size-i=k->ByteArray.toList.loop b i acc=acc.reverse++b.data.toList.drop i:=by intro k;induction k with|zero=>{intro i acc h;unfold ByteArray.toList.loop;rw[JZ (by omega)];(have:b.data.toList.length<=i:=by rw[<-x2K];omega);simp[Qh this]}|succ k ih=>(intro i acc h;unfold ByteArray.toList.loop;have hi:i<b.size:=by omega);rw[JE hi,ih (i+1) _ (by omega)];(have hl:i<b.data.toList.length:=by rw[<-x2K];exact hi);rw[JN hl];have h2:i<b.data.size:=hi;have:b.get! i=b.data.toList[i]:=by{show b.data[i]! =_;rw[getElem!_pos b.data i h2];simp};simp[this]
theorem z8Z (b:ByteArray):b.toList=b.data.toList:=by unfold ByteArray.toList;rw[ba_loop b _ 0 [] rfl];simp
theorem ba_get (b:ByteArray)(i:Nat):b[i]? =b.data.toList[i]? :=by by_cases h:i<b.size;{rw[ByteArray.getElem?_lt' b i h];have h2:i<b.data.size:=h;simp[ByteArray.getElem_eq_getElem_data]};(rw[ByteArray.getElem?_ge' b i h];have:b.data.toList.length<=i:=by rw[<-x2K];omega);simp[ZE this]
section
variable {D:Type} {V:D->List (PV D)} {μ:Mu} {H:Hp} {M:Nat->Prop} {P:GF} {o:Oper} {T:Tm} {ρ:Yd->PV D}
theorem beq_ok {neg:Bool}{t yt:GD}{x y:GC}(ho:o.op=.binOp (cond neg .neq .eql) t x y yt)(hu:P.underlying t=some .bool){a b:Bool}(hx:ev T x=.bool a)(hy:ev T y=.bool b):WT P o T (.bool (Vn neg (a==b))):=by have he:UG P (Op.equal t (.bool a) (.bool b))=some (a==b):=by{show UG P (Op.equalIn (9999+1) t (.bool a) (.bool b))=_;unfold Op.equalIn;rw[YL,x0W hu];rfl};refine x9A ho rfl (by rw[hx];rfl) (by rw[hy];rfl) (fun i j h=>by rw[hx]at h;cases h.1) (x9Q ho (by rw[hx,hy];exact u8R ..) ?_);rw[hx,hy];cases neg;{have:binOp .eql t (.bool a) (.bool b)=(do pure (.bool (<-Op.equal t (.bool a) (.bool b)))):=rfl;show UG P (binOp .eql t (.bool a) (.bool b))=_;rw[this,YL,he];rfl};have:binOp .neq t (.bool a) (.bool b)=(do pure (.bool (!(<-Op.equal t (.bool a) (.bool b))))):=rfl;show UG P (binOp .neq t (.bool a) (.bool b))=_;rw[this,YL,he];rfl
theorem scmp_ok {neg:Bool}{t yt:GD}{x y:GC}(ho:o.op=.binOp (cond neg .neq .eql) t x y yt){a b:ByteArray}(hx:ev T x=.string a)(hy:ev T y=.string b):WT P o T (.bool (Vn neg (decide (a.data.toList=b.data.toList)))):=by refine x9A ho rfl (by rw[hx];rfl) (by rw[hy];rfl) (fun i j h=>by rw[hx]at h;cases h.1) (x9Q ho (by rw[hx,hy];exact z7H ..) ?_);(rw[hx,hy];have e:(a.toList==b.toList)=decide (a.data.toList=b.data.toList):=by rw[z8Z,z8Z,Bool.eq_iff_iff];simp);cases neg;{show UG P (binOp .eql t (.string a) (.string b))=_;simp[binOp,Op.stringOp,x3D,e,Vn]};show UG P (binOp .neq t (.string a) (.string b))=_;simp[binOp,Op.stringOp,x3D,e,Vn]
theorem scat_ok {t yt:GD}{x y:GC}(ho:o.op=.binOp .add t x y yt){a b:ByteArray}(hx:ev T x=.string a)(hy:ev T y=.string b)(ah:a.data.toList.length+b.data.toList.length<9223372036854775808):Wy V μ H M (.str (a.data.toList++b.data.toList)) (.string (a++b))/\WT P o T (.string (a++b)):=by constructor;{(have:a.data.toList++b.data.toList=(a++b).data.toList:=by simp);rw[this];exact .str _};refine x9A ho rfl (by rw[hx];rfl) (by rw[hy];rfl) (fun i j h=>by rw[hx]at h;cases h.1) (x9Q ho (by rw[hx,hy];exact z7H ..) ?_);rw[hx,hy];rw[<-x2K,<-x2K]at ah;have:¬(((a.size+b.size:Nat):Int)>IntKind.i64.max):=by{have:IntKind.i64.max=9223372036854775807:=rfl;rw[this];omega};show UG P (Op.stringOp .add a b)=_;simp only[Op.stringOp];rw[JZ this];rfl
theorem un_ok {op:UnOp}{t:GD}{x:GC}(ho:o.op=.unOp op t x)(hx:plain (ev T x)=true){v:GB}(hv:plain v=true)(h:UG P (Op.unary op (ev T x))=some v):WT P o T v:=by(intro H2 n2;have hc:(YB P o).f T H2 n2=We (plain (ev T x)) (Yb P T H2 n2 o):=by unfold YB;rw[ho]);rw[hc,hx];show Yb P T H2 n2 o=_;refine x3U hv ?_ H2 n2;unfold execOp;rw[ho];simp only[YL,h,JK];rfl
theorem u2S {s d:GD}{x:GC}(ho:o.op=.convert s d x)(hx:plain (ev T x)=true)(hs:∀e,P.underlying s≠some (.slice e))(C5:∀e,P.underlying d≠some (.slice e)){v:GB}(hv:plain v=true)(h:UG P (convert s d (ev T x))=some v):WT P o T v:=by intro H2 n2;have hp:We (plain (ev T x)) (Yb P T H2 n2 o)=.ok v H2 n2:=by{rw[hx];show Yb P T H2 n2 o=_;refine x3U hv ?_ H2 n2;unfold execOp;rw[ho];simp only[YL,h,JK];rfl};(have hc:(YB P o).f T H2 n2=(x4N P o s d x).f T H2 n2:=by unfold YB;rw[ho]);rw[hc];unfold x4N;cases hd:x9Y (P.underlying d)with|false=>{rw[Jk];cases he:x2X (P.underlying d)with|some e=>{exact absurd (x2Q he) (C5 e)}|none=>exact hp}|true=>rw[Jz];cases he:x2X (P.underlying s)with|some e=>{exact absurd (x2Q he) (hs e)}|none=>exact hp
theorem index_ok {t:GD}{x i:GC}(ho:o.op=.index t x i)(hu:P.underlying t=some .string){b:ByteArray}{k:IntKind}{ix:Int}(hx:ev T x=.string b)(hi:ev T i=.int k ix)(cG:VV ix (slen b.data.toList)=true):WT P o T (.int .u8 (UH b.data.toList ix)):=by(intro H2 n2;have hc:(YB P o).f T H2 n2=We (cond (plain (ev T x)) (plain (ev T i)) false) (Yb P T H2 n2 o):=by unfold YB;rw[ho]);(rw[hc,hx,hi];show Yb P T H2 n2 o=_;have h1:=JG cG;refine x3U rfl ?_ H2 n2;have hE:execOp (ev T) o=(do pure (.value (<-Instr.index t (ev T x) (ev T i)))):=by unfold execOp;rw[ho]);(rw[hE,hx,hi];have ah:ix.toNat<b.data.toList.length:=by have:=h1.2;unfold slen at this;omega);(have hg:b[ix.toNat]? =some (b.data.toList[ix.toNat]):=by rw[ba_get];exact JQ ah);have:UG P (Instr.index t (.string b) (.int k ix))=some (.int .u8 (UH b.data.toList ix)):=by{unfold Instr.index;rw[YL];show(UG P (do match<-underlying t,Value.string b with|_,_=>_))=_;simp only[YL,x0W hu,JK,JE h1.1,hg];show some _=some _;unfold UH;rw[JU,JQ ah];rfl};simp only[YL,this,JK];rfl
end
variable [GT]
section
variable {D:Type} {V:D->List (PV D)} {μ:Mu} {H:Hp} {M:Nat->Prop} {P:GF} {o:Oper} {T:Tm} {ρ:Yd->PV D}
theorem y5S:∀(n:Nat) {l r:List (PV D)} {m:List GB},v1Q n l=some r->WY V μ H M l m->∃s,z5N n m=some s/\WY V μ H M r s|0,l,r,m,h,hl=>by cases h;exact⟨[],rfl,.nil⟩|n+1,[],r,m,h,hl=>by cases h|n+1,a::l,r,_,h,.cons _ x _ m ha hl=>by have h':Option.casesOn (motive:=fun _=>GA (List (PV D))) (v1Q n l) none (fun r=>some (a::r))=some r:=h;cases e:v1Q n l with|none=>{rw[e]at h';cases h'}|some q=>rw[e]at h';cases h';obtain⟨s,h1,h2⟩:=y5S n e hl;exact⟨x::s,by rw[y1Y,h1],.cons _ _ _ _ ha h2⟩
theorem u6P:∀{l:List (PV D)} (k n:Nat) {r:List (PV D)} {m:List GB},cutP l k n=some r->WY V μ H M l m->∃s,cut m k n=some s/\WY V μ H M r s|[],0,n,r,_,h,.nil=>y5S n (l:=[]) h .nil|[],k+1,n,r,_,h,_=>by cases h|a::l,0,n,r,_,h,.cons _ x _ m ha hl=>y5S n (l:=a::l) h (.cons _ _ _ _ ha hl)|a::l,k+1,n,r,_,h,.cons _ x _ m ha hl=>u6P (l:=l) k n h hl
theorem y6M:∀{vs l r:List (PV D)} {ws m:List GB},v2W vs l=some r->WY V μ H M vs ws->WY V μ H M l m->∃s,over ws m=some s/\WY V μ H M r s|[],l,r,_,m,h,.nil,hl=>by cases h;exact⟨m,rfl,hl⟩|v::vs,[],r,_,_,h,_,_=>by cases h|v::vs,a::l,r,_,_,h,.cons _ w _ ws hv iY,.cons _ x _ m ha hl=>by have h':Option.casesOn (motive:=fun _=>GA (List (PV D))) (v2W vs l) none (fun r=>some (v::r))=some r:=h;cases e:v2W vs l with|none=>{rw[e]at h';cases h'}|some q=>rw[e]at h';cases h';obtain⟨s,h1,h2⟩:=y6M e iY hl;exact⟨w::s,by rw[z6K,h1],.cons _ _ _ _ hv h2⟩
theorem y4G:∀{l:List (PV D)} (k:Nat) {vs r:List (PV D)} {m ws:List GB},setP l k vs=some r->WY V μ H M l m->WY V μ H M vs ws->∃s,x7N m k ws=some s/\WY V μ H M r s|[],0,vs,r,_,ws,h,.nil,hv=>y6M (l:=[]) h hv .nil|[],k+1,vs,r,_,_,h,_,_=>by cases h|a::l,0,vs,r,_,ws,h,.cons _ x _ m ha hl,hv=>y6M (l:=a::l) h hv (.cons _ _ _ _ ha hl)|a::l,k+1,vs,r,_,ws,h,.cons _ x _ m ha hl,hv=>by have h':Option.casesOn (motive:=fun _=>GA (List (PV D))) (setP l k vs) none (fun r=>some (a::r))=some r:=h;cases e:setP l k vs with|none=>{rw[e]at h';cases h'}|some q=>rw[e]at h';cases h';obtain⟨s,h1,h2⟩:=y4G k e hl hv;exact⟨x::s,by rw[x9G,h1],.cons _ _ _ _ ha h2⟩
theorem z3C {l:List (PV D)}{m:List GB}(h:WY V μ H M l m){i:Nat}{v:PV D}(hi:VF l i=some v):∃x,VF m i=some x/\Wy V μ H M v x:=by rw[VH]at hi;obtain⟨x,h1,h2⟩:=h.get i v hi;exact⟨x,by rw[VH];exact h1,h2⟩
theorem x0Y {α β:Type}{o:GA α}{z:β}{f:α->β}{b:β}(h:Option.casesOn (motive:=fun _=>β) o z f=b)(hz:z≠b):∃a,o=some a/\f a=b:=by cases o with|none=>{exact absurd h hz}|some a=>exact⟨a,rfl,h⟩
theorem y6H {agg:Bool}{off n:Nat}{l:List (PV D)}{m:List GB}{v:PV D}(h:z6G agg off n l=some v)(hl:WY V μ H M l m):∃x,cond agg ((cut m off n).map x5Z) (VF m off)=some x/\Wy V μ H M v x:=by unfold z6G at h;cases agg with|true=>{obtain⟨r,h1,h2⟩:=x0Y (z:=(none:GA (PV D))) h (by simp);cases h2;obtain⟨s,h3,h4⟩:=u6P off n h1 hl;exact⟨x5Z s,by simp[h3],.agg _ _ (by simpa[x5Z]using h4)⟩}|false=>exact z3C hl h
theorem y2W {v:PV D}{x:GB}(h:Wy V μ H M v x)(h1:x5X (x3K v)=true):WY V μ H M (x3K v) x.cells.toList/\WF x.cells.toList=true:=by have key:∀(l:List (PV D)) (m:List GB),WY V μ H M l m->x5X l=true->WF m=true:=by{intro l;induction l with|nil=>{intro m h _;cases h;rfl}|cons a l ih=>intro m h h1;cases h with|cons _ x _ m ha hl=>(have h1:cond (oneP a) (x5X l) false=true:=h1;obtain⟨h2,h3⟩:=YI h1;have hc:v7L x=true:=by cases ha<;>first|rfl|(cases h2));show cond (v7L x) (WF m) false=true;rw[hc,ih m hl h3];rfl};have one:∀{v:PV D} {x:GB},Wy V μ H M v x->x3K v=[v]->x5X [v]=true->WY V μ H M [v] x.cells.toList:=fun{v x} h _ ho=>by{(have h2:cond (oneP v) true false=true:=ho;obtain⟨h2,_⟩:=YI h2;have hx:x.cells.toList=[x]:=by cases h<;>first|rfl|(cases h2));rw[hx];exact .cons _ _ _ _ h .nil};have hr:WY V μ H M (x3K v) x.cells.toList:=by{cases v with|agg l=>{cases h with|agg _ a h=>exact h}|_=>exact one h rfl h1};exact⟨hr,key _ _ hr h1⟩
theorem v3P {k:IntKind}{n:Int}(h:0<=n):z6V (.int k n)=some n.toNat:=by cases n with|ofNat m=>rfl|negSucc m=>exact absurd h (by simp)
theorem v0P (b:ByteArray)(l h:Nat):(b.extract l h).data.toList=(b.data.toList.drop l).take (h-l):=by rw[ByteArray.data_extract,Array.toList_extract,List.extract_eq_take_drop]
theorem ssl_run {t:GD}{x:GC}{lo hi:GA GC}(ho:o.op=.slice t x lo hi none)(hu:P.underlying t=some .string){b:ByteArray}(hx:ev T x=.string b){l h:Nat}(hl:x6V 0 (lo.map (ev T))=some l)(hh:x6V b.size (hi.map (ev T))=some h)(h1:l<=h)(h2:h<=b.size):WT P o T (.string (b.extract l h)):=by(intro H2 n2;have hc:(YB P o).f T H2 n2=(z8Q P t x lo hi).f T H2 n2:=by unfold YB;rw[ho]);rw[hc];unfold z8Q;rw[hu];show y9S (ev T x) _=_;rw[hx];show Vr (x6V 0 (lo.map (ev T))) (fun l=>Vr (x6V b.size (hi.map (ev T))) fun h=>We (cond (Nat.ble l h) (Nat.ble h b.size) false) (.ok (.string (b.extract l h)) H2 n2))=_;rw[hl,hh];show We (cond (Nat.ble l h) (Nat.ble h b.size) false) _=_;rw[Jb h1,Jb h2];rfl
theorem z2R {s d:GD}{k k' k2:IntKind}{n:Int}(hs:P.underlying s=some (.int k'))(hd:P.underlying d=some (.int k)):UG P (convert s d (.int k2 n))=some (.int k (k.wrap n)):=by unfold convert;simp only[YL,x0W hs,x0W hd,JK];rfl
theorem y9R {s d:GD}{k' k2:IntKind}{n:Int}(hs:P.underlying s=some (.int k'))(hd:P.underlying d=some .string):UG P (convert s d (.int k2 n))=some (.string (Utf8.encode n)):=by unfold convert;simp only[YL,x0W hs,x0W hd,JK];rfl
theorem z2Q {s d:GD}{b:ByteArray}(hs:P.underlying s=some .string)(hd:P.underlying d=some .string):UG P (convert s d (.string b))=some (.string b):=by unfold convert;simp only[YL,x0W hs,x0W hd,JK];rfl
theorem y8K {b:Builtin}{args:Array GC}{ts:Array GD}(ho:o.op=.call {callee:=.builtin b,args,argTypes:=ts})(hp:∀x∈args.toList,plain (ev T x)=true){v:GB}(hv:plain v=true) (hc:∀H2 n2,(x7Z P o args.toList ts.toList b).f T H2 n2=We (allX T args.toList) (Yb P T H2 n2 o)\/(x7Z P o args.toList ts.toList b).f T H2 n2=Yb P T H2 n2 o) (h:∀consts,UG P (builtin b ts o.type consts (args.map (ev T)))=some (Next.value v)):WT P o T v:=by intro H2 n2;have hE:UG P (execOp (ev T) o)=some (.value v):=by{unfold execOp;rw[ho];simp only[YL,resolve,invoke];exact h _};have hx:∀l:List GC,(∀x∈l,plain (ev T x)=true)->allX T l=true:=by{intro l;induction l with|nil=>{intro _;rfl}|cons a l ih=>intro h;show cond (plain (ev T a)) (allX T l) false=true;rw[h a (by simp),ih fun x hx=>h x (by simp[hx])];rfl};(have e:(YB P o).f T H2 n2=(x7Z P o args.toList ts.toList b).f T H2 n2:=by unfold YB;rw[ho]);rw[e];rcases hc H2 n2 with h1|h1;{rw[h1,hx _ hp];exact x3U hv hE H2 n2};rw[h1];exact x3U hv hE H2 n2
end
end Go.Yec
