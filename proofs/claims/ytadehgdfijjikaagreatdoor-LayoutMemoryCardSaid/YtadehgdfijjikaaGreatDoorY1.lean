/- THE PURE EXECUTOR -/
import Derived.Test.YtadehgdfijjikaaGreatDoorX6
set_option linter.all false
noncomputable section
namespace Go.Yec
open Go Go.Xec
abbrev Ch:=List (Nat×Bool)
inductive PV (D:Type) where
 |undef
 |bool (b:Bool)
 |int (k:IntKind) (n:Int)
 |str (s:List UInt8)
 |agg (l:List (PV D))
 |aggI (k:IntKind) (l:List Int)
 |tup (l:List (PV D))
 |nilp|nils|nilf|nili
 |lptr (i off:Nat)
 |lelt (i:Nat) (ix:Int)
 |lsl (i:Nat)
 |fsl (esz n:Nat) (f:Nat->PV D)
 |fptr (v:PV D)
 |dat (d:D)
 |fn (f:FuncId) (first cap:List (PV D))
 |opt (C:Ch) (g:Bool) (v:PV D)
 |nx (b:Bool) (p c:Int)
 |celt (i:Nat) (ix:Int) (n:Nat)
 |sel (l:List (PV D)) (ix:Int)
inductive Blk (D:Type) where
 |cells (l:List (PV D))
 |rowI (e:Nat) (k:IntKind) (l:List Int)
 |iter (s:List UInt8) (p:Int)
inductive Cst where
 |bool (b:Bool)
 |int (k:IntKind) (n:Int)
 |str (s:List UInt8)
 |nilp|nils|nilf|nili
 |agg (l:List Cst)
 deriving Repr,Inhabited
inductive Yd where
 |t (n:Nat)
 |c (v:Cst)
 |f (f:FuncId)
 deriving Repr,Inhabited
inductive Prim where|rng|nxt|mks (e:Nat) (k:IntKind)
 deriving Repr,Inhabited
inductive EK where|i|b|s
 deriving Repr,Inhabited
inductive YOp where
 |mv (x:Yd)
 |nilck (x:Yd)
 |pick (c a b:Yd)
 |ari (op:BinOp) (x y:Yd)
 |div (op:BinOp) (x y:Yd)
 |shf (op:BinOp) (x y:Yd)
 |cmp (op:BinOp) (x y:Yd)
 |beq (neg:Bool) (x y:Yd)
 |scmp (neg:Bool) (x y:Yd)
 |aeq (neg:Bool) (ks:List EK) (x y:Yd)
 |scat (x y:Yd)
 |not (x:Yd)
 |neg (x:Yd)
 |iconv (k:IntKind) (x:Yd)
 |rstr (x:Yd)
 |slen (x:Yd)
 |sidx (x i:Yd)
 |aidx (n:Nat) (x i:Yd)
 |ssl (x:Yd) (lo hi:Option Yd)
 |b2s (x:Yd)
 |s2b (e:Nat) (x:Yd)
 |b2b (x:Yd)
 |mx (isMax:Bool) (x y:Yd)
 |box (e:Nat) (x:Yd)
 |alloc (z:List Cst)
 |allocI (e:Nat) (k:IntKind) (z:List Int)
 |faddr (x:Yd) (off:Nat)
 |fld (x:Yd) (off n:Nat) (agg:Bool)
 |ld (n:Nat) (agg:Bool) (x:Yd)
 |st (n:Nat) (x v:Yd)
 |bld (z:List Cst) (ps:List ((Nat×Nat)×Yd))
 |bslI (e:Nat) (k:IntKind) (len:Nat) (ps:List (Nat×Yd))
 |app (e:Nat) (s x:Yd)
 |llen (x:Yd)
 |iaddr (x i:Yd)
 |aaddr (n:Nat) (x i:Yd)
 |ext (x:Yd) (ix:Nat)
 |eqnil (sl neg:Bool) (x y:Yd)
 |call (f:FuncId) (args:List Yd)
 |prim (p:Prim) (args:List Yd)
 |callv (x:Yd) (args:List Yd)
 deriving Repr,Inhabited
structure YO where
 C:Ch
 dst:Option Tmp
 op:YOp
 deriving Repr,Inhabited
inductive Qu where
 |tmp (t:Nat)
 |cell (i off:Nat)
 |row (i:Nat)
 deriving Repr,Inhabited
inductive LTy where
 |int (k:IntKind)|bool|str|rowI (e:Nat) (k:IntKind)|iter
 deriving Repr,Inhabited
abbrev QH:=List (Qu×LTy)
inductive DK where|free|load|eff
 deriving Repr,Inhabited
structure YD where
 i:Nat
 D:Nat
 kd:DK
 o:YO
 deriving Repr,Inhabited
inductive YC where
 |skip
 |ops (l:List YO) (clr:List Nat)
 |draw (l:List YD) (clr:List Nat)
 |seq (a b:YC)
 |cond (c:Yd) (a b:YC)
 |block (id:Nat) (b:YC)
 |loop (h:QH) (asg:List Nat) (b:YC)
 |exit (id:Nat)
 |ret
 deriving Repr,Inhabited
def LTy.ty:LTy->Type|.int _=>Int|.bool=>Bool|.str=>List UInt8|.rowI _ _=>List Int|.iter=>List UInt8×Int
def Tup:List (Qu×LTy)->Type|[]=>Unit|[p]=>p.2.ty|p::q::r=>p.2.ty×Tup (q::r)
section
variable {D:Type}
abbrev Bt (D:Type):=Tr (Option (Nat×Blk D))
abbrev Tt (D:Type):=Tr (PV D)
structure Y (D:Type) where
 T:Tt D
 B:Bt D
 m:Nat
def ZQ (B:Bt D)(i:Nat):Option (Nat×Blk D):=Tr.get none B i
def ZU (B:Bt D)(i:Nat)(o:Option (Nat×Blk D)):Bt D:=Tr.set none (Nat.succ i) B i o
def KE (T:Tt D)(t:Nat):PV D:=Tr.get .undef T t
def pset (T:Tt D)(t:Nat)(v:PV D):Tt D:=Tr.set .undef (Nat.succ t) T t v
def KU (T:Tt D):Option Tmp->PV D->Tt D|some d,v=>pset T d v|none,_=>T
def Cst.pv (c:Cst):PV D:=Cst.rec (motive_1:=fun _=>PV D) (motive_2:=fun _=>List (PV D)) (fun b=>.bool b) (fun k n=>.int k n) (fun s=>.str s) .nilp .nils .nilf .nili (fun _ ih=>.agg ih) [] (fun _ _ a b=>a::b) c
def pvL (l:List Cst):List (PV D):=List.rec [] (fun c _ ih=>c.pv::ih) l
def eqC (l:Ch):Ch->Bool:=List.rec (fun m=>List.casesOn m true (fun _ _=>false)) (fun p _ ih m=>List.casesOn m false (fun q m=>cond (cond (Nat.beq p.1 q.1) (cond p.2 q.2 (!q.2)) false) (ih m) false)) l
def sufB (l' l:Ch):Bool:=List.rec (eqC l' []) (fun p l ih=>cond (eqC l' (p::l)) true ih) l
def x3T (C:Ch):PV D->PV D|.opt C' _ v=>cond (sufB C' C) v .undef|v=>v
def opd (T:Tt D)(C:Ch):Yd->PV D|.t n=>x3T C (KE T n)|.c v=>v.pv|.f g=>.fn g [] []
def x8H:PV D->Bool|.bool b=>b|_=>false
def lit (T:Tt D)(C:Ch)(p:Nat×Bool):Bool:=cond p.2 (x8H (x3T C (KE T p.1))) (!(x8H (x3T C (KE T p.1))))
def gOf (T:Tt D)(C:Ch):Bool:=List.rec true (fun p C ih=>cond ih (lit T C p) false) C
def y7E:PV D->Bool|.bool _=>true|_=>false
def chOk (T:Tt D)(C:Ch):Bool:=List.rec true (fun p C ih=>cond (y7E (x3T C (KE T p.1))) ih false) C
inductive OpR (D:Type) where
 |bad
 |val (v:PV D)
 |par (b:Bool) (v:PV D)
 |ld (src:Option Nat) (v:PV D)
 |mk (b:Blk D) (v:Nat->PV D)
 |wr (i:Nat) (b:Blk D)
 |ap (ck:Bool) (i:Option Nat) (b:Blk D)
def ikn:IntKind->Nat|.i8=>0|.i16=>1|.i32=>2|.i64=>3|.u8=>4|.u16=>5|.u32=>6|.u64=>7
def Zl (a b:IntKind):Bool:=Nat.beq (ikn a) (ikn b)
def v5U (op:BinOp)(k:IntKind)(x y:Int):Int:=match op with|.and=>k.wrap (BitVec.ofInt k.bits x&&&BitVec.ofInt k.bits y).toNat|.or=>k.wrap (BitVec.ofInt k.bits x|||BitVec.ofInt k.bits y).toNat|.xor=>k.wrap (BitVec.ofInt k.bits x^^^BitVec.ofInt k.bits y).toNat|_=>k.wrap (BitVec.ofInt k.bits x&&& ~~~BitVec.ofInt k.bits y).toNat
def ariR (op:BinOp)(k:IntKind)(x y:Int):OpR D:=match op with|.add=>.val (.int k (k.wrap (x+y)))|.sub=>.val (.int k (k.wrap (x-y)))|.mul=>.val (.int k (k.wrap (x*y)))|.and=>.val (.int k (v5U .and k x y))|.or=>.val (.int k (v5U .or k x y))|.xor=>.val (.int k (v5U .xor k x y))|.andNot=>.val (.int k (v5U .andNot k x y))|_=>.bad
def v5K:Int->Bool|.ofNat n=>Nat.beq n 0|.negSucc _=>false
def divR (op:BinOp)(k:IntKind)(x y:Int):OpR D:=match op with|.quo=>.par (!v5K y) (.int k (k.wrap (x.tdiv y)))|.rem=>.par (!v5K y) (.int k (x.tmod y))|_=>.bad
def shfR (op:BinOp)(k:IntKind)(x y:Int):OpR D:=match op with|.shl=>.par (decide (0<=y)) (.int k (k.wrap (x*2^min y.toNat k.bits)))|.shr=>.par (decide (0<=y)) (.int k (x.fdiv (2^min y.toNat k.bits)))|_=>.bad
def cmpR (op:BinOp)(x y:Int):OpR D:=match op with|.eql=>.val (.bool (decide (x=y)))|.neq=>.val (.bool (!decide (x=y)))|.lss=>.val (.bool (decide (x<y)))|.leq=>.val (.bool (decide (x<=y)))|.gtr=>.val (.bool (decide (y<x)))|.geq=>.val (.bool (decide (y<=x)))|_=>.bad
def onI2 (x y:PV D)(f:IntKind->Int->Int->OpR D):OpR D:=match x,y with|.int k a,.int k' b=>cond (Zl k k') (f k a b) .bad|_,_=>.bad
def u7Y (x y:PV D)(f:IntKind->Int->Int->OpR D):OpR D:=match x,y with|.int k a,.int _ b=>f k a b|_,_=>.bad
def negB (neg b:Bool):Bool:=cond neg (!b) b
def KB (s:List UInt8)(i:Int):Int:=((s.getD i.toNat 0).toNat:Int)
def slen (s:List UInt8):Int:=(s.length:Int)
def inB (i n:Int):Bool:=decide (0<=i/\i<n)
def KF (s:List UInt8)(lo hi:Int):List UInt8:=(s.drop lo.toNat).take (hi.toNat-lo.toNat)
def y5Z (n:Int):List UInt8:=(Utf8.encode n).data.toList
def x5B (s:List UInt8)(p:Int):Int:=((Utf8.decode ⟨s.toArray⟩ p.toNat).1:Int)
def y2D (s:List UInt8)(p:Int):Int:=cond (decide (p<slen s)) (p+((Utf8.decode ⟨s.toArray⟩ p.toNat).2:Int)) p
def x1R (l:List Int):List UInt8:=l.map fun n=>UInt8.ofNat n.toNat
def x0S (s:List UInt8):List Int:=s.map fun b=>(b.toNat:Int)
def x1U (l:List Int)(i:Int):Int:=l.getD i.toNat 0
def v5H (l:List Int)(i x:Int):List Int:=l.set i.toNat x
def Zm (l:List Int):Int:=(l.length:Int)
def sslR (s:List UInt8):Option (PV D)->Option (PV D)->OpR D|none,none=>.val (.str s)|some (.int _ lo),none=>.par (decide (0<=lo/\lo<=slen s)) (.str (KF s lo (slen s)))|none,some (.int _ hi)=>.par (decide (0<=hi/\hi<=slen s)) (.str (KF s 0 hi))|some (.int _ lo),some (.int _ hi)=>.par (decide (0<=lo/\lo<=hi/\hi<=slen s)) (.str (KF s lo hi))|_,_=>.bad
def x2E (x:PV D)(f:List UInt8->OpR D):OpR D:=match x with|.str s=>f s|_=>.bad
def x3K:PV D->List (PV D)|.agg l=>l|v=>[v]
def z8X (e:Nat):PV D->Blk D|.aggI k l=>.rowI e k l|v=>.cells (x3K v)
def v1Q:Nat->List (PV D)->Option (List (PV D)):=Nat.rec (fun _=>some []) (fun _ ih l=>List.casesOn l none (fun x l=>Option.casesOn (ih l) none (fun r=>some (x::r))))
def cutP (l:List (PV D)):Nat->Nat->Option (List (PV D)):=List.rec (fun k n=>Nat.casesOn k (v1Q n []) (fun _=>none)) (fun x l ih k n=>Nat.casesOn k (v1Q n (x::l)) (fun k=>ih k n)) l
def v2W (vs:List (PV D)):List (PV D)->Option (List (PV D)):=List.rec (fun l=>some l) (fun v _ ih l=>List.casesOn l none (fun _ l=>Option.casesOn (ih l) none (fun r=>some (v::r)))) vs
def setP (l:List (PV D)):Nat->List (PV D)->Option (List (PV D)):=List.rec (fun k vs=>Nat.casesOn k (v2W vs []) (fun _=>none)) (fun x l ih k vs=>Nat.casesOn k (v2W vs (x::l)) (fun k=>Option.casesOn (ih k vs) none (fun r=>some (x::r)))) l
def oneP:PV D->Bool|.agg _|.aggI _ _|.tup _|.undef|.dat _|.opt _ _ _|.nx _ _ _|.sel _ _=>false|_=>true
def x5X (l:List (PV D)):Bool:=List.rec true (fun v _ ih=>cond (oneP v) ih false) l
def z6G (agg:Bool)(off n:Nat)(l:List (PV D)):Option (PV D):=cond agg (Option.casesOn (cutP l off n) none (fun r=>some (.agg r))) (Kj l off)
def ldR (B:Bt D)(n:Nat)(agg:Bool):PV D->OpR D|.lptr i off=>(match ZQ B i with|some (_,.cells l)=>Option.casesOn (z6G agg off n l) .bad (fun v=>.ld (some i) v)|_=>.bad)|.lelt i ix=>(match ZQ B i with|some (_,.rowI _ k l)=>cond agg .bad (.ld (some i) (.int k (x1U l ix)))|_=>.bad)|.celt i ix n=>(match ZQ B i with|some (_,.cells l)=>cond (cond agg false (Nat.beq n l.length)) (.ld (some i) (.sel l ix)) .bad|_=>.bad)|_=>.bad
def stR (B:Bt D)(n:Nat)(v:PV D):PV D->OpR D|.lptr i off=>(match ZQ B i with|some (_,.cells l)=>cond (cond (Nat.beq (x3K v).length n) (x5X (x3K v)) false) (Option.casesOn (setP l off (x3K v)) .bad (fun l'=>.wr i (.cells l'))) .bad|_=>.bad)|.lelt i ix=>(match ZQ B i,v with|some (_,.rowI e k l),.int k' x=>cond (cond (Zl k k') (Nat.beq n 1) false) (.wr i (.rowI e k (v5H l ix x))) .bad|_,_=>.bad)|_=>.bad
def bldL (ps:List ((Nat×Nat)×PV D)):List (PV D)->Option (List (PV D)):=List.rec (fun cells=>some cells) (fun p _ ih cells=>cond (cond (Nat.beq (x3K p.2).length p.1.2) (x5X (x3K p.2)) false) (Option.casesOn (setP cells p.1.1 (x3K p.2)) none ih) none) ps
def intsL (k:IntKind)(l:List (PV D)):Option (List Int):=List.rec (some []) (fun v _ ih=>match v with|.int k' n=>cond (Zl k k') (Option.casesOn ih none (fun r=>some (n::r))) none|_=>none) l
def setI (l:List Int):Nat->Int->Option (List Int):=List.rec (fun _ _=>none) (fun x l ih k v=>Nat.casesOn k (some (v::l)) (fun k=>Option.casesOn (ih k v) none (fun r=>some (x::r)))) l
def bslL (k:IntKind)(ps:List (Nat×PV D)):List Int->Option (List Int):=List.rec (fun l=>some l) (fun p _ ih l=>match p.2 with|.int k' n=>cond (Zl k k') (Option.casesOn (setI l p.1 n) none ih) none|_=>none) ps
def ZJ (n:Nat)(r:List Int):Bool:=decide (n+r.length<=137438953472)
def appR (B:Bt D)(e:Nat):PV D->PV D->OpR D|.nils,.lsl j=>(match ZQ B j with|some (_,.rowI _ k (x::r))=>.ap (ZJ 0 (x::r)) none (.rowI e k (x::r))|_=>.bad)|.lsl i,.lsl j=>(match ZQ B i,ZQ B j with|some (_,.rowI e' k l),some (_,.rowI _ k' (x::r))=>cond (cond (Zl k k') (cond (Nat.beq e' e) (!(Nat.beq i j)) false) false) (.ap (ZJ l.length (x::r)) (some i) (.rowI e k (l++(x::r)))) .bad|_,_=>.bad)|_,_=>.bad
def v4Z (B:Bt D):PV D->OpR D|.lsl i=>(match ZQ B i with|some (_,.rowI _ _ l)=>.val (.int .i64 (Zm l))|_=>.bad)|.nils=>.val (.int .i64 0)|.fsl _ n _=>.val (.int .i64 (n:Int))|_=>.bad
def z7G (B:Bt D):PV D->PV D->OpR D|.lsl i,.int _ ix=>(match ZQ B i with|some (_,.rowI _ _ l)=>.par (inB ix (Zm l)) (.lelt i ix)|_=>.bad)|_,_=>.bad
def selP (c:Bool):PV D->PV D->OpR D|.bool a,.bool b=>.val (.bool (cond c a b))|.int k a,.int k' b=>cond (Zl k k') (.val (.int k (cond c a b))) .bad|.str a,.str b=>.val (.str (cond c a b))|.bool a,.undef=>.par c (.bool a)|.undef,.bool b=>.par (!c) (.bool b)|_,_=>.bad
def isPtr:PV D->Bool|.lptr _ _|.lelt _ _|.fptr _=>true|_=>false
def y4D:PV D->Bool|.aggI _ _=>true|v=>x5X (x3K v)
def KI (n:Nat):List Int:=Nat.rec [] (fun _ ih=>0::ih) n
def eqP1:EK->PV D->PV D->Option Bool|.b,.bool a,.bool b=>some (a==b)|.i,.int k a,.int k' b=>cond (Zl k k') (some (decide (a=b))) none|.s,.str a,.str b=>some (decide (a=b))|_,_,_=>none
def eqPL (ks:List EK):List (PV D)->List (PV D)->Option Bool:=List.rec (fun l m=>List.casesOn l (List.casesOn m (some true) (fun _ _=>none)) (fun _ _=>none)) (fun k _ ih l m=>List.casesOn l none (fun v l=>List.casesOn m none (fun w m=>Option.casesOn (eqP1 k v w) none (fun c=>Option.casesOn (ih l m) none (fun d=>some (cond c d false)))))) ks
def nxR (b:Bool)(p c:Int):Nat->OpR D|0=>.val (.bool b)|1=>.par b (.int .i64 p)|2=>.par b (.int .i32 c)|_=>.bad
def opR (B:Bt D)(ρ:Yd->PV D):YOp->OpR D|.mv x=>.val (ρ x)|.nilck x=>cond (isPtr (ρ x)) (.val (ρ x)) .bad|.pick _ _ _=>.bad|.ari op x y=>onI2 (ρ x) (ρ y) (ariR op)|.div op x y=>onI2 (ρ x) (ρ y) (divR op)|.shf op x y=>u7Y (ρ x) (ρ y) (shfR op)|.cmp op x y=>onI2 (ρ x) (ρ y) (fun _=>cmpR op)|.beq neg x y=>(match ρ x,ρ y with|.bool a,.bool b=>.val (.bool (negB neg (a==b)))|_,_=>.bad)|.scmp neg x y=>(match ρ x,ρ y with|.str a,.str b=>.val (.bool (negB neg (decide (a=b))))|_,_=>.bad)|.aeq neg ks x y=>(match ρ x,ρ y with|.agg l,.agg m=>List.casesOn ks .bad (fun k ks=>Option.casesOn (eqPL (k::ks) l m) .bad (fun c=>.val (.bool (negB neg c))))|_,_=>.bad)|.scat x y=>(match ρ x,ρ y with|.str a,.str b=>.par (decide (a.length+b.length<9223372036854775808)) (.str (a++b))|_,_=>.bad)|.not x=>(match ρ x with|.bool a=>.val (.bool (!a))|_=>.bad)|.neg x=>(match ρ x with|.int k a=>.val (.int k (k.wrap (0-a)))|_=>.bad)|.iconv k x=>(match ρ x with|.int _ a=>.val (.int k (k.wrap a))|_=>.bad)|.rstr x=>(match ρ x with|.int _ a=>.val (.str (y5Z a))|_=>.bad)|.slen x=>x2E (ρ x) fun s=>.val (.int .i64 (slen s))|.sidx x i=>(x2E (ρ x) fun s=>match ρ i with|.int _ ix=>.par (inB ix (slen s)) (.int .u8 (KB s ix))|_=>.bad)|.aidx n x i=>(match ρ x,ρ i with|.aggI k l,.int _ ix=>.par (cond (inB ix (n:Int)) (inB ix (Zm l)) false) (.int k (x1U l ix))|_,_=>.bad)|.ssl x lo hi=>x2E (ρ x) fun s=>sslR s (lo.map ρ) (hi.map ρ)|.b2s x=>(match ρ x with|.lsl i=>(match ZQ B i with|some (_,.rowI _ k l)=>cond (Zl k .u8) (.ld (some i) (.str (x1R l))) .bad|_=>.bad)|_=>.bad)|.s2b e x=>x2E (ρ x) fun s=>.mk (.rowI e .u8 (x0S s)) (fun i=>.lsl i)|.b2b x=>(match ρ x with|.lsl i=>(match ZQ B i with|some (_,.rowI _ _ (_::_))=>.ld (some i) (.lsl i)|_=>.bad)|_=>.bad)|.mx isMax x y=>onI2 (ρ x) (ρ y) fun k a b=>.val (.int k (cond isMax (max a b) (min a b)))|.box e x=>cond (y4D (ρ x)) (.mk (z8X e (ρ x)) (fun i=>.lptr i 0)) .bad|.alloc z=>.mk (.cells (pvL z)) (fun i=>.lptr i 0)|.allocI e k z=>.mk (.rowI e k z) (fun i=>.lptr i 0)|.faddr x off=>(match ρ x with|.lptr i o=>.val (.lptr i (Nat.add o off))|_=>.bad)|.fld x off n agg=>(match ρ x with|.agg l=>Option.casesOn (z6G agg off n l) .bad (fun v=>.val v)|_=>.bad)|.ld n agg x=>ldR B n agg (ρ x)|.st n x v=>stR B n (ρ v) (ρ x)|.bld z ps=>Option.casesOn (bldL (ps.map fun p=>(p.1,ρ p.2)) (pvL z)) .bad (fun l=>.val (.agg l))|.bslI e k len ps=>Option.casesOn (bslL k (ps.map fun p=>(p.1,ρ p.2)) (KI len)) .bad (fun l=>.mk (.rowI e k l) (fun i=>.lsl i))|.app e s x=>appR B e (ρ s) (ρ x)|.llen x=>v4Z B (ρ x)|.iaddr x i=>z7G B (ρ x) (ρ i)|.aaddr n x i=>(match ρ x,ρ i with|.lptr j 0,.int _ ix=>(match ZQ B j with|some (_,.rowI _ _ l)=>.par (cond (inB ix (n:Int)) (inB ix (Zm l)) false) (.lelt j ix)|some (_,.cells _)=>.par (inB ix (n:Int)) (.celt j ix n)|_=>.bad)|_,_=>.bad)|.ext x ix=>(match ρ x with|.tup l=>Option.casesOn (Kj l ix) .bad (fun v=>.val v)|.nx b p c=>nxR b p c ix|_=>.bad)|.eqnil sl neg x y=>(match sl,ρ x,ρ y with|false,.nilp,.nilp=>.val (.bool (!neg))|false,.lptr _ _,.nilp=>.val (.bool neg)|false,.nilp,.lptr _ _=>.val (.bool neg)|false,.fptr _,.nilp=>.val (.bool neg)|false,.nilp,.fptr _=>.val (.bool neg)|true,.nils,.nils=>.val (.bool (!neg))|_,_,_=>.bad)|.call _ _=>.bad|.prim _ _=>.bad|.callv _ _=>.bad
inductive PrimR (D:Type) where
 |bad
 |ok (ck:Bool) (v:PV D) (B:Bt D) (m:Nat)
def u0G (p:Prim)(args:List (PV D))(B:Bt D)(m:Nat):PrimR D:=match p,args with|.rng,[.str s]=>.ok true (.lptr m 0) (ZU B m (some (m,.iter s 0))) (Nat.succ m)|.nxt,[.lptr i 0]=>(match ZQ B i with|some (_,.iter s p)=>.ok true (.nx (decide (p<slen s)) p (x5B s p)) (ZU B i (some (m,.iter s (y2D s p)))) (Nat.succ m)|_=>.bad)|.mks e k,[.int _ n]=>.ok (decide (0<=n/\n<=1000000)) (.lsl m) (ZU B m (some (m,.rowI e k (KI n.toNat)))) (Nat.succ m)|_,_=>.bad
inductive QL (D:Type):Type 1 where
 |bad
 |tot (v:PV D)
 |par (b:Bool) (v:PV D)
 |opt (X:Type) (o:Option X) (d:X) (out:X->PV D)
 |inl (touch:List Nat) (d:PV D) (run:(R:Type)->(PV D->Bt D->Nat->Option R)->Option R)
abbrev Tbl (D:Type):=FuncId->List (PV D)->Bt D->Nat->QL D
def selL (tbl:Tbl D)(args:List (PV D))(B:Bt D)(m:Nat)(ix:Int)(l:List (PV D)):Nat->Option (List Nat×((R:Type)->(PV D->Bt D->Nat->Option R)->Option R)):=List.rec (fun _=>some ([],fun _ _=>none)) (fun v _ ih j=>Option.casesOn (ih (Nat.succ j)) none fun q=>match v with|.fn f [] []=>(match tbl f args B m with|.inl tc _ run=>some (tc++q.1,fun R K=>cond (decide (ix=(j:Int))) (run R K) (q.2 R K))|.tot v=>some (q.1,fun R K=>cond (decide (ix=(j:Int))) (K v B m) (q.2 R K))|.opt _ o _ out=>some (q.1,fun R K=>cond (decide (ix=(j:Int))) (Option.bind o fun x=>K (out x) B m) (q.2 R K))|_=>none)|_=>some (q.1,fun R K=>cond (decide (ix=(j:Int))) none (q.2 R K))) l
def selC (tbl:Tbl D)(x:PV D)(args:List (PV D))(B:Bt D)(m:Nat):QL D:=match x with|.sel l ix=>Option.casesOn (selL tbl args B m ix l 0) .bad fun q=>.inl q.1 .undef q.2|_=>.bad
section
variable {R:Type}
def noOpt:PV D->PV D|.opt _ _ _=>.undef|v=>v
def dstV (T:Tt D)(C:Ch)(v:PV D):PV D:=match C with|[]=>noOpt v|C=>.opt C (gOf T C) v
def KA (st:Y D)(o:YO)(v:PV D):Y D:=⟨KU st.T o.dst (dstV st.T o.C v),st.B,st.m⟩
def imp (st:Y D)(C:Ch)(b:Bool):Bool:=match C with|[]=>b|C=>cond (gOf st.T C) b true
def y7H (C:Ch)(x:Option R):Option R:=match C with|[]=>x|_=>none
def newB (st:Y D)(o:YO)(b:Blk D)(v:Nat->PV D):Y D:=⟨KU st.T o.dst (noOpt (v st.m)),ZU st.B st.m (some (st.m,b)),Nat.succ st.m⟩
def wrB (st:Y D)(o:YO)(i:Nat)(b:Blk D):Y D:=⟨KU st.T o.dst .undef,ZU st.B i (some (st.m,b)),Nat.succ st.m⟩
def apB (st:Y D)(o:YO)(i:Option Nat)(b:Blk D):Y D:=⟨KU st.T o.dst (.lsl st.m),ZU (match i with|some i=>ZU st.B i none|none=>st.B) st.m (some (st.m,b)),Nat.succ st.m⟩
def skipG (st:Y D)(o:YO)(K:Y D->Option R):Option R:=match o.C with|[]=>none|C=>cond (gOf st.T C) none (K (KA st o .undef))
def fin (st:Y D)(o:YO)(K:Y D->Option R):OpR D->Option R|.bad=>skipG st o K|.val v=>K (KA st o v)|.par b v=>cond (imp st o.C b) (K (KA st o v)) none|.ld _ v=>K (KA st o v)|.mk b v=>y7H o.C (K (newB st o b v))|.wr i b=>y7H o.C (K (wrB st o i b))|.ap ck i b=>y7H o.C (cond ck (K (apB st o i b)) none)
def optG (st:Y D)(C:Ch){X:Type}(o:Option X)(d:X):Option X:=match C with|[]=>o|C=>cond (gOf st.T C) o (some d)
def y9U (T:Tt D)(t:Nat)(b:Bool):Tt D:=match KE T t with|.opt C _ _=>pset T t (.opt C true (.bool b))|_=>pset T t (.bool b)
def u4E (C:Ch):Tt D->(Tt D->Option R)->(Tt D->Option R)->Option R:=List.rec (fun T kt _=>kt T) (fun p C ih T kt kf=>ih T (fun T=>cond (x8H (x3T C (KE T p.1))) (cond p.2 (kt (y9U T p.1 true)) (kf (y9U T p.1 true))) (cond p.2 (kf (y9U T p.1 false)) (kt (y9U T p.1 false)))) kf) C
def dst1 (C:Ch)(v:PV D):PV D:=match C with|[]=>noOpt v|C=>.opt C true (noOpt v)
def dst0 (C:Ch)(d:PV D):PV D:=.opt C false d
def finC (st:Y D)(o:YO)(K:Y D->Option R):QL D->Option R|.bad=>skipG st o K|.tot v=>K (KA st o v)|.par b v=>cond (imp st o.C b) (K (KA st o v)) none|.opt _ x d out=>Option.bind (optG st o.C x d) fun x=>K (KA st o (out x))|.inl _ d run=>u4E o.C st.T (fun T=>run R fun v B m=>K ⟨KU T o.dst (dst1 o.C v),B,m⟩) (fun T=>K ⟨KU T o.dst (dst0 o.C d),st.B,st.m⟩)
def finP (st:Y D)(o:YO)(K:Y D->Option R):PrimR D->Option R|.bad=>none|.ok ck v B m=>y7H o.C (cond ck (K ⟨KU st.T o.dst (noOpt v),B,m⟩) none)
def tmpD:Yd->Option Nat|.t n=>some n|_=>none
def y1C (st:Y D)(C:Ch)(c a b:Yd):OpR D:=match opd st.T C c,tmpD c with|.bool t,some n=>selP t (opd st.T ((n,true)::C) a) (opd st.T ((n,false)::C) b)|_,_=>.bad
def execO (tbl:Tbl D)(o:YO)(st:Y D)(K:Y D->Option R):Option R:=cond (chOk st.T o.C) (match o.op with|.call f args=>finC st o K (tbl f (args.map (opd st.T o.C)) st.B st.m)|.prim p args=>finP st o K (u0G p (args.map (opd st.T o.C)) st.B st.m)|.callv x args=>y7H o.C (finC st o K (selC tbl (opd st.T o.C x) (args.map (opd st.T o.C)) st.B st.m))|.pick c a b=>fin st o K (y1C st o.C c a b)|op=>fin st o K (opR st.B (opd st.T o.C) op)) none
def clrT (T:Tt D)(l:List Nat):Tt D:=List.rec T (fun t _ ih=>pset ih t .undef) l
def v6F (tbl:Tbl D)(l:List YO):Y D->(Y D->Option R)->Option R:=List.rec (fun st K=>K st) (fun o _ ih st K=>execO tbl o st fun st=>ih st K) l
abbrev Ws:=List (Nat×Option Nat×Bool)
def inN (x:Nat)(l:List Nat):Bool:=List.rec false (fun y _ ih=>cond (Nat.beq y x) true ih) l
def y0E (b:Option Nat)(l:List Nat):Bool:=match b with|some i=>inN i l|none=>false
def y1X (Dm:Nat)(tc:List Nat)(W:Ws):Bool:=List.rec true (fun x _ ih=>cond (cond (tb Dm x.1) true (!(cond x.2.2 true (y0E x.2.1 tc)))) ih false) W
def kpt (B B':Bt D)(i:Nat):Bool:=match ZQ B i,ZQ B' i with|some p,some q=>Nat.beq p.1 q.1|_,_=>false
def x6P (B B':Bt D)(tc:List Nat):List Nat:=List.rec [] (fun i _ ih=>cond (kpt B B' i) ih (i::ih)) tc
def x6X (tc:List Nat)(W:Ws):Ws:=List.rec [] (fun x _ ih=>(x.1,x.2.1,cond x.2.2 true (y0E x.2.1 tc))::ih) W
def u3T:PV D->Bool|.bool _|.int _ _|.str _|.nilp|.nils|.nilf|.nili|.lptr _ _|.lelt _ _|.lsl _=>true|_=>false
def v1C (l:List (PV D)):Bool:=List.rec true (fun v _ ih=>cond (u3T v) ih false) l
def vrefl:PV D->Bool|.agg l=>v1C l|.aggI _ _=>true|v=>u3T v
def x4Y (st:Y D)(W:Ws)(mk:Nat)(x:YD)(K:Y D->Ws->Nat->Option R):OpR D->Option R|.bad=>none|.val v=>(match x.kd with|.free=>K (KA st x.o v) W mk|_=>none)|.par b v=>(match x.kd with|.free=>cond (imp st x.o.C b) (K (KA st x.o v) W mk) none|_=>none)|.ld src v=>(match x.kd with|.load=>cond (cond (vrefl v) (match src with|some i=>Nat.ble (Nat.succ i) mk|none=>true) false) (K (KA st x.o v) ((x.i,src,false)::W) mk) none|.free=>none|.eff=>none)|.mk b v=>(match x.kd with|.free=>y7H x.o.C (K (newB st x.o b v) W mk)|_=>none)|.wr i b=>(match x.kd with|.eff=>cond (y1X x.D [i] W) (y7H x.o.C (K (wrB st x.o i b) (x6X [i] W) (Nat.succ st.m))) none|_=>none)|.ap ck i b=>match x.kd with|.eff=>cond (y1X x.D i.toList W) (y7H x.o.C (cond ck (K (apB st x.o i b) (x6X i.toList W) (Nat.succ st.m)) none)) none|_=>none
def u6M (st:Y D)(W:Ws)(x:YD)(K:Y D->Ws->Nat->Option R):QL D->Option R|.bad=>none|.tot v=>cond (y1X x.D [] W) (K (KA st x.o v) W st.m) none|.par b v=>cond (y1X x.D [] W) (cond (imp st x.o.C b) (K (KA st x.o v) W st.m) none) none|.opt _ y d out=>cond (y1X x.D [] W) (Option.bind (optG st x.o.C y d) fun y=>K (KA st x.o (out y)) W st.m) none|.inl tc d run=>u4E x.o.C st.T (fun T=>run R fun v B m=>cond (y1X x.D (x6P st.B B tc) W) (K ⟨KU T x.o.dst (dst1 x.o.C v),B,m⟩ (x6X (x6P st.B B tc) W) m) none) (fun T=>cond (y1X x.D [] W) (K ⟨KU T x.o.dst (dst0 x.o.C d),st.B,st.m⟩ W st.m) none)
def drawO (tbl:Tbl D)(x:YD)(st:Y D)(W:Ws)(mk:Nat)(K:Y D->Ws->Nat->Option R):Option R:=cond (chOk st.T x.o.C) (match x.o.op with|.call f args=>u6M st W x K (tbl f (args.map (opd st.T x.o.C)) st.B st.m)|.prim _ _=>none|.callv _ _=>none|.pick c a b=>x4Y st W mk x K (y1C st x.o.C c a b)|op=>x4Y st W mk x K (opR st.B (opd st.T x.o.C) op)) none
def ZA (tbl:Tbl D)(l:List YD):Y D->Ws->Nat->(Y D->Option R)->Option R:=List.rec (fun st _ _ K=>K st) (fun x _ ih st W mk K=>drawO tbl x st W mk fun st W mk=>ih st W mk K) l
def iter {A:Type}(N:Nat)(step:(A->Option R)->A->Option R)(x:A):Option R:=Nat.rec (fun _=>none) (fun _ again x=>step again x) N x
def extP:(ty:LTy)->Bt D->PV D->Option ty.ty|.int k,_,.int k' n=>cond (Zl k k') (some n) none|.bool,_,.bool b=>some b|.str,_,.str s=>some s|.rowI _ _,_,.nils=>some []|.rowI e k,B,.lsl i=>(match ZQ B i with|some (_,.rowI e' k' l)=>cond (cond (Nat.beq e e') (Zl k k') false) (some l) none|_=>none)|_,_,_=>none
def extS (ty:LTy)(st:Y D):Qu->Option ty.ty|.tmp t=>extP ty st.B (KE st.T t)|.cell i off=>(match ZQ st.B i with|some (_,.cells l)=>(match Kj l off with|some v=>extP ty st.B v|none=>none)|_=>none)|.row i=>match ty,ZQ st.B i with|.rowI e k,some (_,.rowI e' k' l)=>cond (cond (Nat.beq e e') (Zl k k') false) (some l) none|.iter,some (_,.iter s p)=>some (s,p)|_,_=>none
def extL:(h:QH)->Y D->Option (Tup h)|[],_=>some ()|[p],st=>extS p.2 st p.1|p::q::r,st=>match extS p.2 st p.1,extL (q::r) st with|some a,some b=>some (a,b)|_,_=>none
def Zp (st:Y D):(ty:LTy)->ty.ty->PV D×Y D|.int k,n=>(.int k n,st)|.bool,b=>(.bool b,st)|.str,s=>(.str s,st)|.rowI e k,l=>(.lsl st.m,⟨st.T,ZU st.B st.m (some (st.m,.rowI e k l)),Nat.succ st.m⟩)|.iter,_=>(.undef,st)
def injS (st:Y D)(ty:LTy)(x:ty.ty):Qu->Y D|.tmp t=>(match Zp st ty x with|(v,st')=>⟨pset st'.T t v,st'.B,st'.m⟩)|.cell i off=>(match Zp st ty x with|(v,st')=>match ZQ st'.B i with|some (_,.cells l)=>(match setP l off [v]with|some l'=>⟨st'.T,ZU st'.B i (some (st'.m,.cells l')),Nat.succ st'.m⟩|none=>st')|_=>st')|.row i=>match ty,x with|.rowI e k,l=>⟨st.T,ZU st.B i (some (st.m,.rowI e k l)),Nat.succ st.m⟩|.iter,q=>⟨st.T,ZU st.B i (some (st.m,.iter q.1 q.2)),Nat.succ st.m⟩|_,_=>st
def injL:(h:QH)->Tup h->Y D->Y D|[],_,st=>st|[p],x,st=>injS st p.2 x p.1|p::q::r,x,st=>injL (q::r) x.2 (injS st p.2 x.1 p.1)
def x4R (h:QH):List Nat:=List.rec [] (fun p _ ih=>match p.1 with|.cell i _=>i::ih|.row i=>i::ih|_=>ih) h
def y9Q:LTy->PV D->Option Nat|.rowI _ _,.lsl i=>some i|_,_=>none
def z2H (st:Y D):Qu->PV D|.tmp t=>KE st.T t|.cell i off=>(match ZQ st.B i with|some (_,.cells l)=>(match Kj l off with|some v=>v|none=>.undef)|_=>.undef)|.row _=>.undef
def x5M (h:QH)(st:Y D):List Nat:=List.rec [] (fun p _ ih=>match y9Q p.2 (z2H st p.1)with|some i=>i::ih|none=>ih) h
def y3M (l:List Nat):Bool:=List.rec true (fun i l ih=>cond (inN i l) false ih) l
def z4M (B:Bt D)(hb:List Nat)(l:List Nat):Bool:=List.rec true (fun i _ ih=>cond (match ZQ B i with|some _=>false|none=>!(inN i hb)) ih false) l
def u9V (B:Bt D)(l:List Nat):Bt D:=List.rec B (fun i _ ih=>ZU ih i none) l
def keepC:PV D->PV D|.lptr i o=>.lptr i o|.nilp=>.nilp|.nils=>.nils|.nilf=>.nilf|.nili=>.nili|_=>.undef
def okC:PV D->PV D->Bool|.undef,_=>true|.lptr i o,.lptr j p=>cond (Nat.beq i j) (Nat.beq o p) false|.nilp,.nilp=>true|.nils,.nils=>true|.nilf,.nilf=>true|.nili,.nili=>true|_,_=>false
def okL (l:List (PV D)):List (PV D)->Bool:=List.rec (fun m=>List.casesOn m true (fun _ _=>false)) (fun v _ ih m=>List.casesOn m false (fun w m=>cond (okC v w) (ih m) false)) l
def u5R (h:QH)(i:Nat):List Nat:=List.rec [] (fun p _ ih=>match p.1 with|.cell j off=>cond (Nat.beq i j) (off::ih) ih|_=>ih) h
def baseL (offs:List Nat)(l:List (PV D)):Nat->List (PV D):=List.rec (fun _=>[]) (fun v _ ih j=>(cond (inN j offs) .undef (keepC v))::ih (Nat.succ j)) l
def baseS (h:QH)(m:Nat)(B:Bt D):Qu->Bt D|.cell i _=>(match ZQ B i with|some (_,.cells l)=>ZU B i (some (m,.cells (baseL (u5R h i) l 0)))|_=>B)|.row i=>ZU B i none|.tmp _=>B
def z4H (h:QH)(m:Nat)(l:QH)(B:Bt D):Bt D:=List.rec B (fun p _ ih=>baseS h m ih p.1) l
def x4D (h:QH)(asg:List Nat)(st:Y D):Y D:=⟨clrT st.T asg,z4H h st.m h (u9V st.B (x5M h st)),Nat.succ st.m⟩
def y2X (m:Nat)(B B':Bt D)(h:QH):Bool:=List.rec true (fun p _ ih=>cond (match p.1 with|.cell i _=>(match ZQ B i,ZQ B' i with|some (_,.cells l),some (_,.cells l')=>okL l l'|_,_=>false)|.row i=>Nat.ble (Nat.succ i) m|.tmp _=>true) ih false) h
def keptB (B B':Bt D)(l:List Nat)(m:Nat):Bool:=Nat.rec true (fun i ih=>cond (cond (inN i l) true (match ZQ B i,ZQ B' i with|some (s,_),some (s',_)=>Nat.beq s s'|none,_=>true|_,none=>false)) ih false) m
def u7F (h:QH)(m:Nat)(st0:Y D)(again:Tup h->Option R)(st':Y D):Option R:=cond (cond (keptB st0.B st'.B (x4R h) m) (cond (y2X m st0.B st'.B h) (cond (y3M (x5M h st')) (z4M st0.B (x4R h) (x5M h st')) false) false) false) (match extL h st' with|some x'=>again x'|none=>none) none
def z5U (h:QH)(m:Nat)(st0:Y D)(k:Ex->Y D->Option R)(again:Tup h->Option R):Ex->Y D->Option R|.normal,st'=>u7F h m st0 again st'|e,st'=>k e st'
def loopK (N:Nat)(sb:Y D->(Ex->Y D->Option R)->Option R)(h:QH)(m:Nat)(st0:Y D)(k:Ex->Y D->Option R)(x:Tup h):Option R:=iter N (fun again x=>sb (injL h x st0) (z5U h m st0 k again)) x
def sem (tbl:Tbl D)(N:Nat)(c:YC):Y D->(Ex->Y D->Option R)->Option R:=YC.rec (motive:=fun _=>Y D->(Ex->Y D->Option R)->Option R) (fun st k=>k .normal st) (fun l clr st k=>v6F tbl l st fun st=>k .normal ⟨clrT st.T clr,st.B,st.m⟩) (fun l clr st k=>ZA tbl l st [] st.m fun st=>k .normal ⟨clrT st.T clr,st.B,st.m⟩) (fun _ _ sa sb st k=>sa st fun e st=>match e with|.normal=>sb st k|e=>k e st) (fun c _ _ sa sb st k=>match opd st.T [] c with|.bool b=>cond b (sa st k) (sb st k)|_=>none) (fun id _ sb st k=>sb st fun e st=>match e with|.exit i=>cond (Nat.beq i id) (k .normal st) (k (.exit i) st)|e=>k e st) (fun h asg _ sb st k=>u7F h st.m (x4D h asg st) (loopK N sb h st.m (x4D h asg st) k) st) (fun id st k=>k (.exit id) st) (fun st k=>k .ret st) c
end
end
section
variable {D R:Type}
def v7S (vs:List (PV D)):Nat->Tt D->Tt D:=List.rec (fun _ T=>T) (fun v _ ih k T=>ih (Nat.succ k) (pset T k v)) vs
inductive RV where
 |t (n:Nat)
 |c (a n:Nat) (agg:Bool)
 deriving Repr,Inhabited
def retV (st:Y D):RV->Option (PV D)|.t n=>some (x3T [] (KE st.T n))|.c a n agg=>match KE st.T a with|.lptr i off=>(match ZQ st.B i with|some (_,.cells l)=>z6G agg off n l|_=>none)|_=>none
def retL (st:Y D)(l:List RV):Option (List (PV D)):=List.rec (some []) (fun r _ ih=>Option.casesOn (retV st r) none (fun v=>Option.casesOn ih none (fun vs=>some (v::vs)))) l
def retP (st:Y D):List RV->Option (PV D)|[r]=>retV st r|l=>Option.casesOn (retL st l) none (fun vs=>some (.tup vs))
def retK (st:Y D)(rs:List RV)(K:PV D->Y D->Option R):Option R:=Option.casesOn (retP st rs) none (fun v=>K v st)
def ZP (tbl:Tbl D)(N:Nat)(c:YC)(rs:List RV)(args:List (PV D))(B:Bt D)(m:Nat)(K:PV D->Y D->Option R):Option R:=sem tbl N c ⟨v7S args 0 .leaf,B,m⟩ fun e st=>match e with|.normal=>retK st rs K|.ret=>retK st rs K|_=>none
end
def cst0:Value->Option Cst|.bool b=>some (.bool b)|.int k n=>some (.int k n)|.string s=>some (.str s.data.toList)|.pointer none=>some .nilp|.slice none 0 0=>some .nils|.nilFunc=>some .nilf|.nilIface=>some .nili|_=>none
def cstL (l:List Value):Option (List Cst):=List.rec (some []) (fun v _ ih=>(cst0 v).bind fun c=>ih.map fun r=>c::r) l
def cstV:Value->Option Cst|.agg cs=>(cstL cs.toList).map .agg|v=>cst0 v
def ydO:Operand->Option Yd|.tmp t=>some (.t t)|.const v=>(cstV v).map .c|.func f=>some (.f f)|.global _=>none
def ydL (l:List Operand):Option (List Yd):=List.rec (some []) (fun x _ ih=>(ydO x).bind fun c=>ih.map fun r=>c::r) l
def y1 (f:Yd->YOp)(x:Operand):Option YOp:=(ydO x).map f
def y2 (f:Yd->Yd->YOp)(x y:Operand):Option YOp:=(ydO x).bind fun a=>(ydO y).map fun b=>f a b
def ydOpt:Option Operand->Option (Option Yd)|none=>some none|some x=>(ydO x).map some
def cInts (l:List Cst):Option (IntKind×List Int):=List.rec none (fun c _ ih=>match c with|.int k n=>(match ih with|some (k',r)=>cond (Zl k k') (some (k,n::r)) none|none=>some (k,[n]))|_=>none) l
def x2A (P:Program)(t:TypeId):Bool:=match P.underlying t with|some (.array _ _)=>true|some (.struct fs)=>(match fs.toList with|[f]=>(match P.underlying f.type with|some (.array _ _)=>true|_=>false)|_=>false)|_=>false
def y9D (k:IntKind)(l:List Cst):Option (List Int):=List.rec (some []) (fun c _ ih=>match c with|.int k' n=>cond (Zl k k') (ih.map fun r=>n::r) none|_=>none) l
def Kg (P:Program)(e:TypeId):Option YOp:=(x4Q P e).bind fun z=>(cstL z).bind fun cs=>cond (x2A P e) (match cs with|.int k _::_=>(y9D k cs).map fun l=>.allocI e k l|.nilf::_=>some (.alloc cs)|_=>none) (some (.alloc cs))
def ekOf:Option TypeDesc->Option EK|some (.int _)=>some .i|some .bool=>some .b|some .string=>some .s|_=>none
def eqFs (P:Program)(fs:List Field):Nat->Option (List EK):=List.rec (fun _=>some []) (fun f _ ih i=>cond (cond (f.name != "_") (Nat.beq f.offset i) false) ((ekOf (P.underlying f.type)).bind fun k=>(ih (Nat.succ i)).map fun r=>k::r) none) fs
def eqKs (P:Program)(t:TypeId)(fs:List Field):List EK:=cond (cond (P.stoodInHeld t) true (P.eqGuardType P.depth t)) [] (match eqFs P fs 0 with|some l=>l|none=>[])
def yBin (P:Program)(op:BinOp)(t:TypeId)(x y:Operand):Option YOp:=match P.underlying t with|some (.int _)=>(match op with|.add|.sub|.mul|.and|.or|.xor|.andNot=>y2 (.ari op) x y|.quo|.rem=>y2 (.div op) x y|.shl|.shr=>y2 (.shf op) x y|.eql|.neq|.lss|.leq|.gtr|.geq=>y2 (.cmp op) x y)|some .bool=>(match op with|.eql=>y2 (.beq false) x y|.neq=>y2 (.beq true) x y|_=>none)|some .string=>(match op with|.add=>y2 .scat x y|.eql=>y2 (.scmp false) x y|.neq=>y2 (.scmp true) x y|_=>none)|some (.pointer _)=>(match op with|.eql=>y2 (.eqnil false false) x y|.neq=>y2 (.eqnil false true) x y|_=>none)|some (.slice _)=>(match op with|.eql=>y2 (.eqnil true false) x y|.neq=>y2 (.eqnil true true) x y|_=>none)|some (.struct fs)=>(match op with|.eql=>y2 (.aeq false (eqKs P t fs.toList)) x y|.neq=>y2 (.aeq true (eqKs P t fs.toList)) x y|_=>none)|_=>none
def y0J (P:Program)(e:TypeId):Bool:=cond (isU8 (P.underlying e)) (match x1K P e with|some k=>Nat.beq k 1|none=>false) false
def z1Z (P:Program)(s d:TypeId)(x:Operand):Option YOp:=match P.underlying d,P.underlying s with|some (.int k),some (.int _)=>y1 (.iconv k) x|some .string,some (.int _)=>y1 .rstr x|some .string,some .string=>y1 (fun x=>.ssl x none none) x|some .string,some (.slice e)=>cond (isU8 (P.underlying e)) (y1 .b2s x) none|some (.slice e),some .string=>cond (y0J P e) (y1 (.s2b e) x) none|some (.slice e),some (.slice e')=>cond (cond (cond (Nat.beq s d) (Nat.beq e' e) false) (y0J P e) false) (y1 .b2b x) none|_,_=>none
def y0R (P:Program)(t:TypeId)(x:Operand)(lo hi:Option Operand):Option YOp:=match P.underlying t with|some .string=>(ydO x).bind fun x=>(ydOpt lo).bind fun l=>(ydOpt hi).map fun h=>.ssl x l h|_=>none
def x3E (P:Program)(e:TypeId):Option IntKind:=match P.underlying e,x1K P e,x4Q P e,P.info? e with|some (.int k),some 1,some [.int k' 0],some i=>cond (cond (Zl k k') (cond (Nat.ble 1 i.bytes) (Nat.ble i.bytes 8) false) false) (some k) none|_,_,_,_=>none
def y5M (ps:List (Nat×Operand)):Option (List (Nat×Yd)):=List.rec (some []) (fun p _ ih=>(ydO p.2).bind fun c=>ih.map fun r=>(p.1,c)::r) ps
def z1Y (pl:List (Nat×Nat))(ps:List (Nat×Yd)):Option (List ((Nat×Nat)×Yd)):=List.rec (some []) (fun p _ ih=>(Kj pl p.1).bind fun q=>ih.map fun r=>(q,p.2)::r) ps
def arrPl (s n:Nat):List (Nat×Nat):=(List.range n).map fun i=>(Nat.mul i s,s)
def yPl (P:Program)(t:TypeId):Option (List (Nat×Nat)):=match x6Q (P.underlying t)with|some fs=>x7R P fs|none=>(y9A (P.underlying t)).bind fun p=>(x1K P p.2).map fun s=>arrPl s p.1
def yBuild (P:Program)(t:TypeId)(ps:List (Nat×Operand)):Option YOp:=(x4Q P t).bind fun z=>(cstL z).bind fun cs=>(yPl P t).bind fun pl=>(y5M ps).bind fun ys=>(z1Y pl ys).map fun q=>.bld cs q
def x1E (P:Program)(t len:Nat)(ps:List (Nat×Operand)):Option YOp:=(x2X (P.underlying t)).bind fun e=>(x3E P e).bind fun k=>(y5M ps).bind fun ys=>cond (Nat.ble len 65536) (some (.bslI e k len ys)) none
def yIaddr (P:Program)(t:TypeId)(x i:Operand):Option YOp:=match P.underlying t with|some (.array n e)=>cond (match x1K P e with|some s=>Nat.beq s 1|none=>false) (y2 (.aaddr n) x i) none|some (.slice e)=>cond (match x1K P e with|some s=>Nat.beq s 1|none=>false) (y2 .iaddr x i) none|_=>none
def v1B (P:Program)(s:TypeId)(f:Nat):Option Field:=(x6Q (P.underlying s)).bind fun fs=>Kj fs f
def x1D (P:Program)(b:Builtin)(args:List Operand)(ts:List TypeId):Option YOp:=match b,args,ts with|.len,[x],[t]=>(match P.underlying t with|some .string=>y1 .slen x|some (.slice _)=>y1 .llen x|_=>none)|.max,[x,y],_=>y2 (.mx true) x y|.min,[x,y],_=>y2 (.mx false) x y|.append,[s,x],[st,xt]=>(x2X (P.underlying st)).bind fun e=>(x2X (P.underlying xt)).bind fun e'=>(x3E P e).bind fun _=>(x3E P e').bind fun _=>y2 (.app e) s x|_,_,_=>none
def u0L (P:Program)(e:TypeId):Bool:=match P.underlying e,x1K P e with|some (.int _),some 1=>true|_,_=>false
def opEq:Operand->Operand->Bool|.tmp a,.tmp b=>Nat.beq a b|_,_=>false
theorem v3A {a b:Operand}(h:opEq a b=true):a=b:=by unfold opEq at h;split at h;{rw[qt h]};cases h
def yMake (P:Program)(t:TypeId)(l c:Operand):Option YOp:=cond (opEq l c) ((x2X (P.underlying t)).bind fun e=>(x3E P e).bind fun k=>y1 (fun x=>.prim (.mks e k) [x]) l) none
def x1Z (P:Program):Op->Option YOp|.move x=>y1 .mv x|.assign x=>y1 .mv x|.nilCheck x=>y1 .nilck x|.pick c a b=>(ydO c).bind fun c=>(ydO a).bind fun a=>(ydO b).map fun b=>.pick c a b|.binOp op t x y _=>yBin P op t x y|.unOp .not _ x=>y1 .not x|.unOp .neg _ x=>y1 .neg x|.convert s d x=>z1Z P s d x|.index t x i=>(match P.underlying t with|some .string=>y2 .sidx x i|some (.array n e)=>cond (u0L P e) (y2 (.aidx n) x i) none|_=>none)|.slice t x lo hi none=>y0R P t x lo hi|.call {callee:=.builtin b,args,argTypes}=>x1D P b args.toList argTypes.toList|.call {callee:=.value (.func f),args,..}=>(ydL args.toList).map fun a=>.call f a|.call {callee:=.value (.tmp t),args,..}=>(ydL args.toList).map fun a=>.callv (.t t) a|.box e x=>y1 (.box e) x|.alloc e=>Kg P e|.fieldAddr s x f=>(v1B P s f).bind fun fd=>(x1K P fd.type).bind fun k=>cond (Nat.ble 1 k) (y1 (fun x=>.faddr x fd.offset) x) none|.field s x f=>(v1B P s f).bind fun fd=>(P.underlying fd.type).bind fun _=>(x1K P fd.type).bind fun k=>y1 (fun x=>.fld x fd.offset k (x2C (P.underlying fd.type))) x|.load t a=>(P.underlying t).bind fun _=>(x1K P t).bind fun k=>y1 (.ld k (x2C (P.underlying t))) a|.store t a v=>(x1K P t).bind fun k=>y2 (.st k) a v|.build t ps=>yBuild P t ps.toList|.buildSlice t len ps=>x1E P t len ps.toList|.indexAddr t x i=>yIaddr P t x i|.extract t ix=>y1 (fun x=>.ext x ix) t|.range t x=>(match P.underlying t with|some .string=>y1 (fun x=>.prim .rng [x]) x|_=>none)|.next it true=>y1 (fun x=>.prim .nxt [x]) it|.makeSlice t l c=>yMake P t l c|_=>none
def ZI (all:List Oper)(Cs:List Ch):Option (Nat×Bool)->Option Ch|none=>some []|some (j,want)=>((Kj all j).bind (·.dst)).bind fun t=>(Kj Cs j).map fun C=>(t,want)::C
def x5V (all:List Oper):List Oper->List Ch->Option (List Ch):=fun l=>List.rec (fun acc=>some acc) (fun o _ ih acc=>(ZI all acc o.guard).bind fun C=>ih (acc++[C])) l
def ZR (P:Program)(sz:Nat)(C:Ch)(o:Oper):Option YO:=cond (y9V sz o.dst) ((x1Z P o.op).map fun y=>⟨C,o.dst,y⟩) none
def v7A (P:Program)(sz:Nat)(ops:List Oper)(Cs:List Ch):Option (List YO):=List.rec (fun Cs=>List.casesOn Cs (some []) (fun _ _=>none)) (fun o _ ih Cs=>List.casesOn Cs none (fun C Cs=>(Yec.ZR P sz C o).bind fun y=>(ih Cs).map fun r=>y::r)) ops Cs
def x2B (l:List YO):List Nat:=List.rec [] (fun o _ ih=>match o.C,o.dst with|_::_,some d=>d::ih|_,_=>ih) l
abbrev Dn:=List (Ch×Nat)
def hasD (t:Nat)(C:Ch)(dn:Dn):Bool:=List.rec false (fun q _ ih=>cond (cond (Nat.beq q.2 t) (eqC q.1 C) false) true ih) dn
def dIn (t:Nat)(dn:Dn):Bool:=List.rec false (fun q _ ih=>cond (Nat.beq q.2 t) true ih) dn
def y3X (dn:Dn):Ch->Bool|[]=>true|p::C=>hasD p.1 C dn
def x6G (l:List YO):Dn->Bool:=List.rec (fun _=>true) (fun o _ ih dn=>cond (y3X dn o.C) (match o.dst with|some d=>cond (dIn d dn) false (ih ((o.C,d)::dn))|none=>ih dn) false) l
def ZT:Kd->DK|.free=>.free|.load=>.load|.eff=>.eff
def v7B (P:Program)(sz:Nat)(all:List Oper)(Cs:List Ch)(L:List PI):Option (List YD):=List.rec (some []) (fun x _ ih=>(Kj all x.i).bind fun o=>(Kj Cs x.i).bind fun C=>(Yec.ZR P sz C o).bind fun y=>ih.map fun r=>⟨x.i,x.D,ZT x.kd,y⟩::r) L
def ysOf (l:List YD):List YO:=List.rec [] (fun x _ ih=>x.o::ih) l
def isMk:YOp->Bool|.box _ _|.alloc _|.allocI _ _ _|.bslI _ _ _ _|.s2b _ _=>true|_=>false
def okEA (l:List YD):Nat->Nat->Bool:=List.rec (fun _ _=>true) (fun x _ ih E A=>match x.kd with|.free=>ih E (cond (isMk x.o.op) (Nat.lor A (bit x.i)) A)|.load=>cond (sub E x.D) (ih E A) false|.eff=>cond (cond (sub E x.D) (sub A x.D) false) (ih (Nat.lor E (bit x.i)) A) false) l
def compR (P:Program)(sz:Nat)(ops:List Oper):Bool->Option YC|false=>(x5V ops ops []).bind fun Cs=>(v7A P sz ops Cs).bind fun l=>cond (x6G l []) (some (.ops l (x2B l))) none|true=>(x5V ops ops []).bind fun Cs=>(y1B P sz ops).bind fun L=>(v7B P sz ops Cs L).bind fun l=>cond (cond (x6G (ysOf l) []) (okEA l 0 0) false) (some (.draw l (x2B (ysOf l)))) none
def y7U (l:List YO):List Nat:=List.rec [] (fun o _ ih=>match o.dst with|some d=>d::ih|none=>ih) l
def x5F (h:QH):List Nat:=List.rec [] (fun p _ ih=>match p.1 with|.tmp t=>t::ih|_=>ih) h
def x6C (c:YC):List Nat:=YC.rec (motive:=fun _=>List Nat) [] (fun l clr=>y7U l++clr) (fun l clr=>y7U (ysOf l)++clr) (fun _ _ a b=>a++b) (fun _ _ _ a b=>a++b) (fun _ _ a=>a) (fun h _ _ a=>x5F h++a) (fun _=>[]) [] c
def z8N (P:Program)(sz:Nat)(c:Code):List QH->Option (YC×List QH):=Code.rec (motive:=fun _=>List QH->Option (YC×List QH)) (fun hs=>some (.skip,hs)) (fun _ ops draw hs=>(compR P sz ops.toList draw).map fun y=>(y,hs)) (fun _ _ ia ib hs=>(ia hs).bind fun p=>(ib p.2).map fun q=>(.seq p.1 q.1,q.2)) (fun c _ _ ia ib hs=>(ydO c).bind fun c=>(ia hs).bind fun p=>(ib p.2).map fun q=>(.cond c p.1 q.1,q.2)) (fun id _ ib hs=>(ib hs).map fun p=>(.block id p.1,p.2)) (fun _ ib hs=>match hs with|h::hs=>(ib hs).map fun p=>(.loop h (x5F h++x6C p.1) p.1,p.2)|[]=>none) (fun _ _ _ _ _ _ _=>none) (fun id hs=>some (.exit id,hs)) (fun _ _ _=>none) (fun _ _=>none) (fun _ _=>none) (fun hs=>some (.ret,hs)) (fun _ _=>none) c
def resV (P:Program):ResultVar->Option RV|.tmp t=>some (.t t)|.cell a t=>(P.underlying t).bind fun _=>(x1K P t).map fun n=>.c a n (x2C (P.underlying t))
def resT (P:Program)(l:List ResultVar):Option (List RV):=List.rec (some []) (fun r _ ih=>(resV P r).bind fun v=>ih.map fun vs=>v::vs) l
def v0H (P:Program)(f:FuncId)(hs:List QH):Option (YC×List RV×Nat):=(P.funcs[f]?).bind fun fn=>fn.body.bind fun c=>(z8N P fn.ntmps c hs).bind fun p=>(resT P fn.results.toList).map fun rs=>(p.1,rs,fn.ntmps)
abbrev Mu:=Nat->Option (Option Nat×Nat)
section
variable {D:Type}
mutual
inductive Rep (V:D->List (PV D)) (μ:Mu) (H:Hp) (M:Nat->Prop):PV D->Value->Prop
 |undef (v:Value):Rep V μ H M .undef v
 |bool (b:Bool):Rep V μ H M (.bool b) (.bool b)
 |int (k:IntKind) (n:Int):Rep V μ H M (.int k n) (.int k n)
 |str (b:ByteArray):Rep V μ H M (.str b.data.toList) (.string b)
 |agg (l:List (PV D)) (a:Array Value) (h:Qt V μ H M l a.toList):Rep V μ H M (.agg l) (.agg a)
 |aggI (k:IntKind) (l:List Int) (a:Array Value) (h:a.toList=l.map (Value.int k)):Rep V μ H M (.aggI k l) (.agg a)
 |tup (l:List (PV D)) (a:Array Value) (h:Qt V μ H M l a.toList):Rep V μ H M (.tup l) (.tuple a)
 |nilp:Rep V μ H M .nilp (.pointer none)
 |nils:Rep V μ H M .nils (.slice none 0 0)
 |nilf:Rep V μ H M .nilf .nilFunc
 |nili:Rep V μ H M .nili .nilIface
 |lptr (i off x len:Nat) (h:μ i=some (some x,len)):Rep V μ H M (.lptr i off) (.pointer (some ⟨x,off,none⟩))
 |lelt (i:Nat) (ix:Int) (x len:Nat) (h:μ i=some (some x,len)) (h0:0<=ix) (h1:ix.toNat<len):Rep V μ H M (.lelt i ix) (.pointer (some ⟨x,ix.toNat,none⟩))
 |lsl (i x len c:Nat) (h:μ i=some (some x,len)) (hc:c=unk\/c=len):Rep V μ H M (.lsl i) (.slice (some ⟨x,0,none⟩) len c)
 |lsln (i:Nat) (h:μ i=some (none,0)):Rep V μ H M (.lsl i) (.slice none 0 0)
 |fsl0 (esz:Nat) (f:Nat->PV D):Rep V μ H M (.fsl esz 0 f) (.slice none 0 0)
 |fsl (esz n:Nat) (f:Nat->PV D) (x off c:Nat) (l:List Value) (e:TypeId) (hx:¬M x) (hg:Zg H x=some (.cells l e)) (hl:off+n*esz<=l.length) (h:∀i,i<n->Rep1 V μ H M esz (f i) ((l.drop (off+i*esz)).take esz)):Rep V μ H M (.fsl esz n f) (.slice (some ⟨x,off,none⟩) n c)
 |fptr (esz:Nat) (v:PV D) (x off:Nat) (l:List Value) (e:TypeId) (hx:¬M x) (hg:Zg H x=some (.cells l e)) (hl:off+esz<=l.length) (h:Rep1 V μ H M esz v ((l.drop off).take esz)):Rep V μ H M (.fptr v) (.pointer (some ⟨x,off,none⟩))
 |dat (d:D) (a:Array Value) (h:Qt V μ H M (V d) a.toList):Rep V μ H M (.dat d) (.agg a)
 |fn (f:FuncId) (a b:List (PV D)) (x y:Array Value) (h1:Qt V μ H M a x.toList) (h2:Qt V μ H M b y.toList):Rep V μ H M (.fn f a b) (.func (.func f) x y)
 |opt1 (C:Ch) (v:PV D) (x:Value) (h:Rep V μ H M v x):Rep V μ H M (.opt C true v) x
 |opt0 (C:Ch) (v:PV D):Rep V μ H M (.opt C false v) Go.undef
 |nx1 (p c:Int):Rep V μ H M (.nx true p c) (.tuple #[.bool true,.int .i64 p,.int .i32 c])
 |nx0 (p c:Int):Rep V μ H M (.nx false p c) (.tuple #[.bool false])
 |celt (i:Nat) (ix:Int) (n:Nat) (x len:Nat) (h:μ i=some (some x,len)) (h0:0<=ix) (h1:ix.toNat<n):Rep V μ H M (.celt i ix n) (.pointer (some ⟨x,ix.toNat,none⟩))
 |sel (l:List (PV D)) (ix:Int) (v:PV D) (x:Value) (h0:0<=ix) (hl:l[ix.toNat]? =some v) (h:Rep V μ H M v x):Rep V μ H M (.sel l ix) x
inductive Qt (V:D->List (PV D)) (μ:Mu) (H:Hp) (M:Nat->Prop):List (PV D)->List Value->Prop
 |nil:Qt V μ H M [] []
 |cons (a:PV D) (x:Value) (l:List (PV D)) (m:List Value) (h:Rep V μ H M a x) (t:Qt V μ H M l m):Qt V μ H M (a::l) (x::m)
inductive Rep1 (V:D->List (PV D)) (μ:Mu) (H:Hp) (M:Nat->Prop):Nat->PV D->List Value->Prop
 |one (v:PV D) (x:Value) (h:Rep V μ H M v x):Rep1 V μ H M 1 v [x]
 |agg (n:Nat) (l:List (PV D)) (m:List Value) (h:Qt V μ H M l m):Rep1 V μ H M n (.agg l) m
 |dat (n:Nat) (d:D) (m:List Value) (h:Qt V μ H M (V d) m):Rep1 V μ H M n (.dat d) m
end
variable {V:D->List (PV D)} {μ μ':Mu} {H H':Hp} {M M':Nat->Prop}
structure Keep (μ:Mu) (H:Hp) (M:Nat->Prop) (μ':Mu) (H':Hp) (M':Nat->Prop):Prop where
 mu:∀i q,μ i=some q->μ' i=some q
 fz:∀x o,¬M x->Zg H x=some o->¬M' x/\Zg H' x=some o
theorem Rep.keep {v:PV D}{x:Value}(h:Rep V μ H M v x)(k:Keep μ H M μ' H' M'):Rep V μ' H' M' v x:=by refine Rep.rec (motive_1:=fun v x _=>Rep V μ' H' M' v x) (motive_2:=fun l m _=>Qt V μ' H' M' l m) (motive_3:=fun n v m _=>Rep1 V μ' H' M' n v m) ?_ ?_ ?_ ?_ ?_ ?_ ?_ ?_ ?_ ?_ ?_ ?_ ?_ ?_ ?_ ?_ ?_ ?_ ?_ ?_ ?_ ?_ ?_ ?_ ?_ ?_ ?_ ?_ ?_ ?_ ?_ h;{exact fun v=>.undef v};{exact fun b=>.bool b};{exact fun k n=>.int k n};{exact fun b=>.str b};{exact fun l a _ h=>.agg l a h};{exact fun k l a h=>.aggI k l a h};{exact fun l a _ h=>.tup l a h};{exact .nilp};{exact .nils};{exact .nilf};{exact .nili};{exact fun i off x len h=>.lptr i off x len (k.mu _ _ h)};{exact fun i ix x len h h0 h1=>.lelt i ix x len (k.mu _ _ h) h0 h1};{exact fun i x len c h hc=>.lsl i x len c (k.mu _ _ h) hc};{exact fun i h=>.lsln i (k.mu _ _ h)};{exact fun esz f=>.fsl0 esz f};{exact fun esz n f x off c l e hx hg hl _ ih=>.fsl esz n f x off c l e (k.fz _ _ hx hg).1 (k.fz _ _ hx hg).2 hl ih};{exact fun esz v x off l e hx hg hl _ ih=>.fptr esz v x off l e (k.fz _ _ hx hg).1 (k.fz _ _ hx hg).2 hl ih};{exact fun d a _ h=>.dat d a h};{exact fun f a b x y _ _ h1 h2=>.fn f a b x y h1 h2};{exact fun C v x _ h=>.opt1 C v x h};{exact fun C v=>.opt0 C v};{exact fun p c=>.nx1 p c};{exact fun p c=>.nx0 p c};{exact fun i ix n x len h h0 h1=>.celt i ix n x len (k.mu _ _ h) h0 h1};{exact fun l ix v x h0 hl _ h=>.sel l ix v x h0 hl h};{exact .nil};{exact fun a x l m _ _ h t=>.cons a x l m h t};{exact fun v x _ h=>.one v x h};{exact fun n l m _ h=>.agg n l m h};exact fun n d m _ h=>.dat n d m h
theorem Qt.keep {l:List (PV D)}{m:List Value}(h:Qt V μ H M l m)(k:Keep μ H M μ' H' M'):Qt V μ' H' M' l m:=by induction l generalizing m with|nil=>{cases h;exact .nil}|cons a l ih=>cases h with|cons _ x _ m h t=>exact .cons a x l m (h.keep k) (ih t)
theorem Qt.length {l:List (PV D)}{m:List Value}(h:Qt V μ H M l m):l.length=m.length:=by induction l generalizing m with|nil=>{cases h;rfl}|cons a l ih=>cases h with|cons _ x _ m h t=>simp[ih t]
theorem Qt.get {l:List (PV D)}{m:List Value}(h:Qt V μ H M l m)(i:Nat)(v:PV D)(hi:l[i]? =some v):∃x,m[i]? =some x/\Rep V μ H M v x:=by induction l generalizing m i with|nil=>{simp at hi}|cons a l ih=>cases h with|cons _ x _ m h t=>cases i with|zero=>{simp at hi;subst hi;exact⟨x,rfl,h⟩}|succ i=>simpa using ih t i (by simpa using hi)
theorem Rep.int_of {k:IntKind}{n:Int}{x:Value}(h:Rep V μ H M (.int k n) x):x=.int k n:=by cases h;rfl
theorem Rep.bool_of {b:Bool}{x:Value}(h:Rep V μ H M (.bool b) x):x=.bool b:=by cases h;rfl
theorem Rep.str_of {s:List UInt8}{x:Value}(h:Rep V μ H M (.str s) x):∃b:ByteArray,b.data.toList=s/\x=.string b:=by cases h;exact⟨_,rfl,rfl⟩
inductive QI (V:D->List (PV D)) (μ:Mu) (H:Hp) (M:Nat->Prop):Option Nat->Nat->Blk D->Prop
 |cells (x len:Nat) (l:List (PV D)) (xl:List Value) (e:TypeId) (h:Zg H x=some (.cells xl e)) (hl:Qt V μ H M l xl):QI V μ H M (some x) len (.cells l)
 |rowI (x e:Nat) (k:IntKind) (l:List Int) (h:Zg H x=some (.cells (l.map (Value.int k)) e)):QI V μ H M (some x) l.length (.rowI e k l)
 |rowN (e:Nat) (k:IntKind):QI V μ H M none 0 (.rowI e k [])
 |iter (x len:Nat) (s:ByteArray) (p:Nat) (h:Zg H x=some (.iter s p)):QI V μ H M (some x) len (.iter s.data.toList (p:Int))
theorem QI.keep {ox:Option Nat}{len:Nat}{b:Blk D}(h:QI V μ H M ox len b)(k:Keep μ H M μ' H' M')(he:∀x,ox=some x->Zg H' x=Zg H x):QI V μ' H' M' ox len b:=by cases h with|cells x len l xl e h hl=>{exact .cells x len l xl e (by rw[he x rfl];exact h) (hl.keep k)}|rowI x e k l h=>{exact .rowI x e k l (by rw[he x rfl];exact h)}|rowN e k=>{exact .rowN e k}|iter x len s p h=>exact .iter x len s p (by rw[he x rfl];exact h)
def MX (X:Nat->Prop)(μ:Mu)(B:Bt D):Nat->Prop:=fun x=>X x\/∃i s b len,ZQ B i=some (s,b)/\μ i=some (some x,len)
structure HR (V:D->List (PV D)) (X:Nat->Prop) (μ:Mu) (B:Bt D) (m:Nat) (H:Hp) (n:Nat):Prop where
 blk:∀i s b,ZQ B i=some (s,b)->s<m/\∃ox len,μ i=some (ox,len)/\QI V μ H (MX X μ B) ox len b
 inj:∀i j s s' b b' x a c,ZQ B i=some (s,b)->ZQ B j=some (s',b')->μ i=some (some x,a)->μ j=some (some x,c)->i=j
 nx:∀i s b x len,ZQ B i=some (s,b)->μ i=some (some x,len)->¬X x
 lt:∀i x len,μ i=some (some x,len)->x<n
 lm:∀i q,μ i=some q->i<m
 xlt:∀x,X x->x<n
 fresh:∀x,n<=x->Zg H x=none
theorem x1A (B:Bt D)(i j:Nat)(o:Option (Nat×Blk D)):ZQ (ZU B i o) j=if j=i then o else ZQ B j:=Tr.get_set none o (i+1) B i j (qv i)
theorem x3W (T:Tt D)(t u:Nat)(v:PV D):KE (pset T t v) u=if u=t then v else KE T u:=Tr.get_set .undef v (t+1) T t u (qv t)
theorem z6F (t:Nat):KE (.leaf:Tt D) t=.undef:=rfl
theorem x4U (t:Nat):ZQ (.leaf:Bt D) t=none:=rfl
structure Gr (μ:Mu) (B:Bt D) (m:Nat) (H:Hp) (n:Nat) (μ':Mu) (B':Bt D) (m':Nat) (H':Hp) (n':Nat):Prop where
 le:n<=n'
 lem:m<=m'
 mu:∀i,i<m->μ' i=μ i
 frame:∀x,x<n->(∀i s b len,ZQ B i=some (s,b)->μ i≠some (some x,len))->Zg H' x=Zg H x
 live:∀i s b,i<m->ZQ B' i=some (s,b)->∃s' b',ZQ B i=some (s',b')
 new:∀i s b x len,m<=i->ZQ B' i=some (s,b)->μ' i=some (some x,len)->n<=x\/∃j s' b' c,ZQ B j=some (s',b')/\μ j=some (some x,c)
 st:∀i s b,ZQ B' i=some (s,b)->s<m->ZQ B i=some (s,b)
 kept:∀i s b x len,i<m->ZQ B' i=some (s,b)->s<m->μ i=some (some x,len)->Zg H' x=Zg H x
theorem Gr.refl (μ:Mu)(B:Bt D)(m:Nat)(H:Hp)(n:Nat):Gr μ B m H n μ B m H n where
  le:=qQ _
  lem:=qQ _
  mu _ _:=rfl
  frame _ _ _:=rfl
  live _ s b _ h:=⟨s,b,h⟩
  new i s b x len _ h1 h2:=.inr ⟨i,s,b,len,h1,h2⟩
  st _ _ _ h _:=h
  kept _ _ _ _ _ _ _ _ _:=rfl
variable {X:Nat->Prop} {B B' B'':Bt D} {m m' m'' n n' n'':Nat} {μ'':Mu} {H'':Hp}
theorem Gr.off (g:Gr μ B m H n μ' B' m' H' n'){x:Nat}(hx:x<n)(h:∀i s b len,ZQ B i=some (s,b)->μ i≠some (some x,len)):∀i s b len,ZQ B' i=some (s,b)->μ' i≠some (some x,len):=by intro i s b len hb hm;by_cases hi:i<m;{obtain⟨s',b',h1⟩:=g.live i s b hi hb;exact h i s' b' len h1 (by rw[<-g.mu i hi];exact hm)};rcases g.new i s b x len (by omega) hb hm with h1|⟨j,s',b',c,h1,h2⟩;{omega};exact h j s' b' c h1 h2
theorem Gr.trans (g:Gr μ B m H n μ' B' m' H' n')(g':Gr μ' B' m' H' n' μ'' B'' m'' H'' n''):Gr μ B m H n μ'' B'' m'' H'' n'' where
  le:=qi g.le g'.le
  lem:=qi g.lem g'.lem
  mu i hi:=by rw[g'.mu i (by have:=g.lem;omega),g.mu i hi]
  frame x hx h:=by rw[g'.frame x (by have:=g.le;omega) (g.off hx h),g.frame x hx h]
  live i s b hi hb:=by
    obtain⟨s1,b1,h1⟩:=g'.live i s b (by have:=g.lem;omega) hb
    exact g.live i s1 b1 hi h1
  new i s b x len hi hb hm:=by
    have key:∀j s' b' c,ZQ B' j=some (s',b')->μ' j=some (some x,c)->n<=x\/∃j s' b' c,ZQ B j=some (s',b')/\μ j=some (some x,c):=fun j s' b' c h1 h2=>by
      by_cases hj:j<m
      . obtain⟨s2,b2,h3⟩:=g.live j s' b' hj h1;exact .inr ⟨j,s2,b2,c,h3,by rw[<-g.mu j hj];exact h2⟩
      . exact g.new j s' b' x c (by omega) h1 h2
    by_cases cS:i<m'
    . obtain⟨s1,b1,h1⟩:=g'.live i s b cS hb;exact key i s1 b1 len h1 (by rw[<-g'.mu i cS];exact hm)
    . rcases g'.new i s b x len (by omega) hb hm with h1|⟨j,s',b',c,h1,h2⟩
      . exact .inl (qi g.le h1)
      . exact key j s' b' c h1 h2
  st i s b hb hs:=g.st i s b (g'.st i s b hb (by have:=g.lem;omega)) hs
  kept i s b x len hi hb hs hm:=by
    have hl:=g.lem;rw[g'.kept i s b x len (by omega) hb (by omega) (by rw[g.mu i hi];exact hm),g.kept i s b x len hi (g'.st i s b hb (by omega)) hs hm]
theorem Gr.keep (g:Gr μ B m H n μ' B' m' H' n')(hr:HR V X μ B m H n):Keep μ H (MX X μ B) μ' H' (MX X μ' B') where
  mu i q h:=by rw[g.mu i (hr.lm i q h)];exact h
  fz x o hx ho:=by
    have ah:x<n:=by
      apply qM;intro hn;rw[hr.fresh x (by omega)]at ho;cases ho
    have cA:∀i s b len,ZQ B i=some (s,b)->μ i≠some (some x,len):=fun i s b len h1 h2=>hx (.inr ⟨i,s,b,len,h1,h2⟩);refine⟨fun hm=>?_,by rw[g.frame x ah cA];exact ho⟩
    rcases hm with h1|⟨i,s,b,len,h1,h2⟩
    . exact hx (.inl h1)
    . exact g.off ah cA i s b len h1 h2
structure SR (V:D->List (PV D)) (X:Nat->Prop) (μ:Mu) (st:Y D) (T:Tm) (H:Hp) (n:Nat):Prop where
 hr:HR V X μ st.B st.m H n
 tr:∀t,Rep V μ H (MX X μ st.B) (KE st.T t) (KP T t)
theorem x9J (T:Tt D)(d:Option Tmp)(v:PV D)(t:Nat):KE (KU T d v) t=if d=some t then v else KE T t:=by cases d with|none=>{simp[KU]}|some d=>simp only[KU,x3W];by_cases h:t=d;{subst h;simp};rw[qZ h,qZ (fun e=>h (by cases e;rfl))]
theorem v2R (T:Tm)(d:Option Tmp)(v:Value)(t:Nat):KP (put T d v) t=if d=some t then v else KP T t:=by cases d with|none=>{simp[put]}|some d=>simp only[put,x8N];by_cases h:t=d;{subst h;simp};rw[qZ h,qZ (fun e=>h (by cases e;rfl))]
theorem SR.put {st:Y D}{T:Tm}(h:SR V X μ st T H n)(d:Option Tmp){v:PV D}{x:Value}(hv:Rep V μ H (MX X μ st.B) v x):SR V X μ ⟨KU st.T d v,st.B,st.m⟩ (Xec.put T d x) H n:=⟨h.hr,fun t=>by rw[x9J,v2R];split;{exact hv};exact h.tr t⟩
end
end Go.Yec
