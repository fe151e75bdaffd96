/- THE PURE EXECUTOR -/
import Derived.Lib.Bytealg
import Derived.Lib.IndexAny
import Derived.Lib.LastIndexByte
import Derived.Lib.SlTrimSet
import Derived.Lib.Strings
import Derived.Lib.Atoi
import Derived.Lib.Repeat
import Derived.Test.YtadehgdfijjikaaGreatDoorChecked
import Derived.WalkKit
import Derived.WalkSpells
import Derived.Deep.Light
import Derived.LoopTactic
import Derived.Laws.Rows
import Derived.KernelRfl
import Derived.Test.YtadehgdfijjikaaGreatDoorX6
set_option linter.all false
set_option maxRecDepth 100000
set_option maxHeartbeats 8000000
noncomputable section
namespace Go.Yec
open Go Go.Xec
abbrev Ch:=List (Nat×Bool)
inductive PV (D:Type) where
 |undef
 |bool (b:Bool)
 |int (k:IntKind) (n:Int)
 |str (s:List UInt8)
 |agg (l:List (PV D))
 |aggI (k:IntKind) (l:List Int)
 |tup (l:List (PV D))
 |nilp|nils|nilf|nili
 |lptr (i off:Nat)
 |lelt (i:Nat) (ix:Int)
 |lsl (i:Nat)
 |fsl (esz n:Nat) (f:Nat->PV D)
 |fptr (v:PV D)
 |dat (d:D)
 |fn (f:FuncId) (first cap:List (PV D))
 |opt (C:Ch) (g:Bool) (v:PV D)
 |nx (b:Bool) (p c:Int)
 |celt (i:Nat) (ix:Int) (n:Nat)
 |sel (l:List (PV D)) (ix:Int)
inductive Blk (D:Type) where
 |cells (l:List (PV D))
 |rowI (e:Nat) (k:IntKind) (l:List Int)
 |iter (s:List UInt8) (p:Int)
inductive Cst where
 |bool (b:Bool)
 |int (k:IntKind) (n:Int)
 |str (s:List UInt8)
 |nilp|nils|nilf|nili
 |agg (l:List Cst)
 deriving Repr,Inhabited
inductive Yd where
 |t (n:Nat)
 |c (v:Cst)
 |f (f:FuncId)
 deriving Repr,Inhabited
inductive Prim where|rng|nxt|mks (e:Nat) (k:IntKind)
 deriving Repr,Inhabited
inductive EK where|i|b|s
 deriving Repr,Inhabited
inductive YOp where
 |mv (x:Yd)
 |nilck (x:Yd)
 |pick (c a b:Yd)
 |ari (op:BinOp) (x y:Yd)
 |div (op:BinOp) (x y:Yd)
 |shf (op:BinOp) (x y:Yd)
 |cmp (op:BinOp) (x y:Yd)
 |beq (neg:Bool) (x y:Yd)
 |scmp (neg:Bool) (x y:Yd)
 |aeq (neg:Bool) (ks:List EK) (x y:Yd)
 |scat (x y:Yd)
 |not (x:Yd)
 |neg (x:Yd)
 |iconv (k:IntKind) (x:Yd)
 |rstr (x:Yd)
 |slen (x:Yd)
 |sidx (x i:Yd)
 |aidx (n:Nat) (x i:Yd)
 |ssl (x:Yd) (lo hi:Option Yd)
 |b2s (x:Yd)
 |s2b (e:Nat) (x:Yd)
 |b2b (x:Yd)
 |mx (isMax:Bool) (x y:Yd)
 |box (e:Nat) (x:Yd)
 |alloc (z:List Cst)
 |allocI (e:Nat) (k:IntKind) (z:List Int)
 |faddr (x:Yd) (off:Nat)
 |fld (x:Yd) (off n:Nat) (agg:Bool)
 |ld (n:Nat) (agg:Bool) (x:Yd)
 |st (n:Nat) (x v:Yd)
 |bld (z:List Cst) (ps:List ((Nat×Nat)×Yd))
 |bslI (e:Nat) (k:IntKind) (len:Nat) (ps:List (Nat×Yd))
 |app (e:Nat) (s x:Yd)
 |llen (x:Yd)
 |iaddr (x i:Yd)
 |aaddr (n:Nat) (x i:Yd)
 |ext (x:Yd) (ix:Nat)
 |eqnil (sl neg:Bool) (x y:Yd)
 |call (f:FuncId) (args:List Yd)
 |prim (p:Prim) (args:List Yd)
 |callv (x:Yd) (args:List Yd)
 deriving Repr,Inhabited
structure YO where
 C:Ch
 dst:Option Tmp
 op:YOp
 deriving Repr,Inhabited
inductive KX where
 |tmp (t:Nat)
 |cell (i off:Nat)
 |row (i:Nat)
 deriving Repr,Inhabited
inductive LTy where
 |int (k:IntKind)|bool|str|rowI (e:Nat) (k:IntKind)|iter
 deriving Repr,Inhabited
abbrev KG:=List (KX×LTy)
inductive DK where|free|load|eff
 deriving Repr,Inhabited
structure YD where
 i:Nat
 D:Nat
 kd:DK
 o:YO
 deriving Repr,Inhabited
inductive YC where
 |skip
 |ops (l:List YO) (clr:List Nat)
 |draw (l:List YD) (clr:List Nat)
 |seq (a b:YC)
 |cond (c:Yd) (a b:YC)
 |block (id:Nat) (b:YC)
 |loop (h:KG) (asg:List Nat) (b:YC)
 |exit (id:Nat)
 |ret
 deriving Repr,Inhabited
def LTy.ty:LTy->Type|.int _=>Int|.bool=>Bool|.str=>List UInt8|.rowI _ _=>List Int|.iter=>List UInt8×Int
def Tup:List (KX×LTy)->Type|[]=>Unit|[p]=>p.2.ty|p::q::r=>p.2.ty×Tup (q::r)
section
variable {D:Type}
abbrev Bt (D:Type):=Tr (Option (Nat×Blk D))
abbrev Tt (D:Type):=Tr (PV D)
structure Y (D:Type) where
 T:Tt D
 B:Bt D
 m:Nat
def Kl (B:Bt D)(i:Nat):Option (Nat×Blk D):=Tr.get none B i
def Km (B:Bt D)(i:Nat)(o:Option (Nat×Blk D)):Bt D:=Tr.set none (Nat.succ i) B i o
def WF (T:Tt D)(t:Nat):PV D:=Tr.get .undef T t
def pset (T:Tt D)(t:Nat)(v:PV D):Tt D:=Tr.set .undef (Nat.succ t) T t v
def Wb (T:Tt D):Option Tmp->PV D->Tt D|some d,v=>pset T d v|none,_=>T
def Cst.pv (c:Cst):PV D:=Cst.rec (motive_1:=fun _=>PV D) (motive_2:=fun _=>List (PV D)) (fun b=>.bool b) (fun k n=>.int k n) (fun s=>.str s) .nilp .nils .nilf .nili (fun _ ih=>.agg ih) [] (fun _ _ a b=>a::b) c
def pvL (l:List Cst):List (PV D):=List.rec [] (fun c _ ih=>c.pv::ih) l
def eqC (l:Ch):Ch->Bool:=List.rec (fun m=>List.casesOn m true (fun _ _=>false)) (fun p _ ih m=>List.casesOn m false (fun q m=>cond (cond (Nat.beq p.1 q.1) (cond p.2 q.2 (!q.2)) false) (ih m) false)) l
def sufB (l' l:Ch):Bool:=List.rec (eqC l' []) (fun p l ih=>cond (eqC l' (p::l)) true ih) l
def x3T (C:Ch):PV D->PV D|.opt C' _ v=>cond (sufB C' C) v .undef|v=>v
def opd (T:Tt D)(C:Ch):Yd->PV D|.t n=>x3T C (WF T n)|.c v=>v.pv|.f g=>.fn g [] []
def x8H:PV D->Bool|.bool b=>b|_=>false
def lit (T:Tt D)(C:Ch)(p:Nat×Bool):Bool:=cond p.2 (x8H (x3T C (WF T p.1))) (!(x8H (x3T C (WF T p.1))))
def gOf (T:Tt D)(C:Ch):Bool:=List.rec true (fun p C ih=>cond ih (lit T C p) false) C
def y7E:PV D->Bool|.bool _=>true|_=>false
def chOk (T:Tt D)(C:Ch):Bool:=List.rec true (fun p C ih=>cond (y7E (x3T C (WF T p.1))) ih false) C
inductive OpR (D:Type) where
 |bad
 |val (v:PV D)
 |par (b:Bool) (v:PV D)
 |ld (src:Option Nat) (v:PV D)
 |mk (b:Blk D) (v:Nat->PV D)
 |wr (i:Nat) (b:Blk D)
 |ap (ck:Bool) (i:Option Nat) (b:Blk D)
def ikn:IntKind->Nat|.i8=>0|.i16=>1|.i32=>2|.i64=>3|.u8=>4|.u16=>5|.u32=>6|.u64=>7
def WE (a b:IntKind):Bool:=Nat.beq (ikn a) (ikn b)
def v5U (op:BinOp)(k:IntKind)(x y:Int):Int:=match op with|.and=>k.wrap (BitVec.ofInt k.bits x&&&BitVec.ofInt k.bits y).toNat|.or=>k.wrap (BitVec.ofInt k.bits x|||BitVec.ofInt k.bits y).toNat|.xor=>k.wrap (BitVec.ofInt k.bits x^^^BitVec.ofInt k.bits y).toNat|_=>k.wrap (BitVec.ofInt k.bits x&&& ~~~BitVec.ofInt k.bits y).toNat
def ariR (op:BinOp)(k:IntKind)(x y:Int):OpR D:=match op with|.add=>.val (.int k (k.wrap (x+y)))|.sub=>.val (.int k (k.wrap (x-y)))|.mul=>.val (.int k (k.wrap (x*y)))|.and=>.val (.int k (v5U .and k x y))|.or=>.val (.int k (v5U .or k x y))|.xor=>.val (.int k (v5U .xor k x y))|.andNot=>.val (.int k (v5U .andNot k x y))|_=>.bad
def v5K:Int->Bool|.ofNat n=>Nat.beq n 0|.negSucc _=>false
def divR (op:BinOp)(k:IntKind)(x y:Int):OpR D:=match op with|.quo=>.par (!v5K y) (.int k (k.wrap (x.tdiv y)))|.rem=>.par (!v5K y) (.int k (x.tmod y))|_=>.bad
def shfR (op:BinOp)(k:IntKind)(x y:Int):OpR D:=match op with|.shl=>.par (decide (0<=y)) (.int k (k.wrap (x*2^min y.toNat k.bits)))|.shr=>.par (decide (0<=y)) (.int k (x.fdiv (2^min y.toNat k.bits)))|_=>.bad
def cmpR (op:BinOp)(x y:Int):OpR D:=match op with|.eql=>.val (.bool (decide (x=y)))|.neq=>.val (.bool (!decide (x=y)))|.lss=>.val (.bool (decide (x<y)))|.leq=>.val (.bool (decide (x<=y)))|.gtr=>.val (.bool (decide (y<x)))|.geq=>.val (.bool (decide (y<=x)))|_=>.bad
def onI2 (x y:PV D)(f:IntKind->Int->Int->OpR D):OpR D:=match x,y with|.int k a,.int k' b=>cond (WE k k') (f k a b) .bad|_,_=>.bad
def u7Y (x y:PV D)(f:IntKind->Int->Int->OpR D):OpR D:=match x,y with|.int k a,.int _ b=>f k a b|_,_=>.bad
def negB (neg b:Bool):Bool:=cond neg (!b) b
def Wr (s:List UInt8)(i:Int):Int:=((s.getD i.toNat 0).toNat:Int)
def slen (s:List UInt8):Int:=(s.length:Int)
def inB (i n:Int):Bool:=decide (0<=i/\i<n)
def Wu (s:List UInt8)(lo hi:Int):List UInt8:=(s.drop lo.toNat).take (hi.toNat-lo.toNat)
def y5Z (n:Int):List UInt8:=(Utf8.encode n).data.toList
def x5B (s:List UInt8)(p:Int):Int:=((Utf8.decode ⟨s.toArray⟩ p.toNat).1:Int)
def y2D (s:List UInt8)(p:Int):Int:=cond (decide (p<slen s)) (p+((Utf8.decode ⟨s.toArray⟩ p.toNat).2:Int)) p
def x1R (l:List Int):List UInt8:=l.map fun n=>UInt8.ofNat n.toNat
def x0S (s:List UInt8):List Int:=s.map fun b=>(b.toNat:Int)
def x1U (l:List Int)(i:Int):Int:=l.getD i.toNat 0
def v5H (l:List Int)(i x:Int):List Int:=l.set i.toNat x
def WV (l:List Int):Int:=(l.length:Int)
def sslR (s:List UInt8):Option (PV D)->Option (PV D)->OpR D|none,none=>.val (.str s)|some (.int _ lo),none=>.par (decide (0<=lo/\lo<=slen s)) (.str (Wu s lo (slen s)))|none,some (.int _ hi)=>.par (decide (0<=hi/\hi<=slen s)) (.str (Wu s 0 hi))|some (.int _ lo),some (.int _ hi)=>.par (decide (0<=lo/\lo<=hi/\hi<=slen s)) (.str (Wu s lo hi))|_,_=>.bad
def x2E (x:PV D)(f:List UInt8->OpR D):OpR D:=match x with|.str s=>f s|_=>.bad
def x3K:PV D->List (PV D)|.agg l=>l|v=>[v]
def z8X (e:Nat):PV D->Blk D|.aggI k l=>.rowI e k l|v=>.cells (x3K v)
def v1Q:Nat->List (PV D)->Option (List (PV D)):=Nat.rec (fun _=>some []) (fun _ ih l=>List.casesOn l none (fun x l=>Option.casesOn (ih l) none (fun r=>some (x::r))))
def cutP (l:List (PV D)):Nat->Nat->Option (List (PV D)):=List.rec (fun k n=>Nat.casesOn k (v1Q n []) (fun _=>none)) (fun x l ih k n=>Nat.casesOn k (v1Q n (x::l)) (fun k=>ih k n)) l
def v2W (vs:List (PV D)):List (PV D)->Option (List (PV D)):=List.rec (fun l=>some l) (fun v _ ih l=>List.casesOn l none (fun _ l=>Option.casesOn (ih l) none (fun r=>some (v::r)))) vs
def setP (l:List (PV D)):Nat->List (PV D)->Option (List (PV D)):=List.rec (fun k vs=>Nat.casesOn k (v2W vs []) (fun _=>none)) (fun x l ih k vs=>Nat.casesOn k (v2W vs (x::l)) (fun k=>Option.casesOn (ih k vs) none (fun r=>some (x::r)))) l
def oneP:PV D->Bool|.agg _|.aggI _ _|.tup _|.undef|.dat _|.opt _ _ _|.nx _ _ _|.sel _ _=>false|_=>true
def x5X (l:List (PV D)):Bool:=List.rec true (fun v _ ih=>cond (oneP v) ih false) l
def z6G (agg:Bool)(off n:Nat)(l:List (PV D)):Option (PV D):=cond agg (Option.casesOn (cutP l off n) none (fun r=>some (.agg r))) (WI l off)
def ldR (B:Bt D)(n:Nat)(agg:Bool):PV D->OpR D|.lptr i off=>(match Kl B i with|some (_,.cells l)=>Option.casesOn (z6G agg off n l) .bad (fun v=>.ld (some i) v)|_=>.bad)|.lelt i ix=>(match Kl B i with|some (_,.rowI _ k l)=>cond agg .bad (.ld (some i) (.int k (x1U l ix)))|_=>.bad)|.celt i ix n=>(match Kl B i with|some (_,.cells l)=>cond (cond agg false (Nat.beq n l.length)) (.ld (some i) (.sel l ix)) .bad|_=>.bad)|_=>.bad
def stR (B:Bt D)(n:Nat)(v:PV D):PV D->OpR D|.lptr i off=>(match Kl B i with|some (_,.cells l)=>cond (cond (Nat.beq (x3K v).length n) (x5X (x3K v)) false) (Option.casesOn (setP l off (x3K v)) .bad (fun l'=>.wr i (.cells l'))) .bad|_=>.bad)|.lelt i ix=>(match Kl B i,v with|some (_,.rowI e k l),.int k' x=>cond (cond (WE k k') (Nat.beq n 1) false) (.wr i (.rowI e k (v5H l ix x))) .bad|_,_=>.bad)|_=>.bad
def bldL (ps:List ((Nat×Nat)×PV D)):List (PV D)->Option (List (PV D)):=List.rec (fun cells=>some cells) (fun p _ ih cells=>cond (cond (Nat.beq (x3K p.2).length p.1.2) (x5X (x3K p.2)) false) (Option.casesOn (setP cells p.1.1 (x3K p.2)) none ih) none) ps
def intsL (k:IntKind)(l:List (PV D)):Option (List Int):=List.rec (some []) (fun v _ ih=>match v with|.int k' n=>cond (WE k k') (Option.casesOn ih none (fun r=>some (n::r))) none|_=>none) l
def setI (l:List Int):Nat->Int->Option (List Int):=List.rec (fun _ _=>none) (fun x l ih k v=>Nat.casesOn k (some (v::l)) (fun k=>Option.casesOn (ih k v) none (fun r=>some (x::r)))) l
def bslL (k:IntKind)(ps:List (Nat×PV D)):List Int->Option (List Int):=List.rec (fun l=>some l) (fun p _ ih l=>match p.2 with|.int k' n=>cond (WE k k') (Option.casesOn (setI l p.1 n) none ih) none|_=>none) ps
def Ki (n:Nat)(r:List Int):Bool:=decide (n+r.length<=137438953472)
def appR (B:Bt D)(e:Nat):PV D->PV D->OpR D|.nils,.lsl j=>(match Kl B j with|some (_,.rowI _ k (x::r))=>.ap (Ki 0 (x::r)) none (.rowI e k (x::r))|_=>.bad)|.lsl i,.lsl j=>(match Kl B i,Kl B j with|some (_,.rowI e' k l),some (_,.rowI _ k' (x::r))=>cond (cond (WE k k') (cond (Nat.beq e' e) (!(Nat.beq i j)) false) false) (.ap (Ki l.length (x::r)) (some i) (.rowI e k (l++(x::r)))) .bad|_,_=>.bad)|_,_=>.bad
def v4Z (B:Bt D):PV D->OpR D|.lsl i=>(match Kl B i with|some (_,.rowI _ _ l)=>.val (.int .i64 (WV l))|_=>.bad)|.nils=>.val (.int .i64 0)|.fsl _ n _=>.val (.int .i64 (n:Int))|_=>.bad
def z7G (B:Bt D):PV D->PV D->OpR D|.lsl i,.int _ ix=>(match Kl B i with|some (_,.rowI _ _ l)=>.par (inB ix (WV l)) (.lelt i ix)|_=>.bad)|_,_=>.bad
def selP (c:Bool):PV D->PV D->OpR D|.bool a,.bool b=>.val (.bool (cond c a b))|.int k a,.int k' b=>cond (WE k k') (.val (.int k (cond c a b))) .bad|.str a,.str b=>.val (.str (cond c a b))|.bool a,.undef=>.par c (.bool a)|.undef,.bool b=>.par (!c) (.bool b)|_,_=>.bad
def isPtr:PV D->Bool|.lptr _ _|.lelt _ _|.fptr _=>true|_=>false
def y4D:PV D->Bool|.aggI _ _=>true|v=>x5X (x3K v)
def Wg (n:Nat):List Int:=Nat.rec [] (fun _ ih=>0::ih) n
def eqP1:EK->PV D->PV D->Option Bool|.b,.bool a,.bool b=>some (a==b)|.i,.int k a,.int k' b=>cond (WE k k') (some (decide (a=b))) none|.s,.str a,.str b=>some (decide (a=b))|_,_,_=>none
def eqPL (ks:List EK):List (PV D)->List (PV D)->Option Bool:=List.rec (fun l m=>List.casesOn l (List.casesOn m (some true) (fun _ _=>none)) (fun _ _=>none)) (fun k _ ih l m=>List.casesOn l none (fun v l=>List.casesOn m none (fun w m=>Option.casesOn (eqP1 k v w) none (fun c=>Option.casesOn (ih l m) none (fun d=>some (cond c d false)))))) ks
def nxR (b:Bool)(p c:Int):Nat->OpR D|0=>.val (.bool b)|1=>.par b (.int .i64 p)|2=>.par b (.int .i32 c)|_=>.bad
def opR (B:Bt D)(ρ:Yd->PV D):YOp->OpR D|.mv x=>.val (ρ x)|.nilck x=>cond (isPtr (ρ x)) (.val (ρ x)) .bad|.pick _ _ _=>.bad|.ari op x y=>onI2 (ρ x) (ρ y) (ariR op)|.div op x y=>onI2 (ρ x) (ρ y) (divR op)|.shf op x y=>u7Y (ρ x) (ρ y) (shfR op)|.cmp op x y=>onI2 (ρ x) (ρ y) (fun _=>cmpR op)|.beq neg x y=>(match ρ x,ρ y with|.bool a,.bool b=>.val (.bool (negB neg (a==b)))|_,_=>.bad)|.scmp neg x y=>(match ρ x,ρ y with|.str a,.str b=>.val (.bool (negB neg (decide (a=b))))|_,_=>.bad)|.aeq neg ks x y=>(match ρ x,ρ y with|.agg l,.agg m=>List.casesOn ks .bad (fun k ks=>Option.casesOn (eqPL (k::ks) l m) .bad (fun c=>.val (.bool (negB neg c))))|_,_=>.bad)|.scat x y=>(match ρ x,ρ y with|.str a,.str b=>.par (decide (a.length+b.length<9223372036854775808)) (.str (a++b))|_,_=>.bad)|.not x=>(match ρ x with|.bool a=>.val (.bool (!a))|_=>.bad)|.neg x=>(match ρ x with|.int k a=>.val (.int k (k.wrap (0-a)))|_=>.bad)|.iconv k x=>(match ρ x with|.int _ a=>.val (.int k (k.wrap a))|_=>.bad)|.rstr x=>(match ρ x with|.int _ a=>.val (.str (y5Z a))|_=>.bad)|.slen x=>x2E (ρ x) fun s=>.val (.int .i64 (slen s))|.sidx x i=>(x2E (ρ x) fun s=>match ρ i with|.int _ ix=>.par (inB ix (slen s)) (.int .u8 (Wr s ix))|_=>.bad)|.aidx n x i=>(match ρ x,ρ i with|.aggI k l,.int _ ix=>.par (cond (inB ix (n:Int)) (inB ix (WV l)) false) (.int k (x1U l ix))|_,_=>.bad)|.ssl x lo hi=>x2E (ρ x) fun s=>sslR s (lo.map ρ) (hi.map ρ)|.b2s x=>(match ρ x with|.lsl i=>(match Kl B i with|some (_,.rowI _ k l)=>cond (WE k .u8) (.ld (some i) (.str (x1R l))) .bad|_=>.bad)|_=>.bad)|.s2b e x=>x2E (ρ x) fun s=>.mk (.rowI e .u8 (x0S s)) (fun i=>.lsl i)|.b2b x=>(match ρ x with|.lsl i=>(match Kl B i with|some (_,.rowI _ _ (_::_))=>.ld (some i) (.lsl i)|_=>.bad)|_=>.bad)|.mx isMax x y=>onI2 (ρ x) (ρ y) fun k a b=>.val (.int k (cond isMax (max a b) (min a b)))|.box e x=>cond (y4D (ρ x)) (.mk (z8X e (ρ x)) (fun i=>.lptr i 0)) .bad|.alloc z=>.mk (.cells (pvL z)) (fun i=>.lptr i 0)|.allocI e k z=>.mk (.rowI e k z) (fun i=>.lptr i 0)|.faddr x off=>(match ρ x with|.lptr i o=>.val (.lptr i (Nat.add o off))|_=>.bad)|.fld x off n agg=>(match ρ x with|.agg l=>Option.casesOn (z6G agg off n l) .bad (fun v=>.val v)|_=>.bad)|.ld n agg x=>ldR B n agg (ρ x)|.st n x v=>stR B n (ρ v) (ρ x)|.bld z ps=>Option.casesOn (bldL (ps.map fun p=>(p.1,ρ p.2)) (pvL z)) .bad (fun l=>.val (.agg l))|.bslI e k len ps=>Option.casesOn (bslL k (ps.map fun p=>(p.1,ρ p.2)) (Wg len)) .bad (fun l=>.mk (.rowI e k l) (fun i=>.lsl i))|.app e s x=>appR B e (ρ s) (ρ x)|.llen x=>v4Z B (ρ x)|.iaddr x i=>z7G B (ρ x) (ρ i)|.aaddr n x i=>(match ρ x,ρ i with|.lptr j 0,.int _ ix=>(match Kl B j with|some (_,.rowI _ _ l)=>.par (cond (inB ix (n:Int)) (inB ix (WV l)) false) (.lelt j ix)|some (_,.cells _)=>.par (inB ix (n:Int)) (.celt j ix n)|_=>.bad)|_,_=>.bad)|.ext x ix=>(match ρ x with|.tup l=>Option.casesOn (WI l ix) .bad (fun v=>.val v)|.nx b p c=>nxR b p c ix|_=>.bad)|.eqnil sl neg x y=>(match sl,ρ x,ρ y with|false,.nilp,.nilp=>.val (.bool (!neg))|false,.lptr _ _,.nilp=>.val (.bool neg)|false,.nilp,.lptr _ _=>.val (.bool neg)|false,.fptr _,.nilp=>.val (.bool neg)|false,.nilp,.fptr _=>.val (.bool neg)|true,.nils,.nils=>.val (.bool (!neg))|_,_,_=>.bad)|.call _ _=>.bad|.prim _ _=>.bad|.callv _ _=>.bad
inductive PrimR (D:Type) where
 |bad
 |ok (ck:Bool) (v:PV D) (B:Bt D) (m:Nat)
def u0G (p:Prim)(args:List (PV D))(B:Bt D)(m:Nat):PrimR D:=match p,args with|.rng,[.str s]=>.ok true (.lptr m 0) (Km B m (some (m,.iter s 0))) (Nat.succ m)|.nxt,[.lptr i 0]=>(match Kl B i with|some (_,.iter s p)=>.ok true (.nx (decide (p<slen s)) p (x5B s p)) (Km B i (some (m,.iter s (y2D s p)))) (Nat.succ m)|_=>.bad)|.mks e k,[.int _ n]=>.ok (decide (0<=n/\n<=1000000)) (.lsl m) (Km B m (some (m,.rowI e k (Wg n.toNat)))) (Nat.succ m)|_,_=>.bad
inductive KK (D:Type):Type 1 where
 |bad
 |tot (v:PV D)
 |par (b:Bool) (v:PV D)
 |opt (X:Type) (o:Option X) (d:X) (out:X->PV D)
 |inl (touch:List Nat) (d:PV D) (run:(R:Type)->(PV D->Bt D->Nat->Option R)->Option R)
abbrev Tbl (D:Type):=FuncId->List (PV D)->Bt D->Nat->KK D
def selL (tbl:Tbl D)(args:List (PV D))(B:Bt D)(m:Nat)(ix:Int)(l:List (PV D)):Nat->Option (List Nat×((R:Type)->(PV D->Bt D->Nat->Option R)->Option R)):=List.rec (fun _=>some ([],fun _ _=>none)) (fun v _ ih j=>Option.casesOn (ih (Nat.succ j)) none fun q=>match v with|.fn f [] []=>(match tbl f args B m with|.inl tc _ run=>some (tc++q.1,fun R K=>cond (decide (ix=(j:Int))) (run R K) (q.2 R K))|.tot v=>some (q.1,fun R K=>cond (decide (ix=(j:Int))) (K v B m) (q.2 R K))|.opt _ o _ out=>some (q.1,fun R K=>cond (decide (ix=(j:Int))) (Option.bind o fun x=>K (out x) B m) (q.2 R K))|_=>none)|_=>some (q.1,fun R K=>cond (decide (ix=(j:Int))) none (q.2 R K))) l
def selC (tbl:Tbl D)(x:PV D)(args:List (PV D))(B:Bt D)(m:Nat):KK D:=match x with|.sel l ix=>Option.casesOn (selL tbl args B m ix l 0) .bad fun q=>.inl q.1 .undef q.2|_=>.bad
section
variable {R:Type}
def noOpt:PV D->PV D|.opt _ _ _=>.undef|v=>v
def dstV (T:Tt D)(C:Ch)(v:PV D):PV D:=match C with|[]=>noOpt v|C=>.opt C (gOf T C) v
def Wp (st:Y D)(o:YO)(v:PV D):Y D:=⟨Wb st.T o.dst (dstV st.T o.C v),st.B,st.m⟩
def imp (st:Y D)(C:Ch)(b:Bool):Bool:=match C with|[]=>b|C=>cond (gOf st.T C) b true
def y7H (C:Ch)(x:Option R):Option R:=match C with|[]=>x|_=>none
def newB (st:Y D)(o:YO)(b:Blk D)(v:Nat->PV D):Y D:=⟨Wb st.T o.dst (noOpt (v st.m)),Km st.B st.m (some (st.m,b)),Nat.succ st.m⟩
def wrB (st:Y D)(o:YO)(i:Nat)(b:Blk D):Y D:=⟨Wb st.T o.dst .undef,Km st.B i (some (st.m,b)),Nat.succ st.m⟩
def apB (st:Y D)(o:YO)(i:Option Nat)(b:Blk D):Y D:=⟨Wb st.T o.dst (.lsl st.m),Km (match i with|some i=>Km st.B i none|none=>st.B) st.m (some (st.m,b)),Nat.succ st.m⟩
def skipG (st:Y D)(o:YO)(K:Y D->Option R):Option R:=match o.C with|[]=>none|C=>cond (gOf st.T C) none (K (Wp st o .undef))
def fin (st:Y D)(o:YO)(K:Y D->Option R):OpR D->Option R|.bad=>skipG st o K|.val v=>K (Wp st o v)|.par b v=>cond (imp st o.C b) (K (Wp st o v)) none|.ld _ v=>K (Wp st o v)|.mk b v=>y7H o.C (K (newB st o b v))|.wr i b=>y7H o.C (K (wrB st o i b))|.ap ck i b=>y7H o.C (cond ck (K (apB st o i b)) none)
def optG (st:Y D)(C:Ch){X:Type}(o:Option X)(d:X):Option X:=match C with|[]=>o|C=>cond (gOf st.T C) o (some d)
def y9U (T:Tt D)(t:Nat)(b:Bool):Tt D:=match WF T t with|.opt C _ _=>pset T t (.opt C true (.bool b))|_=>pset T t (.bool b)
def u4E (C:Ch):Tt D->(Tt D->Option R)->(Tt D->Option R)->Option R:=List.rec (fun T kt _=>kt T) (fun p C ih T kt kf=>ih T (fun T=>cond (x8H (x3T C (WF T p.1))) (cond p.2 (kt (y9U T p.1 true)) (kf (y9U T p.1 true))) (cond p.2 (kf (y9U T p.1 false)) (kt (y9U T p.1 false)))) kf) C
def dst1 (C:Ch)(v:PV D):PV D:=match C with|[]=>noOpt v|C=>.opt C true (noOpt v)
def dst0 (C:Ch)(d:PV D):PV D:=.opt C false d
def finC (st:Y D)(o:YO)(K:Y D->Option R):KK D->Option R|.bad=>skipG st o K|.tot v=>K (Wp st o v)|.par b v=>cond (imp st o.C b) (K (Wp st o v)) none|.opt _ x d out=>Option.bind (optG st o.C x d) fun x=>K (Wp st o (out x))|.inl _ d run=>u4E o.C st.T (fun T=>run R fun v B m=>K ⟨Wb T o.dst (dst1 o.C v),B,m⟩) (fun T=>K ⟨Wb T o.dst (dst0 o.C d),st.B,st.m⟩)
def finP (st:Y D)(o:YO)(K:Y D->Option R):PrimR D->Option R|.bad=>none|.ok ck v B m=>y7H o.C (cond ck (K ⟨Wb st.T o.dst (noOpt v),B,m⟩) none)
def tmpD:Yd->Option Nat|.t n=>some n|_=>none
def y1C (st:Y D)(C:Ch)(c a b:Yd):OpR D:=match opd st.T C c,tmpD c with|.bool t,some n=>selP t (opd st.T ((n,true)::C) a) (opd st.T ((n,false)::C) b)|_,_=>.bad
def execO (tbl:Tbl D)(o:YO)(st:Y D)(K:Y D->Option R):Option R:=cond (chOk st.T o.C) (match o.op with|.call f args=>finC st o K (tbl f (args.map (opd st.T o.C)) st.B st.m)|.prim p args=>finP st o K (u0G p (args.map (opd st.T o.C)) st.B st.m)|.callv x args=>y7H o.C (finC st o K (selC tbl (opd st.T o.C x) (args.map (opd st.T o.C)) st.B st.m))|.pick c a b=>fin st o K (y1C st o.C c a b)|op=>fin st o K (opR st.B (opd st.T o.C) op)) none
def clrT (T:Tt D)(l:List Nat):Tt D:=List.rec T (fun t _ ih=>pset ih t .undef) l
def v6F (tbl:Tbl D)(l:List YO):Y D->(Y D->Option R)->Option R:=List.rec (fun st K=>K st) (fun o _ ih st K=>execO tbl o st fun st=>ih st K) l
abbrev Ws:=List (Nat×Option Nat×Bool)
def inN (x:Nat)(l:List Nat):Bool:=List.rec false (fun y _ ih=>cond (Nat.beq y x) true ih) l
def y0E (b:Option Nat)(l:List Nat):Bool:=match b with|some i=>inN i l|none=>false
def y1X (Dm:Nat)(tc:List Nat)(W:Ws):Bool:=List.rec true (fun x _ ih=>cond (cond (tb Dm x.1) true (!(cond x.2.2 true (y0E x.2.1 tc)))) ih false) W
def kpt (B B':Bt D)(i:Nat):Bool:=match Kl B i,Kl B' i with|some p,some q=>Nat.beq p.1 q.1|_,_=>false
def x6P (B B':Bt D)(tc:List Nat):List Nat:=List.rec [] (fun i _ ih=>cond (kpt B B' i) ih (i::ih)) tc
def x6X (tc:List Nat)(W:Ws):Ws:=List.rec [] (fun x _ ih=>(x.1,x.2.1,cond x.2.2 true (y0E x.2.1 tc))::ih) W
def u3T:PV D->Bool|.bool _|.int _ _|.str _|.nilp|.nils|.nilf|.nili|.lptr _ _|.lelt _ _|.lsl _=>true|_=>false
def v1C (l:List (PV D)):Bool:=List.rec true (fun v _ ih=>cond (u3T v) ih false) l
def vrefl:PV D->Bool|.agg l=>v1C l|.aggI _ _=>true|v=>u3T v
def x4Y (st:Y D)(W:Ws)(mk:Nat)(x:YD)(K:Y D->Ws->Nat->Option R):OpR D->Option R|.bad=>none|.val v=>(match x.kd with|.free=>K (Wp st x.o v) W mk|_=>none)|.par b v=>(match x.kd with|.free=>cond (imp st x.o.C b) (K (Wp st x.o v) W mk) none|_=>none)|.ld src v=>(match x.kd with|.load=>cond (cond (vrefl v) (match src with|some i=>Nat.ble (Nat.succ i) mk|none=>true) false) (K (Wp st x.o v) ((x.i,src,false)::W) mk) none|.free=>none|.eff=>none)|.mk b v=>(match x.kd with|.free=>y7H x.o.C (K (newB st x.o b v) W mk)|_=>none)|.wr i b=>(match x.kd with|.eff=>cond (y1X x.D [i] W) (y7H x.o.C (K (wrB st x.o i b) (x6X [i] W) (Nat.succ st.m))) none|_=>none)|.ap ck i b=>match x.kd with|.eff=>cond (y1X x.D i.toList W) (y7H x.o.C (cond ck (K (apB st x.o i b) (x6X i.toList W) (Nat.succ st.m)) none)) none|_=>none
def u6M (st:Y D)(W:Ws)(x:YD)(K:Y D->Ws->Nat->Option R):KK D->Option R|.bad=>none|.tot v=>cond (y1X x.D [] W) (K (Wp st x.o v) W st.m) none|.par b v=>cond (y1X x.D [] W) (cond (imp st x.o.C b) (K (Wp st x.o v) W st.m) none) none|.opt _ y d out=>cond (y1X x.D [] W) (Option.bind (optG st x.o.C y d) fun y=>K (Wp st x.o (out y)) W st.m) none|.inl tc d run=>u4E x.o.C st.T (fun T=>run R fun v B m=>cond (y1X x.D (x6P st.B B tc) W) (K ⟨Wb T x.o.dst (dst1 x.o.C v),B,m⟩ (x6X (x6P st.B B tc) W) m) none) (fun T=>cond (y1X x.D [] W) (K ⟨Wb T x.o.dst (dst0 x.o.C d),st.B,st.m⟩ W st.m) none)
def drawO (tbl:Tbl D)(x:YD)(st:Y D)(W:Ws)(mk:Nat)(K:Y D->Ws->Nat->Option R):Option R:=cond (chOk st.T x.o.C) (match x.o.op with|.call f args=>u6M st W x K (tbl f (args.map (opd st.T x.o.C)) st.B st.m)|.prim _ _=>none|.callv _ _=>none|.pick c a b=>x4Y st W mk x K (y1C st x.o.C c a b)|op=>x4Y st W mk x K (opR st.B (opd st.T x.o.C) op)) none
def Ku (tbl:Tbl D)(l:List YD):Y D->Ws->Nat->(Y D->Option R)->Option R:=List.rec (fun st _ _ K=>K st) (fun x _ ih st W mk K=>drawO tbl x st W mk fun st W mk=>ih st W mk K) l
def iter {A:Type}(N:Nat)(step:(A->Option R)->A->Option R)(x:A):Option R:=Nat.rec (fun _=>none) (fun _ again x=>step again x) N x
def extP:(ty:LTy)->Bt D->PV D->Option ty.ty|.int k,_,.int k' n=>cond (WE k k') (some n) none|.bool,_,.bool b=>some b|.str,_,.str s=>some s|.rowI _ _,_,.nils=>some []|.rowI e k,B,.lsl i=>(match Kl B i with|some (_,.rowI e' k' l)=>cond (cond (Nat.beq e e') (WE k k') false) (some l) none|_=>none)|_,_,_=>none
def extS (ty:LTy)(st:Y D):KX->Option ty.ty|.tmp t=>extP ty st.B (WF st.T t)|.cell i off=>(match Kl st.B i with|some (_,.cells l)=>(match WI l off with|some v=>extP ty st.B v|none=>none)|_=>none)|.row i=>match ty,Kl st.B i with|.rowI e k,some (_,.rowI e' k' l)=>cond (cond (Nat.beq e e') (WE k k') false) (some l) none|.iter,some (_,.iter s p)=>some (s,p)|_,_=>none
def extL:(h:KG)->Y D->Option (Tup h)|[],_=>some ()|[p],st=>extS p.2 st p.1|p::q::r,st=>match extS p.2 st p.1,extL (q::r) st with|some a,some b=>some (a,b)|_,_=>none
def Wy (st:Y D):(ty:LTy)->ty.ty->PV D×Y D|.int k,n=>(.int k n,st)|.bool,b=>(.bool b,st)|.str,s=>(.str s,st)|.rowI e k,l=>(.lsl st.m,⟨st.T,Km st.B st.m (some (st.m,.rowI e k l)),Nat.succ st.m⟩)|.iter,_=>(.undef,st)
def injS (st:Y D)(ty:LTy)(x:ty.ty):KX->Y D|.tmp t=>(match Wy st ty x with|(v,st')=>⟨pset st'.T t v,st'.B,st'.m⟩)|.cell i off=>(match Wy st ty x with|(v,st')=>match Kl st'.B i with|some (_,.cells l)=>(match setP l off [v]with|some l'=>⟨st'.T,Km st'.B i (some (st'.m,.cells l')),Nat.succ st'.m⟩|none=>st')|_=>st')|.row i=>match ty,x with|.rowI e k,l=>⟨st.T,Km st.B i (some (st.m,.rowI e k l)),Nat.succ st.m⟩|.iter,q=>⟨st.T,Km st.B i (some (st.m,.iter q.1 q.2)),Nat.succ st.m⟩|_,_=>st
def injL:(h:KG)->Tup h->Y D->Y D|[],_,st=>st|[p],x,st=>injS st p.2 x p.1|p::q::r,x,st=>injL (q::r) x.2 (injS st p.2 x.1 p.1)
def x4R (h:KG):List Nat:=List.rec [] (fun p _ ih=>match p.1 with|.cell i _=>i::ih|.row i=>i::ih|_=>ih) h
def y9Q:LTy->PV D->Option Nat|.rowI _ _,.lsl i=>some i|_,_=>none
def z2H (st:Y D):KX->PV D|.tmp t=>WF st.T t|.cell i off=>(match Kl st.B i with|some (_,.cells l)=>(match WI l off with|some v=>v|none=>.undef)|_=>.undef)|.row _=>.undef
def x5M (h:KG)(st:Y D):List Nat:=List.rec [] (fun p _ ih=>match y9Q p.2 (z2H st p.1)with|some i=>i::ih|none=>ih) h
def y3M (l:List Nat):Bool:=List.rec true (fun i l ih=>cond (inN i l) false ih) l
def z4M (B:Bt D)(hb:List Nat)(l:List Nat):Bool:=List.rec true (fun i _ ih=>cond (match Kl B i with|some _=>false|none=>!(inN i hb)) ih false) l
def u9V (B:Bt D)(l:List Nat):Bt D:=List.rec B (fun i _ ih=>Km ih i none) l
def keepC:PV D->PV D|.lptr i o=>.lptr i o|.nilp=>.nilp|.nils=>.nils|.nilf=>.nilf|.nili=>.nili|_=>.undef
def okC:PV D->PV D->Bool|.undef,_=>true|.lptr i o,.lptr j p=>cond (Nat.beq i j) (Nat.beq o p) false|.nilp,.nilp=>true|.nils,.nils=>true|.nilf,.nilf=>true|.nili,.nili=>true|_,_=>false
def okL (l:List (PV D)):List (PV D)->Bool:=List.rec (fun m=>List.casesOn m true (fun _ _=>false)) (fun v _ ih m=>List.casesOn m false (fun w m=>cond (okC v w) (ih m) false)) l
def u5R (h:KG)(i:Nat):List Nat:=List.rec [] (fun p _ ih=>match p.1 with|.cell j off=>cond (Nat.beq i j) (off::ih) ih|_=>ih) h
def baseL (offs:List Nat)(l:List (PV D)):Nat->List (PV D):=List.rec (fun _=>[]) (fun v _ ih j=>(cond (inN j offs) .undef (keepC v))::ih (Nat.succ j)) l
def baseS (h:KG)(m:Nat)(B:Bt D):KX->Bt D|.cell i _=>(match Kl B i with|some (_,.cells l)=>Km B i (some (m,.cells (baseL (u5R h i) l 0)))|_=>B)|.row i=>Km B i none|.tmp _=>B
def z4H (h:KG)(m:Nat)(l:KG)(B:Bt D):Bt D:=List.rec B (fun p _ ih=>baseS h m ih p.1) l
def x4D (h:KG)(asg:List Nat)(st:Y D):Y D:=⟨clrT st.T asg,z4H h st.m h (u9V st.B (x5M h st)),Nat.succ st.m⟩
def y2X (m:Nat)(B B':Bt D)(h:KG):Bool:=List.rec true (fun p _ ih=>cond (match p.1 with|.cell i _=>(match Kl B i,Kl B' i with|some (_,.cells l),some (_,.cells l')=>okL l l'|_,_=>false)|.row i=>Nat.ble (Nat.succ i) m|.tmp _=>true) ih false) h
def keptB (B B':Bt D)(l:List Nat)(m:Nat):Bool:=Nat.rec true (fun i ih=>cond (cond (inN i l) true (match Kl B i,Kl B' i with|some (s,_),some (s',_)=>Nat.beq s s'|none,_=>true|_,none=>false)) ih false) m
def u7F (h:KG)(m:Nat)(st0:Y D)(again:Tup h->Option R)(st':Y D):Option R:=cond (cond (keptB st0.B st'.B (x4R h) m) (cond (y2X m st0.B st'.B h) (cond (y3M (x5M h st')) (z4M st0.B (x4R h) (x5M h st')) false) false) false) (match extL h st' with|some x'=>again x'|none=>none) none
def z5U (h:KG)(m:Nat)(st0:Y D)(k:Ex->Y D->Option R)(again:Tup h->Option R):Ex->Y D->Option R|.normal,st'=>u7F h m st0 again st'|e,st'=>k e st'
def loopK (N:Nat)(sb:Y D->(Ex->Y D->Option R)->Option R)(h:KG)(m:Nat)(st0:Y D)(k:Ex->Y D->Option R)(x:Tup h):Option R:=iter N (fun again x=>sb (injL h x st0) (z5U h m st0 k again)) x
def sem (tbl:Tbl D)(N:Nat)(c:YC):Y D->(Ex->Y D->Option R)->Option R:=YC.rec (motive:=fun _=>Y D->(Ex->Y D->Option R)->Option R) (fun st k=>k .normal st) (fun l clr st k=>v6F tbl l st fun st=>k .normal ⟨clrT st.T clr,st.B,st.m⟩) (fun l clr st k=>Ku tbl l st [] st.m fun st=>k .normal ⟨clrT st.T clr,st.B,st.m⟩) (fun _ _ sa sb st k=>sa st fun e st=>match e with|.normal=>sb st k|e=>k e st) (fun c _ _ sa sb st k=>match opd st.T [] c with|.bool b=>cond b (sa st k) (sb st k)|_=>none) (fun id _ sb st k=>sb st fun e st=>match e with|.exit i=>cond (Nat.beq i id) (k .normal st) (k (.exit i) st)|e=>k e st) (fun h asg _ sb st k=>u7F h st.m (x4D h asg st) (loopK N sb h st.m (x4D h asg st) k) st) (fun id st k=>k (.exit id) st) (fun st k=>k .ret st) c
end
end
section
variable {D R:Type}
def v7S (vs:List (PV D)):Nat->Tt D->Tt D:=List.rec (fun _ T=>T) (fun v _ ih k T=>ih (Nat.succ k) (pset T k v)) vs
inductive RV where
 |t (n:Nat)
 |c (a n:Nat) (agg:Bool)
 deriving Repr,Inhabited
def retV (st:Y D):RV->Option (PV D)|.t n=>some (x3T [] (WF st.T n))|.c a n agg=>match WF st.T a with|.lptr i off=>(match Kl st.B i with|some (_,.cells l)=>z6G agg off n l|_=>none)|_=>none
def retL (st:Y D)(l:List RV):Option (List (PV D)):=List.rec (some []) (fun r _ ih=>Option.casesOn (retV st r) none (fun v=>Option.casesOn ih none (fun vs=>some (v::vs)))) l
def retP (st:Y D):List RV->Option (PV D)|[r]=>retV st r|l=>Option.casesOn (retL st l) none (fun vs=>some (.tup vs))
def retK (st:Y D)(rs:List RV)(K:PV D->Y D->Option R):Option R:=Option.casesOn (retP st rs) none (fun v=>K v st)
def Kw (tbl:Tbl D)(N:Nat)(c:YC)(rs:List RV)(args:List (PV D))(B:Bt D)(m:Nat)(K:PV D->Y D->Option R):Option R:=sem tbl N c ⟨v7S args 0 .leaf,B,m⟩ fun e st=>match e with|.normal=>retK st rs K|.ret=>retK st rs K|_=>none
end
end Go.Yec
namespace Go.Yec
open Go
def y8Y (s:List UInt8):Bool:=s.all fun b=>decide (b.toNat<128)
def hIx (s:List UInt8)(c:Int):Int:=Lib.indexByte s c.toNat.toUInt8
def u5U (s t:List UInt8):Int:=((Lib.countByte s (t.headD 0):Nat):Int)
def WJ (s t:List UInt8):Bool:=decide (0<=Lib.indexByte s (t.headD 0))
def hSuf (s t:List UInt8):Bool:=Lib.hasSuffix s t
def y7K (s:List UInt8)(c:Int):Int:=Lib.lastIndexByte ⟨s.toArray⟩ c
def hAny (s t:List UInt8):Bool:=Lib.containsAny s t
def u8P (s t:List UInt8):List UInt8:=Lib.trimS s t
def hOne (t:List UInt8):Bool:=decide (t.length=1)
def hSz (n:Nat)(s:List UInt8):Bool:=decide (s.length<n)
def x7C (s t:List UInt8):Bool:=hSz 4294967281 s&&hSz 4294967281 t&&y8Y s&&y8Y t
def y2N (s t:List UInt8):Bool:=hSz 9223372036854775808 s&&hSz 4294967281 t&&y8Y t
def punL:List UInt8:=[123,65,66,67,68,69,70,71,72,73,125,74,75,76,77,78,79,80,81,82]
def hPun1 (d:Int)(m:Bool):Int:=cond (decide (d<0\/9<d)) 0 ((punL.getD (d+cond m 10 0).toNat 0).toNat:Int)
def hPun2 (d:Int):Bool:=!(decide (d<0\/9<d))
def hUnp (c:Int):Option Nat:=(List.range 20).find? (fun i=>decide (((punL.getD i 0).toNat:Int)=c))
def hUnp1 (c:Int):Int:=match hUnp c with|some i=>(i:Int)%10|none=>0
def hUnp2 (c:Int):Bool:=match hUnp c with|some i=>decide (10<=i)|none=>false
def hUnp3 (c:Int):Bool:=(hUnp c).isSome
def hAtoi (s:List UInt8):Int:=(Lib.atoi s).getD 0
def v5W (s:List UInt8):Bool:=(Lib.atoi s).isSome&&decide (s.length<=18)
def hRep (s:List UInt8)(n:Int):List UInt8:=Lib.repeatL s n.toNat
def hRepOk (s:List UInt8)(n:Int):Bool:=decide (0<=n)&&(decide (n<=9223372036854775807)&&decide (s.length*n.toNat<=140737488355328))
end Go.Yec
namespace Go.Proofs
open Go.RowKit
open Go.Yec (punL)
def punV:Array Value:=#[.int .u8 123,.int .u8 65,.int .u8 66,.int .u8 67,.int .u8 68,.int .u8 69,.int .u8 70,.int .u8 71,.int .u8 72,.int .u8 73,.int .u8 125,.int .u8 74,.int .u8 75,.int .u8 76,.int .u8 77,.int .u8 78,.int .u8 79,.int .u8 80,.int .u8 81,.int .u8 82]
def z6A (d:Int)(m:Bool):Int×Bool:=if d<0\/9<d then(0,false)else(((punL.getD (d+cond m 10 0).toNat 0).toNat:Int),true)
theorem pun_cell {w:World}{e:TypeId}{fz:Nat×Nat}(h:w.heap[0]? =some (.cells punV e fz))(i:Nat):w.cell? ⟨0,i,none⟩=punV[i]? :=by simp[World.cell?,h]
theorem Tryz.punch (d:Int)(m:Bool)(w:World){e:TypeId}{fz:Nat×Nat}(hg:w.heap[0]? =some (.cells punV e fz)):Calls Tryz.prog 268 #[.int .i64 d,.bool m] w fun x w'=>x=.returned (.tuple #[.int .u8 (z6A d m).1,.bool (z6A d m).2])/\w'=w:=by unfold z6A;have hc:=pun_cell hg;by_cases hd:d<0;{rw[JV (.inl hd)];go_enter Tryz.func268,Tryz.ntmps268;go_wp2;go_ret2;exact⟨rfl,rfl⟩};by_cases uJ:9<d;{rw[JV (.inr uJ)];go_enter Tryz.func268,Tryz.ntmps268;go_wp2;go_ret2;exact⟨rfl,rfl⟩};rw[JZ (by omega)];have sY:d=0\/d=1\/d=2\/d=3\/d=4\/d=5\/d=6\/d=7\/d=8\/d=9:=by{omega};clear hd uJ;have c0:w.cell? ⟨0,0,none⟩=some (.int .u8 123):=hc 0;have c1:w.cell? ⟨0,1,none⟩=some (.int .u8 65):=hc 1;have c2:w.cell? ⟨0,2,none⟩=some (.int .u8 66):=hc 2;have c3:w.cell? ⟨0,3,none⟩=some (.int .u8 67):=hc 3;have c4:w.cell? ⟨0,4,none⟩=some (.int .u8 68):=hc 4;have c5:w.cell? ⟨0,5,none⟩=some (.int .u8 69):=hc 5;have c6:w.cell? ⟨0,6,none⟩=some (.int .u8 70):=hc 6;have c7:w.cell? ⟨0,7,none⟩=some (.int .u8 71):=hc 7;have c8:w.cell? ⟨0,8,none⟩=some (.int .u8 72):=hc 8;have c9:w.cell? ⟨0,9,none⟩=some (.int .u8 73):=hc 9;have c10:w.cell? ⟨0,10,none⟩=some (.int .u8 125):=hc 10;have c11:w.cell? ⟨0,11,none⟩=some (.int .u8 74):=hc 11;have c12:w.cell? ⟨0,12,none⟩=some (.int .u8 75):=hc 12;have c13:w.cell? ⟨0,13,none⟩=some (.int .u8 76):=hc 13;have c14:w.cell? ⟨0,14,none⟩=some (.int .u8 77):=hc 14;have c15:w.cell? ⟨0,15,none⟩=some (.int .u8 78):=hc 15;have c16:w.cell? ⟨0,16,none⟩=some (.int .u8 79):=hc 16;have c17:w.cell? ⟨0,17,none⟩=some (.int .u8 80):=hc 17;have c18:w.cell? ⟨0,18,none⟩=some (.int .u8 81):=hc 18;have c19:w.cell? ⟨0,19,none⟩=some (.int .u8 82):=hc 19;clear hc;rcases sY with e|e|e|e|e|e|e|e|e|e<;>subst e<;>cases m;all_goals (go_enter Tryz.func268,Tryz.ntmps268;go_wp2;go_ret2;exact⟨rfl,rfl⟩)
theorem z2M {P:Program}{t e n:Nat}{d:TypeDesc}(hu:P.underlying t=some (.array n e))(he:P.underlying e=some d)(hd:(match d with|.struct _|.array _ _=>true|_=>false)=false)(hs:∀w,(sizeOf e).run P w=.ok 1 w)(c:Array Value)(x:Int)(v:Value)(w:World)(h0:0<=x)(hk:x.toNat<n)(hc:c[x.toNat]? =some v):(Instr.index t (.agg c) (.int .i64 x)).run P w=.ok v w:=by(have h1:x<(n:Int):=by omega);have ha:(isAgg e).run P w=.ok false w:=by{unfold isAgg;rw[JO,run_underlying he w];cases d<;>simp_all};unfold Instr.index;simp only[JO,asIntOf,JP,JN,run_underlying hu];rw[JV ⟨h0,h1⟩];simp only[JO,hs,JN,part,ha,QC];simp[hc]
theorem x8D {P:Program}{ops:Array Oper}{rest:List Oper}{o:Oper}{a:Act}{w:World}{Q:Exit->Act->World->Prop}(bS:o.guard=none)(t:TypeId)(x i:Operand)(ho:o.op=.index t x i)(c:Array Value)(k:Int)(v:Value) (hx:a.eval x=.agg c) (hi:a.eval i=.int .i64 k) (hr:(Instr.index t (.agg c) (.int .i64 k)).run P w=.ok v w) (h:wpList P ops Q rest (a.put o.dst v) w):wpList P ops Q (o::rest) a w:=wpList_plain bS fun _ hK=>by unfold Oper.wp execOp;simp only[ho,hx,hi,JO,hr,JN,JP];exact hK _ _ h
def unpR (c:Int):Int×Bool×Bool:=match(List.range 20).find? (fun i=>decide (((punL.getD i 0).toNat:Int)=c))with|some i=>((i:Int)%10,decide (10<=i),true)|none=>(0,false,false)
theorem Tryz.unpunch (c:Int)(w:World){e:TypeId}{fz:Nat×Nat}(hg:w.heap[0]? = some (.cells punV e fz)) :
    Calls Tryz.prog 225 #[.int .u8 c] w fun x w'=>x = .returned (.tuple #[.int .i64 (unpR c).1, .bool (unpR c).2.1, .bool (unpR c).2.2])/\w'=w:=by
  have hi:(Tryz.prog.info? 274).map (·.size)=some punV.size:=by kernel_rfl
  have hu:Tryz.prog.underlying 274=some (.array 20 5):=by kernel_rfl
  go_enter Tryz.func225,Tryz.ntmps225
  go_wp2_with (refine wpList_load_row rfl 274 (.global 0) rfl 0 rfl e punV fz _ hg hu rfl hi ?_)
  go_loop [8] (fun v=> ∃ x:Int, 0 <= x/\x <= 20/\v = .int .i64 x/\∀ i:Nat,(i:Int)<x->((punL.getD i 0).toNat:Int)≠c) (fun v=>(20-intOf v).toNat)
  case atStart=>exact ⟨0,by omega,by omega,rfl,fun i h=>by omega⟩
  case round =>
    obtain ⟨x,eU,aX,rfl,hn⟩:=hrel
    by_cases f8:x=20
    . subst f8;go_wp2
      go_ret3
      have:unpR c=(0,false,false):=by
        unfold unpR;rw [Zc.2 fun i hi=>by
          have := hn i (by have:i<20 := by simpa using hi
                           omega)
          simpa using this]
      rw [this];exact ⟨rfl,rfl⟩
    . have hk:x.toNat<20:=by omega
      have hv:∀ i:Nat,i<20->punV[i]? = some (.int .u8 ((punL.getD i 0).toNat:Int)):=fun i hi=>by
        have:i=0\/i=1\/i=2\/i=3\/i=4\/i=5\/i=6\/i=7\/i=8\/i=9\/i=10\/i=11\/i=12\/i=13\/i=14\/i=15\/i=16\/i=17\/i=18\/i=19:=by omega
        rcases this with e | e | e | e | e | e | e | e | e | e | e | e | e | e | e | e | e | e | e | e <;> rw [e] <;> rfl
      have i1:=fun w=>z2M hu Tryz.underlying5 rfl Tryz.sizeOf5 punV x _ w eU hk (hv _ hk);have aR:x<20:=by omega
      generalize kG:((punL.getD x.toNat 0).toNat:Int)=pv at i1
      by_cases hx:pv=c
      . subst hx
        go_wp2_with (refine x8D rfl 274 (.tmp 7) (.tmp 8) rfl punV x _ rfl rfl (i1 _) ?_)
        go_ret3
        have:unpR pv=((x.toNat:Int)%10,decide (10 <= x.toNat),true):=by
          have h1:x.toNat=0\/0<x.toNat:=by omega
          unfold unpR;rw [show (List.range 20).find? (fun i=>decide (((punL.getD i 0).toNat:Int)=pv))=some x.toNat from by
            rw [ZF];exact ⟨by simpa using kG,x.toNat,by simpa using hk,by simp,fun j hj=>by
              have:=hn j (by omega)
              simpa using this⟩]
        rw [this];have e1:((x.toNat:Int)%10)=x%10:=by omega
        have e2:decide (10 <= x.toNat)=decide (10 <= x):=Ju.2 (by omega)
        rw [e1,e2];exact ⟨rfl,rfl⟩
      . go_wp2_with (refine x8D rfl 274 (.tmp 7) (.tmp 8) rfl punV x _ rfl rfl (i1 _) ?_)
        go_round
        case rel=>exact ⟨x+1,by omega,by omega,by go_num,fun i hi=>(show (i:Int)<x\/i=x.toNat by omega).elim (hn i) fun e=>by rw [e,kG];exact hx⟩
        case measure=>simp [intOf];omega
end Go.Proofs
