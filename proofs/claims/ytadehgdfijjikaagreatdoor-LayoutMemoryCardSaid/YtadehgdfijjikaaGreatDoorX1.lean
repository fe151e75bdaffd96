/- AN EXECUTOR OF THE MODEL's CODE ON AN ABSTRACT HEAP -/
import GoSem.Step
import Derived.CallsIn
import Derived.Laws.Sem
set_option linter.all false
noncomputable section
def qj:=@decide_eq_false
def qq:=@cond_true
def qz:=@cond_false
def qk:=@decide_eq_true
def qJ:=@Option.bind_some
def qQ:=@Nat.le_refl
def qZ:=@if_neg
def qK:=@of_decide_eq_true
def qW:=@List.getElem?_eq_getElem
def qE:=@if_pos
def qV:=@congrArg
def qU:=@List.getD_eq_getElem?_getD
def qy:=@Go.Result.andThen_ok
def qY:=@Bool.and_eq_true
def qG:=@decide_eq_true_eq
def qI:=@List.getElem?_eq_some_iff
def qN:=@Array.getElem?_eq_some_iff
def qL:=@Bool.not_true
def qM:=@Classical.byContradiction
def qO:=@Int.toNat_natCast
def qR:=@Go.Sem.run_bind
def qT:=@decide_true
def qA:=@Go.Sem.run_pure
def qB:=@decide_eq_decide
def qC:=@List.length_append
def qD:=@Array.length_toList
def qF:=@of_decide_eq_false
def qH:=@Bool.not_false
def qP:=@Prod.mk.inj
def qx:=@List.mem_cons
def qX:=@List.all_eq_true
def qc:=@Nat.ble_eq_true_of_le
def qd:=@List.mem_range
def qe:=@List.mem_of_getElem?
def qf:=@Nat.pow_le_pow_right
def qg:=@Int.tmod_eq_emod_of_nonneg
def qh:=@List.getElem?_append_left
def qi:=@Nat.le_trans
def ql:=@List.getElem?_append_right
def qm:=@Array.ext'
def qn:=@List.getElem?_map
def qo:=@Int.tdiv_eq_ediv_of_nonneg
def qp:=@List.append_assoc
def qr:=@Bool.false_eq_true
def qt:=@Nat.eq_of_beq_eq_true
def qu:=@Nat.not_lt_zero
def qv:=@Nat.lt_succ_self
def qw:=@List.length_take
def zj:=@List.drop_eq_nil_of_le
def zq:=@Nat.testBit_eq_decide_div_mod_eq
def zz:=@Nat.le_of_lt
def zk:=@Bool.false_and
def zJ:=@List.append_nil
def zQ:=@List.mem_append
def zZ:=@Nat.zero_le
def zK:=@List.drop_eq_getElem_cons
def zW:=@Array.getElem?_setIfInBounds
def zE:=@Bool.and_false
def zV:=@decide_false
def zU:=@List.nil_append
def zy:=@List.length_cons
def zY:=@List.mem_cons_of_mem
def zG:=@Nat.add_zero
def zI:=@Bool.or_false
def zN:=@Bool.not_eq_true'
def zL:=@Bool.or_eq_true
def zM:=@List.take_length
def zO:=@Nat.lt_of_lt_of_le
def zR:=@List.mem_cons_self
def zS:=@Nat.pow_succ
def zT:=@List.mem_append_left
def zA:=@Nat.lt_succ_of_lt
def zB:=@Option.some.inj
def zC:=@List.map_append
def zD:=@List.length_map
def zF:=@Array.getElem?_eq_none
def zH:=@Nat.le_succ
def zP:=@List.mem_append_right
def zx:=@List.length_replicate
def zX:=@Array.getElem?_eq_getElem
def za:=@Nat.beq_refl
def zb:=@if_false
def zc:=@List.count_le_length
def zd:=@Bool.true_and
def ze:=@List.length_drop
def zf:=@Nat.mul_one
def zg:=@Nat.lt_or_ge
def zh:=@List.count_pos_iff
def zi:=@List.getElem?_eq_none
def zm:=@Bool.false_or
def zn:=@Bool.or_eq_false_iff
def zo:=@List.getElem?_range
def zp:=@List.getElem?_cons_succ
def zt:=@List.map_cons
def zu:=@List.getElem?_take
def zv:=@List.eq_nil_of_length_eq_zero
def zw:=@Classical.not_imp
def Jj:=@List.getElem?_toArray
def Jq:=@Nat.zero_add
def Jz:=@UInt8.le_iff_toNat_le
def Jk:=@Go.Calls.mono
def JJ:=@Nat.mul_le_mul_right
def JQ:=@List.mem_of_mem_take
def JZ:=@Array.toList_setIfInBounds
def JK:=@Ne.symm
def JW:=@List.range_succ
def JE:=@Nat.testBit_and
def JV:=@List.mem_singleton
def JU:=@Array.getElem?_replicate
def Jy:=@List.find?_eq_none
def JY:=@List.find?_range_eq_none
def JG:=@Nat.sub_self
def JI:=@bne_iff_ne
def JN:=@Nat.lt_trichotomy
def JL:=@List.take_of_length_le
def JM:=@Bool.and_self
def JO:=@List.map_toArray
def JR:=@List.take_succ_eq_append_getElem
def JS:=@List.not_mem_nil
def JT:=@Nat.le_of_ble_eq_true
def JA:=@Array.getElem?_modify
def JB:=@List.set_append_right
def JC:=@Nat.mod_lt
def JD:=@Nat.eq_of_testBit_eq
def JF:=@Nat.sub_zero
def JH:=@List.getElem?_of_mem
def JP:=@Go.callsIn_wide
def Jx:=@List.find?_eq_some_iff_getElem
def JX:=@List.mem_of_mem_drop
def Ja:=@Bool.or_true
def Jb:=@List.take_append_of_le_length
def Jc:=@List.replicate_zero
def Jd:=@List.drop_drop
def Je:=@List.drop_zero
def Jf:=@Array.ext_getElem?
def Jg:=@List.getElem?_drop
def Jh:=@Array.getD_eq_getD_getElem?
def Ji:=@UInt8.toNat_ofNat'
def Jl:=@Bool.and_true
def Jm:=@List.isSuffixOf_iff_suffix
def Jn:=@Int.fdiv_eq_ediv_of_nonneg
def Jo:=@Bool.eq_false_iff
def Jp:=@List.getElem?_set
def Jr:=@List.getElem?_inj
def Js:=@List.count_append
def Jt:=@Go.run_newObj
def Ju:=@List.map_nil
def Jv:=@Bool.true_or
def Jw:=@Nat.mul_comm
def Qj:=@List.foldl_cons
def Qq:=@Nat.div_le_self
def Qz:=@Bool.eq_iff_iff
def Qk:=@List.length_set
def QJ:=@List.length_nil
def QQ:=@List.find?_some
def QZ:=@Nat.add_mul
def QK:=@List.mapM_cons
def QW:=@List.nodup_nil
def QE:=@Nat.testBit_or
def QV:=@List.elem_cons
def QU:=@Nat.mul_le_mul
namespace Go.Xec
open Go
inductive Tr (α:Type) where
 |leaf
 |node (l:Tr α) (o:α) (r:Tr α)
def Tr.get {α:Type}(d:α)(t:Tr α):Nat->α:=Tr.rec (fun _=>d) (fun _ o _ il ir n=>cond (Nat.beq n 0) o (cond (Nat.beq (Nat.mod n 2) 1) (il (Nat.div n 2)) (ir (Nat.sub (Nat.div n 2) 1)))) t
def Tr.set {α:Type}(d:α):Nat->Tr α->Nat->α->Tr α:=Nat.rec (fun t _ _=>t) (fun _ ih t n o=>Tr.casesOn t (cond (Nat.beq n 0) (.node .leaf o .leaf) (cond (Nat.beq (Nat.mod n 2) 1) (.node (ih .leaf (Nat.div n 2) o) d .leaf) (.node .leaf d (ih .leaf (Nat.sub (Nat.div n 2) 1) o)))) (fun l x r=>cond (Nat.beq n 0) (.node l o r) (cond (Nat.beq (Nat.mod n 2) 1) (.node (ih l (Nat.div n 2) o) x r) (.node l x (ih r (Nat.sub (Nat.div n 2) 1) o)))))
abbrev Tm:=Tr Value
structure ALoop where
 state:LoopState
 pending:Option Code
 fn:FuncId
 T:Tm
 params:List Tmp
 assign:Code
 body:Code
 defers:Nat
 sz:Nat
inductive Qy where
 |cells (l:List Value) (e:TypeId)
 |loop (r:ALoop)
 |iter (s:ByteArray) (pos:Nat)
 |defd
 |dead
abbrev Hp:=Tr (Option Qy)
def Zg (H:Hp)(n:Nat):Option Qy:=Tr.get none H n
def Zh (H:Hp)(n:Nat)(o:Qy):Hp:=Tr.set none (Nat.succ n) H n (some o)
def KP (T:Tm)(n:Nat):Value:=Tr.get undef T n
def tset (T:Tm)(n:Nat)(v:Value):Tm:=Tr.set undef (Nat.succ n) T n v
def unk:Nat:=18446744073709551616
def Ky {α:Type}(P:Program)(s:Sem α):Option α:=Sem.rec (motive:=fun _=>Option α) (fun a=>some a) (fun _ _ _ _=>none) (fun _ _ _ _ _=>none) (fun _ _ _=>none) (fun _ _ _=>none) (fun _ _ _ _=>none) (fun _ _ _=>none) (fun _ _ _=>none) (fun _ _ _ _=>none) (fun _ _ _=>none) (fun _ _ _=>none) (fun _ ih=>ih P) (fun _ _ _=>none) (fun _=>none) s
def x5P:Value->Bool|.bool _|.int .. |.float .. |.complex .. |.string _|.pointer none|.slice none _ _|.map none|.chan none|.nilFunc|.nilIface=>true|_=>false
def Zz (l:List Value):Bool:=List.rec true (fun v _ ih=>cond (x5P v) ih false) l
def plain:Value->Bool|.agg cs=>Zz cs.toList|.tuple cs=>Zz cs.toList|v=>x5P v
def v7L:Value->Bool|.agg _|.tuple _=>false|_=>true
def all1 (l:List Value):Bool:=List.rec true (fun v _ ih=>cond (v7L v) ih false) l
def Kj {α:Type}(l:List α):Nat->Option α:=List.rec (fun _=>none) (fun x _ ih n=>Nat.casesOn n (some x) (fun m=>ih m)) l
def z5N:Nat->List Value->Option (List Value):=Nat.rec (fun _=>some []) (fun _ ih l=>List.casesOn l none (fun x l=>Option.casesOn (ih l) none (fun r=>some (x::r))))
def cut (l:List Value):Nat->Nat->Option (List Value):=List.rec (fun k n=>Nat.casesOn k (z5N n []) (fun _=>none)) (fun x l ih k n=>Nat.casesOn k (z5N n (x::l)) (fun k=>ih k n)) l
def over (vs:List Value):List Value->Option (List Value):=List.rec (fun l=>some l) (fun v _ ih l=>List.casesOn l none (fun _ l=>Option.casesOn (ih l) none (fun r=>some (v::r)))) vs
def x7N (l:List Value):Nat->List Value->Option (List Value):=List.rec (fun k vs=>Nat.casesOn k (over vs []) (fun _=>none)) (fun x l ih k vs=>Nat.casesOn k (over vs (x::l)) (fun k=>Option.casesOn (ih k vs) none (fun r=>some (x::r)))) l
def ev (T:Tm):Operand->Value|.tmp t=>KP T t|.const v=>v|.global g=>.pointer (some ⟨g,0,none⟩)|.func f=>.func (.func f) #[] #[]
def okX:Operand->Bool|.tmp _=>true|.const v=>plain v|.global _=>false|.func _=>true
def x2C:Option TypeDesc->Bool|some (.struct _)|some (.array _ _)=>true|_=>false
def x1K (P:Program)(t:TypeId):Option Nat:=(P.info? t).map (·.size)
def v0Z (P:Program)(t:TypeId):Option (List Value):=(P.info? t).bind fun i=>i.zero.map fun z=>z.cells.toList
inductive OR where
 |ok (v:Value) (H:Hp) (n:Nat)
 |bad
def chk (b:Bool)(x:OR):OR:=cond b x .bad
def onO {α:Type}(o:Option α)(f:α->OR):OR:=match o with|some a=>f a|none=>.bad
def x6R (v:Value)(f:Addr->OR):OR:=match v with|.pointer (some a)=>f a|_=>.bad
def onAgg (v:Value)(f:List Value->OR):OR:=match v with|.agg cs=>f cs.toList|_=>.bad
def v3B (v:Value)(f:List Value->OR):OR:=match v with|.tuple cs=>f cs.toList|_=>.bad
def z6N (v:Value)(f:Bool->OR):OR:=match v with|.bool b=>f b|_=>.bad
def u0M (v:Value)(f:Nat->OR):OR:=match v with|.int _ (.ofNat n)=>f n|_=>.bad
def onSl (v:Value)(f:Addr->Nat->Nat->OR):OR:=match v with|.slice (some a) l c=>f a l c|_=>.bad
def newB (H:Hp)(n:Nat)(l:List Value)(e:TypeId):OR:=.ok (.pointer (some ⟨n,0,none⟩)) (Zh H n (.cells l e)) (Nat.succ n)
def newS (H:Hp)(n:Nat)(l:List Value)(e:TypeId)(len cap:Nat):OR:=.ok (.slice (some ⟨n,0,none⟩) len cap) (Zh H n (.cells l e)) (Nat.succ n)
def cellsOf:Option Qy->Option (List Value×TypeId)|some (.cells l e)=>some (l,e)|_=>none
def x0Z (H:Hp)(b:Nat):Option (List Value×TypeId):=cellsOf (Zg H b)
def x5Z (r:List Value):Value:=.agg r.toArray
def x8L (H:Hp)(n b off:Nat)(vs:List Value)(v:Value):OR:=onO (x0Z H b) fun p=>onO (x7N p.1 off vs) fun l'=>.ok v (Zh H b (.cells l' p.2)) n
structure CO where
 f:Tm->Hp->Nat->OR
def z3Y:CO:=⟨fun _ _ _=>.bad⟩
def ZL (b:Bool)(c:CO):CO:=cond b c z3Y
def coO {α:Type}(o:Option α)(f:α->CO):CO:=match o with|some a=>f a|none=>z3Y
def x6Q:Option TypeDesc->Option (List Field)|some (.struct fs)=>some fs.toList|_=>none
def y9A:Option TypeDesc->Option (Nat×TypeId)|some (.array n e)=>some (n,e)|_=>none
def x2X:Option TypeDesc->Option TypeId|some (.slice e)=>some e|_=>none
def z8R (P:Program)(t:TypeId)(a:Operand):CO:=cond (x2C (P.underlying t)) (coO (x1K P t) fun n=>⟨fun T H k=>x6R (ev T a) fun a=>onO (x0Z H a.block) fun p=>onO (cut p.1 a.off n) fun r=>.ok (x5Z r) H k⟩) (coO (P.underlying t) fun _=>⟨fun T H k=>x6R (ev T a) fun a=>onO (x0Z H a.block) fun p=>onO (Kj p.1 a.off) fun v=>.ok v H k⟩)
def u6T (P:Program)(t:TypeId)(a x:Operand):CO:=coO (x1K P t) fun s=>⟨fun T H n=>x6R (ev T a) fun a=>chk (cond (Nat.beq (ev T x).cells.toList.length s) (all1 (ev T x).cells.toList) false) (x8L H n a.block a.off (ev T x).cells.toList undef)⟩
def x9T (P:Program)(s:TypeId)(x:Operand)(f:Nat):CO:=coO (x6Q (P.underlying s)) fun fs=>coO (Kj fs f) fun f=>coO (x1K P f.type) fun k=>ZL (Nat.ble 1 k) ⟨fun T H n=>x6R (ev T x) fun a=>.ok (.pointer (some ⟨a.block,Nat.add a.off f.offset,none⟩)) H n⟩
def y3E (P:Program)(t:TypeId)(off:Nat)(l:List Value):Option Value:=cond (x2C (P.underlying t)) ((x1K P t).bind fun n=>(cut l off n).map x5Z) ((P.underlying t).bind fun _=>Kj l off)
def u6V (P:Program)(s:TypeId)(x:Operand)(f:Nat):CO:=coO (x6Q (P.underlying s)) fun fs=>coO (Kj fs f) fun f=>⟨fun T H n=>onAgg (ev T x) fun cs=>onO (y3E P f.type f.offset cs) fun v=>.ok v H n⟩
def ixA (s:Nat)(a:Addr)(len i:Nat)(H:Hp)(n:Nat):OR:=chk (Nat.ble (Nat.succ i) len) (.ok (.pointer (some ⟨a.block,Nat.add a.off (Nat.mul i s),none⟩)) H n)
def x3H (P:Program)(t:TypeId)(x ix:Operand):CO:=match y9A (P.underlying t)with|some p=>coO (x1K P p.2) fun s=>⟨fun T H n=>x6R (ev T x) fun a=>u0M (ev T ix) fun i=>ixA s a p.1 i H n⟩|none=>coO (x2X (P.underlying t)) fun e=>coO (x1K P e) fun s=>⟨fun T H n=>onSl (ev T x) fun a len _=>u0M (ev T ix) fun i=>ixA s a len i H n⟩
def x6U (place:Nat->Option (Nat×Nat))(ps:List (Nat×Value)):List Value->Option (List Value):=List.rec (fun cells=>some cells) (fun p _ ih cells=>(place p.1).bind fun q=>cond (Nat.beq p.2.cells.toList.length q.2) ((x7N cells q.1 p.2.cells.toList).bind ih) none) ps
def x7R (P:Program)(fs:List Field):Option (List (Nat×Nat)):=List.rec (some []) (fun f _ ih=>(x1K P f.type).bind fun s=>ih.map fun r=>(f.offset,s)::r) fs
def x5A (T:Tm)(ps:List (Nat×Operand)):List (Nat×Value):=List.rec [] (fun p _ ih=>(p.1,ev T p.2)::ih) ps
def x4Q (P:Program)(t:TypeId):Option (List Value):=(v0Z P t).bind fun z=>cond (Zz z) (some z) none
def z8S (P:Program)(t:TypeId)(ps:List (Nat×Operand)):CO:=coO (x4Q P t) fun z=>match x6Q (P.underlying t)with|some fs=>coO (x7R P fs) fun pl=>⟨fun T H n=>onO (x6U (Kj pl) (x5A T ps) z) fun c=>.ok (x5Z c) H n⟩|none=>coO (y9A (P.underlying t)) fun p=>coO (x1K P p.2) fun s=>⟨fun T H n=>onO (x6U (fun i=>some (Nat.mul i s,s)) (x5A T ps) z) fun c=>.ok (x5Z c) H n⟩
def KL (k:Nat)(z:List Value):List Value:=Nat.rec [] (fun _ ih=>z++ih) k
def x5W (P:Program)(t len:Nat)(ps:List (Nat×Operand)):CO:=coO (x2X (P.underlying t)) fun e=>coO (x1K P e) fun s=>coO (x4Q P e) fun z=>ZL (cond (Nat.beq z.length s) (cond (Nat.ble 1 s) (Nat.ble (Nat.mul len s) 16777215) false) false) ⟨fun T H n=>onO (x6U (fun i=>some (Nat.mul i s,s)) (x5A T ps) (KL len z)) fun c=>newS H n c e len len⟩
def x7J (P:Program)(t:TypeId)(l c:Operand):CO:=coO (x2X (P.underlying t)) fun e=>coO (P.info? e) fun i=>coO (x4Q P e) fun z=>ZL (Nat.beq z.length i.size) ⟨fun T H n=>u0M (ev T l) fun l=>u0M (ev T c) fun c=>chk (cond (Nat.ble l c) (cond (Nat.ble (Nat.mul c i.bytes) 1099511627776) (Nat.ble c 1099511627776) false) false) (newS H n (KL c z) e l c)⟩
def x6M (H:Hp)(size:Nat):Value->Option (List Value)|.slice none _ _=>some []|.slice (some a) n _=>(x0Z H a.block).bind fun p=>cut p.1 a.off (Nat.mul n size)|.string s=>some (s.data.toList.map fun b=>.int .u8 b.toNat)|_=>none
def lenS:Value->Option Nat|.slice none 0 _=>some 0|.slice (some _) n _=>some n|.string s=>some s.size|_=>none
def z9B (H:Hp)(n:Nat)(size:Nat)(e:TypeId)(a:Addr)(sLen sCap k:Nat)(new:List Value)(p:List Value×TypeId):OR:=cond (Nat.beq sCap unk) (chk (cond (Nat.beq a.off 0) (cond (Nat.beq p.1.length (Nat.mul sLen size)) (Nat.beq p.2 e) false) false) (.ok (.slice (some ⟨n,0,none⟩) (Nat.add sLen k) unk) (Zh (Zh H a.block .dead) n (.cells (p.1++new) e)) (Nat.succ n))) (cond (Nat.ble (Nat.add sLen k) sCap) (x8L H n a.block (Nat.add a.off (Nat.mul sLen size)) new (.slice (some ⟨a.block,a.off,none⟩) (Nat.add sLen k) sCap)) (onO (cut p.1 a.off (Nat.mul sLen size)) fun old=>newS H n (old++new) e (Nat.add sLen k) unk))
def appTo (H:Hp)(n:Nat)(size:Nat)(e:TypeId)(k:Nat)(new:List Value)(bound:Nat->Bool):Value->OR|.slice none 0 0=>cond (Nat.beq k 0) (.ok (.slice none 0 0) H n) (chk (bound k) (newS H n new e k unk))|.slice (some a) sLen sCap=>cond (Nat.beq k 0) (chk (cond (Nat.beq sCap unk) true (Nat.ble sLen sCap)) (.ok (.slice (some a) sLen sCap) H n)) (chk (bound (Nat.add sLen k)) (onO (x0Z H a.block) fun p=>z9B H n size e a sLen sCap k new p))|_=>.bad
def u5C:Option TypeDesc->Bool|some (.int _)=>false|some _=>true|none=>false
def y8G (P:Program)(sT xT:TypeId)(s x:Operand):CO:=ZL (u5C (P.underlying xT)) (coO (x2X (P.underlying sT)) fun e=>coO (P.info? e) fun i=>coO (x4Q P e) fun z=>ZL (cond (Nat.ble 1 i.size) (cond (Nat.ble 1 i.bytes) (Nat.beq z.length i.size) false) false) ⟨fun T H n=>onO (lenS (ev T x)) fun k=>onO (x6M H i.size (ev T x)) fun new=>chk (cond (all1 new) (Nat.beq new.length (Nat.mul k i.size)) false) (appTo H n i.size e k new (fun m=>Nat.ble (Nat.mul m i.bytes) 1099511627776) (ev T s))⟩)
def z6V:Value->Option Nat|.int _ (.ofNat n)=>some n|_=>none
def x6V (d:Nat):Option Value->Option Nat|some v=>z6V v|none=>some d
def y8N (len cap:Nat)(lo hi:Option Value)(f:Nat->Nat->OR):OR:=onO (x6V 0 lo) fun l=>onO (x6V len hi) fun h=>chk (cond (Nat.ble l h) (Nat.ble h cap) false) (f l h)
def slKn (sz:Nat)(a:Addr)(len cap:Nat)(lo hi:Option Value)(H:Hp)(n:Nat):OR:=chk (Nat.ble cap 1099511627776)<|y8N len cap lo hi fun l h=>.ok (.slice (some (cond (Nat.beq cap l) a ⟨a.block,Nat.add a.off (Nat.mul l sz),none⟩)) (Nat.sub h l) (Nat.sub cap l)) H n
def slUnk (sz:Nat)(a:Addr)(len:Nat)(lo hi:Option Value)(H:Hp)(n:Nat):OR:=y8N len len lo hi fun l h=>cond (Nat.beq l 0) (.ok (.slice (some a) h unk) H n) (chk (cond (Nat.ble (Nat.succ l) len) (Nat.ble 1 sz) false) (.ok (.slice (some ⟨a.block,Nat.add a.off (Nat.mul l sz),none⟩) (Nat.sub h l) unk) H n))
def x9Y:Option TypeDesc->Bool|some .string=>true|_=>false
def y9S (v:Value)(f:ByteArray->OR):OR:=match v with|.string s=>f s|_=>.bad
def z8Q (P:Program)(t:TypeId)(x:Operand)(lo hi:Option Operand):CO:=cond (x9Y (P.underlying t)) ⟨fun T H n=>y9S (ev T x) fun s=>y8N s.size s.size (lo.map (ev T)) (hi.map (ev T)) fun l h=>.ok (.string (s.extract l h)) H n⟩ (match y9A (P.underlying t)with|some p=>coO (x1K P p.2) fun sz=>⟨fun T H n=>x6R (ev T x) fun a=>slKn sz a p.1 p.1 (lo.map (ev T)) (hi.map (ev T)) H n⟩|none=>coO (x2X (P.underlying t)) fun e=>coO (x1K P e) fun sz=>⟨fun T H n=>onSl (ev T x) fun a len cap=>cond (Nat.beq cap unk) (slUnk sz a len (lo.map (ev T)) (hi.map (ev T)) H n) (slKn sz a len cap (lo.map (ev T)) (hi.map (ev T)) H n)⟩)
inductive EqK where|ptr|slice|func|iface|other
def eqK:Option TypeDesc->EqK|some (.pointer _)=>.ptr|some (.slice _)=>.slice|some (.func _ _ _)=>.func|some (.interface _)=>.iface|_=>.other
def eqOp:EqK->Value->Value->Option Bool|.ptr,.pointer (some _),.pointer none=>some false|.ptr,.pointer none,.pointer (some _)=>some false|.slice,.slice (some _) _ _,.slice none _ _=>some false|.slice,.slice none _ _,.slice (some _) _ _=>some false|.func,.func _ _ _,.nilFunc=>some false|.func,.nilFunc,.func _ _ _=>some false|.iface,.iface _ _,.nilIface=>some false|.iface,.nilIface,.iface _ _=>some false|_,_,_=>none
def x0X (P:Program)(T:Tm)(H:Hp)(n:Nat)(o:Oper):OR:=match Ky P (execOp (ev T) o)with|some (.value v)=>chk (plain v) (.ok v H n)|_=>.bad
def y7R (n:Int)(H:Hp)(k:Nat)(els:OR):OR:=match n with|.ofNat m=>cond (Nat.ble m 9223372036854775807) (.ok (.int .i64 (.ofNat m)) H k) els|.negSucc m=>cond (Nat.ble m 9223372036854775807) (.ok (.int .i64 (.negSucc m)) H k) els
def evEq (P:Program)(t:TypeId)(op:BinOp)(x y:Value)(H:Hp)(n:Nat):OR:=onO (eqOp (eqK (P.underlying t)) x y) fun b=>match op with|.eql=>.ok (.bool b) H n|.neq=>.ok (.bool (!b)) H n|_=>.bad
def x4S (P:Program)(T:Tm)(H:Hp)(n:Nat)(o:Oper)(op:BinOp)(t:TypeId)(x y:Value):OR:=cond (cond (plain x) (plain y) false) (x0X P T H n o) (evEq P t op x y H n)
def x3Y (x y:Value)(f:Int->Int->OR)(els:OR):OR:=match x,y with|.int .i64 a,.int .i64 b=>f a b|_,_=>els
def y3Z (P:Program)(o:Oper)(t:TypeId)(x y:Operand):BinOp->CO|.add=>⟨fun T H n=>x3Y (ev T x) (ev T y) (fun a b=>y7R (a+b) H n (x4S P T H n o .add t (ev T x) (ev T y))) (x4S P T H n o .add t (ev T x) (ev T y))⟩|.sub=>⟨fun T H n=>x3Y (ev T x) (ev T y) (fun a b=>y7R (a-b) H n (x4S P T H n o .sub t (ev T x) (ev T y))) (x4S P T H n o .sub t (ev T x) (ev T y))⟩|.mul=>⟨fun T H n=>x3Y (ev T x) (ev T y) (fun a b=>y7R (a*b) H n (x4S P T H n o .mul t (ev T x) (ev T y))) (x4S P T H n o .mul t (ev T x) (ev T y))⟩|.eql=>⟨fun T H n=>x3Y (ev T x) (ev T y) (fun a b=>.ok (.bool (a==b)) H n) (x4S P T H n o .eql t (ev T x) (ev T y))⟩|.neq=>⟨fun T H n=>x3Y (ev T x) (ev T y) (fun a b=>.ok (.bool (a !=b)) H n) (x4S P T H n o .neq t (ev T x) (ev T y))⟩|.lss=>⟨fun T H n=>x3Y (ev T x) (ev T y) (fun a b=>.ok (.bool (decide (a<b))) H n) (x4S P T H n o .lss t (ev T x) (ev T y))⟩|.leq=>⟨fun T H n=>x3Y (ev T x) (ev T y) (fun a b=>.ok (.bool (decide (a<=b))) H n) (x4S P T H n o .leq t (ev T x) (ev T y))⟩|.gtr=>⟨fun T H n=>x3Y (ev T x) (ev T y) (fun a b=>.ok (.bool (decide (a>b))) H n) (x4S P T H n o .gtr t (ev T x) (ev T y))⟩|.geq=>⟨fun T H n=>x3Y (ev T x) (ev T y) (fun a b=>.ok (.bool (decide (a≥b))) H n) (x4S P T H n o .geq t (ev T x) (ev T y))⟩|op=>⟨fun T H n=>x4S P T H n o op t (ev T x) (ev T y)⟩
def x5G (l:List Value):Option (List UInt8):=List.rec (some []) (fun v _ ih=>match v with|.int .u8 n=>ih.map fun r=>UInt8.ofNat n.toNat::r|_=>none) l
def isU8:Option TypeDesc->Bool|some (.int .u8)=>true|_=>false
def v3C (v:Value)(f:Addr->Nat->OR)(els:OR):OR:=match v with|.slice (some a) l _=>f a l|_=>els
def y1T (P:Program)(s d:TypeId)(x:Operand)(e:TypeId):CO:=ZL (cond (isU8 (P.underlying e)) (match x1K P e with|some k=>Nat.beq k 1|none=>false) false) (cond (x9Y (P.underlying s)) ⟨fun T H n=>y9S (ev T x) fun b=>newS H n (b.data.toList.map fun c=>.int .u8 c.toNat) e b.size unk⟩ (ZL (cond (Nat.beq s d) (match x2X (P.underlying s)with|some e'=>Nat.beq e' e|none=>false) false) ⟨fun T H n=>onSl (ev T x) fun a l c=>onO (x0Z H a.block) fun _=>.ok (.slice (some a) l c) H n⟩))
def x4N (P:Program)(o:Oper)(s d:TypeId)(x:Operand):CO:=cond (x9Y (P.underlying d)) (match x2X (P.underlying s)with|some e=>ZL (isU8 (P.underlying e)) ⟨fun T H n=>v3C (ev T x) (fun a len=>onO (x0Z H a.block) fun p=>onO (cut p.1 a.off len) fun r=>onO (x5G r) fun bs=>.ok (.string ⟨bs.toArray⟩) H n) (chk (plain (ev T x)) (x0X P T H n o))⟩|none=>⟨fun T H n=>chk (plain (ev T x)) (x0X P T H n o)⟩) (match x2X (P.underlying d)with|some e=>y1T P s d x e|none=>⟨fun T H n=>chk (plain (ev T x)) (x0X P T H n o)⟩)
def cLen (P:Program)(o:Oper)(t:TypeId)(x:Operand):CO:=match x2X (P.underlying t)with|some _=>⟨fun T H n=>match ev T x with|.slice _ k _=>.ok (.int .i64 k) H n|_=>.bad⟩|none=>⟨fun T H n=>chk (plain (ev T x)) (x0X P T H n o)⟩
def allX (T:Tm)(l:List Operand):Bool:=List.rec true (fun x _ ih=>cond (plain (ev T x)) ih false) l
def x7Z (P:Program)(o:Oper)(args:List Operand)(ts:List TypeId):Builtin->CO|.len=>(match args,ts with|[x],[t]=>cLen P o t x|_,_=>z3Y)|.append=>(match args,ts with|[s,x],[st,xt]=>y8G P st xt s x|_,_=>z3Y)|.max|.min=>⟨fun T H n=>chk (allX T args) (x0X P T H n o)⟩|_=>z3Y
def u5P:Option Qy->Option (ByteArray×Nat)|some (.iter s p)=>some (s,p)|_=>none
def v3N (s:ByteArray)(p:Nat)(H:Hp)(n b:Nat):OR:=cond (Nat.ble (Nat.succ p) s.size) (.ok (.tuple #[.bool true,.int .i64 p,.int .i32 (Utf8.decode s p).1]) (Zh H b (.iter s (Nat.add p (Utf8.decode s p).2))) n) (.ok (.tuple #[.bool false]) H n)
def u6U (P:Program)(t:TypeId)(x:Operand):CO:=ZL (x9Y (P.underlying t)) ⟨fun T H n=>y9S (ev T x) fun s=>.ok (.pointer (some ⟨n,0,none⟩)) (Zh H n (.iter s 0)) (Nat.succ n)⟩
def cNext (it:Operand):CO:=⟨fun T H n=>x6R (ev T it) fun a=>chk (Nat.beq a.off 0) (onO (u5P (Zg H a.block)) fun p=>v3N p.1 p.2 H n a.block)⟩
def x0N (P:Program)(o:Oper):CO:=match o.op with|.move x=>⟨fun T H n=>.ok (ev T x) H n⟩|.assign x=>⟨fun T H n=>.ok (ev T x) H n⟩|.pick c a b=>⟨fun T H n=>z6N (ev T c) fun t=>.ok (cond t (ev T a) (ev T b)) H n⟩|.alloc e=>coO (x4Q P e) fun z=>⟨fun _ H n=>newB H n z e⟩|.box e x=>⟨fun T H n=>newB H n (ev T x).cells.toList e⟩|.build t ps=>z8S P t ps.toList|.buildSlice t len ps=>x5W P t len ps.toList|.load t a=>z8R P t a|.store t a x=>u6T P t a x|.nilCheck x=>⟨fun T H n=>x6R (ev T x) fun a=>.ok (.pointer (some a)) H n⟩|.makeInterface t x=>(match eqK (P.underlying t)with|.iface=>z3Y|_=>coO (P.underlying t) fun _=>⟨fun T H n=>.ok (.iface t (ev T x)) H n⟩)|.makeFunc (.func f) first captured=>⟨fun T H n=>.ok (.func (.func f) (first.map (ev T)) (captured.map (ev T))) H n⟩|.makeSlice t l c=>x7J P t l c|.slice t x lo hi none=>z8Q P t x lo hi|.fieldAddr s x f=>x9T P s x f|.field s x f=>u6V P s x f|.indexAddr t x ix=>x3H P t x ix|.extract t ix=>⟨fun T H n=>v3B (ev T t) fun vs=>onO (Kj vs ix) fun v=>.ok v H n⟩|.call {callee:=.builtin b,args,argTypes}=>x7Z P o args.toList argTypes.toList b|.convert s d x=>x4N P o s d x|.binOp op t x y _=>y3Z P o t x y op|.unOp _ _ x=>⟨fun T H n=>chk (plain (ev T x)) (x0X P T H n o)⟩|.index _ x i=>⟨fun T H n=>chk (cond (plain (ev T x)) (plain (ev T i)) false) (x0X P T H n o)⟩|.range t x=>u6U P t x|.next it true=>cNext it|_=>z3Y
inductive Ex where|normal|exit (id:Nat)|ret|goto (l:Nat)
inductive Qv where
 |code (rd:Option Nat) (fn:FuncId) (sz:Nat) (c:Code) (T:Tm)
 |call (f:FuncId) (args:List Value)
 |yield (l:Nat) (args:List Value)
inductive R where
 |ok (ex:Ex) (T:Tm) (H:Hp) (n:Nat)
 |bad
def put (T:Tm):Option Tmp->Value->Tm|some d,v=>tset T d v|none,_=>T
def y3K:R->OR|.ok _ T H n=>.ok (KP T 0) H n|.bad=>.bad
def y4J (self:Qv->Hp->Nat->R)(H:Hp)(n:Nat)(args:List Value):Value->OR|.func (.func g) first cap=>y3K (self (.call g (first.toList++args++cap.toList)) H n)|.func (.yield l) _ _=>y3K (self (.yield l args) H n)|_=>.bad
inductive CK where
 |op (f:Tm->Hp->Nat->OR)
 |call (f:Operand) (args:List Operand)
 |bad
structure CI where
 guard:Option (Tmp×Bool)
 dst:Option Tmp
 k:CK
def x5Y (l:List Operand):Bool:=List.rec true (fun x _ ih=>cond (okX x) ih false) l
def x6B (P:Program)(o:Oper):CK:=match o.op with|.call {callee:=.value f,args,..}=>cond (cond (okX f) (x5Y args.toList) false) (.call f args.toList) .bad|op=>cond (x5Y op.operands.toList) (match x0N P o with|⟨f⟩=>.op f) .bad
def y9V (sz:Nat):Option Tmp->Bool|some d=>Nat.ble (Nat.succ d) sz|none=>true
def ZR (P:Program)(sz:Nat)(all:List Oper)(o:Oper):CI:=cond (y9V sz o.dst) (match o.guard with|none=>⟨none,o.dst,x6B P o⟩|some (j,want)=>match(Kj all j).bind (·.dst)with|some t=>⟨some (t,want),o.dst,x6B P o⟩|none=>⟨none,o.dst,.bad⟩) ⟨none,o.dst,.bad⟩
def y4B (self:Qv->Hp->Nat->R)(T:Tm)(H:Hp)(n:Nat):CK->OR|.op f=>f T H n|.call f args=>y4J self H n (args.map (ev T)) (ev T f)|.bad=>.bad
def x3P (self:Qv->Hp->Nat->R)(T:Tm)(H:Hp)(n:Nat)(c:CI):OR:=match c.guard with|none=>y4B self T H n c.k|some (t,want)=>match KP T t with|.bool b=>cond (cond want b (!b)) (y4B self T H n c.k) (.ok undef H n)|_=>.ok undef H n
def nextO (d:Option Tmp)(T:Tm)(ih:Tm->Hp->Nat->R):OR->R|.ok v H n=>ih (put T d v) H n|.bad=>.bad
def y6C (P:Program)(self:Qv->Hp->Nat->R)(sz:Nat)(all:List Oper)(ops:List Oper):Tm->Hp->Nat->R:=List.rec (fun T H n=>.ok .normal T H n) (fun o _ ih T H n=>match ZR P sz all o with|c=>nextO c.dst T ih (x3P self T H n c)) ops
def tb (m i:Nat):Bool:=Nat.beq (Nat.mod (Nat.shiftRight m i) 2) 1
def bit (i:Nat):Nat:=Nat.shiftLeft 1 i
def sub (a b:Nat):Bool:=Nat.beq (Nat.land a b) a
def Kz (l:List Nat):Nat->Nat:=List.rec (fun _=>0) (fun x _ ih n=>Nat.casesOn n x (fun m=>ih m)) l
def x6J (acc:List Nat)(es:List Edge):Nat:=List.rec 0 (fun e _ ih=>cond (Region.binds .any e) (Nat.lor (Nat.lor (bit e.on) (Kz acc e.on)) ih) ih) es
def x9Z (ops:List Oper):List Nat->List Nat:=List.rec (fun acc=>acc) (fun o _ ih acc=>ih (acc++[x6J acc o.after.toList])) ops
def tmpOf:Operand->Option Tmp|.tmp t=>some t|_=>none
def looks (all:List Oper)(o:Oper):List Tmp:=(match o.guard with|some (j,_)=>((Kj all j).bind (·.dst)).toList|none=>[])++o.op.operands.toList.filterMap tmpOf
inductive Kd where|free|load|eff
def kdOf (P:Program):Op->Kd|.load _ _=>.load|.store _ _ _=>.eff|.call {callee:=.value _,..}=>.eff|.call {callee:=.invoke _ _,..}=>.eff|.call {callee:=.builtin .append,..}=>.eff|.call {callee:=.builtin .copy,..}=>.eff|.convert s _ _=>(match x2X (P.underlying s)with|some _=>.load|none=>.free)|_=>.free
def isEff (P:Program)(o:Op):Bool:=match kdOf P o with|.eff=>true|_=>false
def isLoad (P:Program)(o:Op):Bool:=match kdOf P o with|.load=>true|_=>false
def v4S (p:Op->Bool)(ops:List Oper):Nat->Nat:=List.rec (fun _=>0) (fun o _ ih i=>cond (p o.op) (Nat.lor (bit i) (ih (Nat.succ i))) (ih (Nat.succ i))) ops
def u5L (P:Program)(D:List Nat)(ops:List Oper):Nat->Nat:=List.rec (fun _=>0) (fun o _ ih i=>cond (isLoad P o.op) (Nat.lor (Nat.lor (bit i) (Kz D i)) (ih (Nat.succ i))) (ih (Nat.succ i))) ops
def pickM (p:Nat->Bool)(done m:Nat):List Nat:=(List.range m).filter fun i=>cond (tb done i) false (p i)
def maskL (l:List Nat):Nat:=List.rec 0 (fun i _ ih=>Nat.lor (bit i) ih) l
def orderL (D:List Nat)(E L m:Nat)(effs:List Nat):Nat->Nat->List Nat:=List.rec (fun done _=>pickM (fun _=>true) done m) (fun e _ ih done prev=>match pickM (fun i=>cond (Nat.beq i e) false (cond (tb (Kz D e) i) true (cond (tb L i) (sub (Nat.land (Kz D i) E) prev) false))) done m with|now=>now++e::ih (Nat.lor (Nat.lor done (maskL now)) (bit e)) (Nat.lor prev (bit e))) effs
structure PI where
 i:Nat
 D:Nat
 kd:Kd
 c:CI
def y2H (D:List Nat)(m:Nat)(ord:List Nat):Nat->Bool:=List.rec (fun done=>Nat.beq done (Nat.sub (bit m) 1)) (fun i _ ih done=>cond (cond (Nat.ble (Nat.succ i) m) (cond (tb done i) false (sub (Kz D i) done)) false) (ih (Nat.lor done (bit i))) false) ord
def dstNe:Option Tmp->Option Tmp->Bool|some a,some b=>!(Nat.beq a b)|_,_=>true
def inL (t:Nat)(l:List Nat):Bool:=List.rec false (fun x _ ih=>cond (Nat.beq x t) true ih) l
def dstIn (d:Option Tmp)(l:List Tmp):Option Tmp:=match d with|some t=>cond (inL t l) (some t) none|none=>none
def u4Y (D:List Nat)(i j:Nat)(di dj:Option Tmp)(li:List Tmp):Bool:=cond (Nat.beq i j) true (cond (dstNe di dj) (match dj with|some t=>cond (inL t li) (cond (tb (Kz D i) j) true (tb (Kz D j) i)) true|none=>true) false)
def u7U (D:List Nat)(i:Nat)(di:Option Tmp)(li:List Tmp)(ops:List Oper):Nat->Bool:=List.rec (fun _=>true) (fun o _ ih j=>cond (u4Y D i j di o.dst li) (ih (Nat.succ j)) false) ops
def y2G (D:List Nat)(all:List Oper)(ops:List Oper):Nat->Bool:=List.rec (fun _=>true) (fun o _ ih i=>cond (u7U D i o.dst (looks all o) all 0) (ih (Nat.succ i)) false) ops
def y7C (P:Program)(sz:Nat)(all:List Oper)(D:List Nat)(ord:List Nat):List PI:=List.rec [] (fun i _ ih=>match Kj all i with|some o=>⟨i,Kz D i,kdOf P o.op,ZR P sz all o⟩::ih|none=>ih) ord
def u4W (P:Program)(sz:Nat)(all:List Oper)(D ord:List Nat):Option (List PI):=cond (cond (y2H D all.length ord 0) (y2G D all all 0) false) (some (y7C P sz all D ord)) none
def y1B (P:Program)(sz:Nat)(all:List Oper):Option (List PI):=match x9Z all []with|D=>match v4S (isEff P) all 0 with|E=>u4W P sz all D (orderL D E (u5L P D all 0) all.length ((List.range all.length).filter (tb E)) 0 0)
def veq0:Value->Value->Bool|.bool a,.bool b=>cond a b (!b)|.int k a,.int l b=>cond (decide (k=l)) (decide (a=b)) false|.string a,.string b=>decide (a.data.toList=b.data.toList)|.pointer none,.pointer none=>true|.pointer (some ⟨a,i,none⟩),.pointer (some ⟨b,j,none⟩)=>cond (Nat.beq a b) (Nat.beq i j) false|.slice none a i,.slice none b j=>cond (Nat.beq a b) (Nat.beq i j) false|.slice (some ⟨a,i,none⟩) l c,.slice (some ⟨b,j,none⟩) m d=>cond (cond (Nat.beq a b) (Nat.beq i j) false) (cond (Nat.beq l m) (Nat.beq c d) false) false|.nilFunc,.nilFunc=>true|.nilIface,.nilIface=>true|_,_=>false
def veqL (l:List Value):List Value->Bool:=List.rec (fun m=>List.casesOn m true (fun _ _=>false)) (fun x _ ih m=>List.casesOn m false (fun y m=>cond (veq0 x y) (ih m) false)) l
def veq:Value->Value->Bool|.agg a,.agg b=>veqL a.toList b.toList|.func (.func f) a b,.func (.func g) c d=>cond (Nat.beq f g) (cond (veqL a.toList c.toList) (veqL b.toList d.toList) false) false|.func (.yield f) a b,.func (.yield g) c d=>cond (Nat.beq f g) (cond (veqL a.toList c.toList) (veqL b.toList d.toList) false) false|.tuple a,.tuple b=>veqL a.toList b.toList|a,b=>veq0 a b
structure Wt where
 i:Nat
 c:CI
 T:Tm
 v:Value
def wtOk (self:Qv->Hp->Nat->R)(D:Nat)(H:Hp)(n:Nat)(x:Wt):Bool:=cond (tb D x.i) true (match x3P self x.T H n x.c with|.ok v _ _=>veq x.v v|.bad=>false)
def y9M (self:Qv->Hp->Nat->R)(D:Nat)(H:Hp)(n:Nat)(W:List Wt):Bool:=List.rec true (fun x _ ih=>cond (wtOk self D H n x) ih false) W
def joinH (H H':Hp)(n n':Nat):Option Hp:=cond (Nat.beq n' n) (some H) (cond (Nat.beq n' (Nat.succ n)) ((Zg H' n).map fun o=>Zh H n o) none)
structure DS where
 T:Tm
 H:Hp
 n:Nat
 K:Hp
 E:Nat
 A:Nat
 W:List Wt
def y1M (x:PI)(s:DS):OR->Option DS|.ok v H' n'=>(joinH s.H H' s.n n').map fun H''=> {s with T:=put s.T x.c.dst v,H:=H'',n:=n',A:=cond (Nat.beq n' s.n) s.A (Nat.lor s.A (bit x.i))}|.bad=>none
def y5C (x:PI)(s:DS):OR->Option DS|.ok v _ _=>cond (sub s.E x.D) (some {s with T:=put s.T x.c.dst v,W:=⟨x.i,x.c,s.T,v⟩::s.W}) none|.bad=>none
def z3X (self:Qv->Hp->Nat->R)(x:PI)(s:DS):OR->Option DS|.ok v H' n'=>cond (cond (sub s.E x.D) (cond (sub s.A x.D) (y9M self x.D H' n' s.W) false) false) (some {s with T:=put s.T x.c.dst v,H:=H',n:=n',K:=H',E:=Nat.lor s.E (bit x.i)}) none|.bad=>none
def x2U (self:Qv->Hp->Nat->R)(x:PI)(s:DS):Option DS:=match x.kd with|.free=>y1M x s (x3P self s.T .leaf s.n x.c)|.load=>y5C x s (x3P self s.T s.K s.n x.c)|.eff=>z3X self x s (x3P self s.T s.H s.n x.c)
def ZA (self:Qv->Hp->Nat->R)(l:List PI):DS->R:=List.rec (fun s=>.ok .normal s.T s.H s.n) (fun x _ ih s=>match x2U self x s with|some s=>ih s|none=>.bad) l
def u0A (self:Qv->Hp->Nat->R)(T:Tm)(H:Hp)(n:Nat):Option (List PI)->R|some l=>ZA self l ⟨T,H,n,H,0,0,[]⟩|none=>.bad
def z5W (P:Program)(H:Hp)(t:TypeId)(a:Addr):Option Value:=(x0Z H a.block).bind fun p=>cond (x2C (P.underlying t)) ((x1K P t).bind fun n=>(cut p.1 a.off n).map x5Z) ((P.underlying t).bind fun _=>Kj p.1 a.off)
def v0Q:Value->Option Addr|.pointer (some a)=>some a|_=>none
def resL (P:Program)(T:Tm)(H:Hp)(l:List ResultVar):Option (List Value):=List.rec (some []) (fun r _ ih=>match r with|.tmp t=>ih.map fun vs=>KP T t::vs|.cell a t=>(v0Q (KP T a)).bind fun a=>(z5W P H t a).bind fun v=>ih.map fun vs=>v::vs) l
def one (v:Value):Tm:=.node .leaf v .leaf
def x5K (sz:Nat)(ts:List Tmp):List Value->Tm->Option Tm:=List.rec (fun vs T=>List.casesOn vs (some T) (fun _ _=>none)) (fun t _ ih vs T=>List.casesOn vs none (fun v vs=>cond (Nat.ble (Nat.succ t) sz) (ih vs (tset T t v)) none)) ts
def y2Z (vs:List Value):Nat->Tm->Tm:=List.rec (fun _ T=>T) (fun v _ ih k T=>ih (Nat.succ k) (tset T k v)) vs
def seqK (self:Qv->Hp->Nat->R)(rd:Option Nat)(fn:FuncId)(sz:Nat)(b:Code):R->R|.ok .normal T H n=>self (.code rd fn sz b T) H n|r=>r
def u6X (id:Nat):R->R|.ok (.exit i) T H n=>cond (Nat.beq i id) (.ok .normal T H n) (.ok (.exit i) T H n)|r=>r
def v6Z (self:Qv->Hp->Nat->R)(rd:Option Nat)(fn:FuncId)(sz:Nat)(a b:Code)(T:Tm)(H:Hp)(n:Nat):Value->R|.bool t=>self (.code rd fn sz (cond t a b) T) H n|_=>.bad
def retK (H:Hp)(n:Nat):Option (List Value)->R|some [v]=>.ok .ret (one v) H n|some vs=>.ok .ret (one (.tuple vs.toArray)) H n|none=>.bad
def callK (P:Program)(fn:Func):R->R|.ok .normal T H n=>retK H n (resL P T H fn.results.toList)|.ok .ret T H n=>retK H n (resL P T H fn.results.toList)|_=>.bad
def v4X:Option Qy->Option ALoop|some (.loop r)=>some r|_=>none
def x8F (H:Hp)(l:Nat):Option ALoop:=v4X (Zg H l)
def onOR {α:Type}(o:Option α)(f:α->R):R:=match o with|some a=>f a|none=>.bad
def rangeD (H:Hp)(n:Nat):Option Nat->Option (Nat×Hp×Nat)|some l=>(x8F H l).map fun r=>(r.defers,H,n)|none=>some (n,Zh H n .defd,Nat.succ n)
def z5Z (self:Qv->Hp->Nat->R)(H:Hp)(n lp:Nat):Value->R|.func (.func g) first cap=>self (.call g (first.toList++(.func (.yield lp) #[] #[])::cap.toList)) H n|_=>.bad
def z5Y (self:Qv->Hp->Nat->R)(rd:Option Nat)(fn:FuncId)(sz:Nat)(T:Tm)(H:Hp)(n:Nat):Option Code->R|none=>.ok .normal T H n|some c=>self (.code rd fn sz c T) H n
def notBusy:LoopState->Bool|.busy=>false|_=>true
def u1A:LoopState->Bool|.ready=>true|_=>false
def u4S (self:Qv->Hp->Nat->R)(rd:Option Nat)(fn:FuncId)(sz:Nat)(T:Tm)(lp:Nat):R->R|.ok _ _ H n=>onOR (x8F H lp) fun r=>cond (notBusy r.state) (z5Y self rd fn sz T (Zh H lp (.loop {r with state:=.exhausted})) n r.pending) .bad|.bad=>.bad
def y6E (self:Qv->Hp->Nat->R)(rd:Option Nat)(fn:FuncId)(sz:Nat)(T:Tm)(H:Hp)(n:Nat)(f:Operand)(ps:List Tmp)(assign body:Code):R:=cond (okX f) (onOR (rangeD H n rd) fun q=>u4S self rd fn sz T q.2.2 (z5Z self (Zh q.2.1 q.2.2 (.loop ⟨.ready,none,fn,T,ps,assign,body,q.1,sz⟩)) (Nat.succ q.2.2) q.2.2 (ev T f))) .bad
def x7Q (l:Nat)(H:Hp)(n:Nat)(j:Option Code):R:=onOR (x8F H l) fun r=>.ok .ret (one (.bool j.isNone)) (Zh H l (.loop {r with state:=cond j.isNone .ready .done,pending:=j})) n
def y4K (l:Nat):R->R|.ok .normal _ H n=>x7Q l H n none|.ok .ret _ H n=>x7Q l H n (some .ret)|.ok (.exit id) _ H n=>x7Q l H n (some (.exit id))|.ok (.goto g) _ H n=>x7Q l H n (some (.goto g))|.bad=>.bad
def v2M (self:Qv->Hp->Nat->R)(l:Nat)(fn:FuncId)(sz:Nat)(body:Code):R->R|.ok .normal T H n=>onOR (x8F H l) fun r=>cond (u1A r.state) (y4K l (self (.code (some l) fn sz body T) (Zh H l (.loop {r with state:=.busy})) n)) .bad|_=>.bad
def y5K (self:Qv->Hp->Nat->R)(l:Nat)(args:List Value)(H:Hp)(n:Nat):R:=onOR (x8F H l) fun r=>onOR (x5K r.sz r.params args r.T) fun T=>v2M self l r.fn r.sz r.body (self (.code (some l) r.fn r.sz r.assign T) H n)
def y5D (P:Program)(self:Qv->Hp->Nat->R)(rd:Option Nat)(fn:FuncId)(sz:Nat)(T:Tm)(H:Hp)(n:Nat)(c:Code):R:=match c with|.skip=>.ok .normal T H n|.label _=>.ok .normal T H n|.seq a b=>seqK self rd fn sz b (self (.code rd fn sz a T) H n)|.cond c a b=>cond (okX c) (v6Z self rd fn sz a b T H n (ev T c)) .bad|.block id b=>u6X id (self (.code rd fn sz b T) H n)|.loop b=>seqK self rd fn sz (.loop b) (self (.code rd fn sz b T) H n)|.exit id=>.ok (.exit id) T H n|.ret=>.ok .ret T H n|.region _ ops false=>y6C P self sz ops.toList ops.toList T H n|.region _ ops true=>u0A self T H n (y1B P sz ops.toList)|.rangeFunc f ps assign body=>y6E self rd fn sz T H n f ps.toList assign body|_=>.bad
abbrev QX:=FuncId->List Value->Option Value
def hookK (H:Hp)(n:Nat)(k:R):Option Value->R|some v=>.ok .ret (one v) H n|none=>k
def z4A (P:Program)(hk:QX)(self:Qv->Hp->Nat->R)(f:FuncId)(args:List Value)(H:Hp)(n:Nat):R:=hookK H n (onOR (P.funcs[f]?) fun fn=>onOR fn.body fun c=>cond (Nat.ble args.length fn.ntmps) (callK P fn (self (.code none f fn.ntmps c (y2Z args 0 .leaf)) H n)) .bad) (hk f args)
def step (P:Program)(hk:QX)(self:Qv->Hp->Nat->R)(t:Qv)(H:Hp)(n:Nat):R:=match t with|.code rd fn sz c T=>y5D P self rd fn sz T H n c|.call f args=>z4A P hk self f args H n|.yield l args=>y5K self l args H n
def run (P:Program)(hk:QX)(k:Nat):Qv->Hp->Nat->R:=Nat.rec (fun _ _ _=>.bad) (fun _ ih=>step P hk ih) k
def v3L:QX:=fun _ _=>none
section map
variable {α:Type} (d:α)
theorem Tr.get_leaf (n:Nat):Tr.get d (.leaf:Tr α) n=d:=rfl
theorem Tr.get_node (l r:Tr α)(o:α)(n:Nat):Tr.get d (.node l o r) n=cond (Nat.beq n 0) o (cond (Nat.beq (n%2) 1) (Tr.get d l (n/2)) (Tr.get d r (n/2-1))):=rfl
theorem Tr.set_leaf (f n:Nat)(o:α):Tr.set d (f+1) .leaf n o=cond (Nat.beq n 0) (.node .leaf o .leaf) (cond (Nat.beq (n%2) 1) (.node (Tr.set d f .leaf (n/2) o) d .leaf) (.node .leaf d (Tr.set d f .leaf (n/2-1) o))):=rfl
theorem Tr.set_node (f n:Nat)(o:α)(l r:Tr α)(x:α):Tr.set d (f+1) (.node l x r) n o=cond (Nat.beq n 0) (.node l o r) (cond (Nat.beq (n%2) 1) (.node (Tr.set d f l (n/2) o) x r) (.node l x (Tr.set d f r (n/2-1) o))):=rfl
theorem x0J {a b:Nat}(h:a≠b):Nat.beq a b=false:=by cases hb:Nat.beq a b;{rfl};exact absurd (qt hb) h
theorem x0T {a b:Nat}(h:a=b):Nat.beq a b=true:=by subst h;exact za a
theorem Tr.get_set (o:α):∀(f:Nat) (t:Tr α) (n m:Nat),n<f->Tr.get d (Tr.set d f t n o) m=if m=n then o else Tr.get d t m:=by intro f;induction f with|zero=>{intro t n m h;omega}|succ f ih=>intro t n m h;cases t with|leaf=>{rw[Tr.set_leaf];by_cases hn:n=0;{subst hn;simp only[x0T rfl,qq,Tr.get_node,Tr.get_leaf];by_cases hm:m=0;{simp[hm]};simp[x0J hm,hm]};rw[x0J hn];by_cases h1:n%2=1;{rw[x0T h1];simp only[qz,qq,Tr.get_node,Tr.get_leaf];by_cases hm:m=0;{subst hm;simp;intro h0;omega};rw[x0J hm];by_cases ba:m%2=1;{rw[x0T ba];simp only[qz,qq];rw[ih _ _ _ (by omega)];by_cases e:m=n;{subst e;simp};rw[qZ e,qZ (by omega),Tr.get_leaf]};rw[x0J ba];simp only[qz];rw[qZ (by omega)]};rw[x0J h1];simp only[qz,Tr.get_node,Tr.get_leaf];by_cases hm:m=0;{subst hm;simp;intro h0;omega};rw[x0J hm];by_cases ba:m%2=1;{rw[x0T ba];simp only[qz,qq];rw[qZ (by omega)]};rw[x0J ba];simp only[qz];rw[ih _ _ _ (by omega)];by_cases e:m=n;{subst e;simp};rw[qZ e,qZ (by omega),Tr.get_leaf]}|node l x r=>rw[Tr.set_node];by_cases hn:n=0;{subst hn;simp only[x0T rfl,qq,Tr.get_node];by_cases hm:m=0;{simp[hm]};simp[x0J hm,hm]};rw[x0J hn];by_cases h1:n%2=1;{rw[x0T h1];simp only[qz,qq,Tr.get_node];by_cases hm:m=0;{subst hm;simp;intro h0;omega};rw[x0J hm];by_cases ba:m%2=1;{rw[x0T ba];simp only[qz,qq];rw[ih _ _ _ (by omega)];by_cases e:m=n;{subst e;simp};rw[qZ e,qZ (by omega)]};rw[x0J ba];simp only[qz];rw[qZ (by omega)]};rw[x0J h1];simp only[qz,Tr.get_node];by_cases hm:m=0;{subst hm;simp;intro h0;omega};rw[x0J hm];by_cases ba:m%2=1;{rw[x0T ba];simp only[qz,qq];rw[qZ (by omega)]};rw[x0J ba];simp only[qz];rw[ih _ _ _ (by omega)];by_cases e:m=n;{subst e;simp};rw[qZ e,qZ (by omega)]
end map
theorem x0E (H:Hp)(n m:Nat)(o:Qy):Zg (Zh H n o) m=if m=n then some o else Zg H m:=Tr.get_set none (some o) (n+1) H n m (qv n)
theorem x8N (T:Tm)(n m:Nat)(v:Value):KP (tset T n v) m=if m=n then v else KP T m:=Tr.get_set undef v (n+1) T n m (qv n)
theorem y1J (n:Nat):Zg .leaf n=none:=rfl
theorem v1N (n:Nat):KP .leaf n=undef:=rfl
inductive QY (R:Value->Value->Prop):List Value->List Value->Prop
 |nil:QY R [] []
 |cons {a b:Value} {l m:List Value} (h:R a b) (t:QY R l m):QY R (a::l) (b::m)
abbrev Bm:=Nat->Option (Nat×Nat)
inductive VR (β:Bm):Value->Value->Prop
 |bool (b:Bool):VR β (.bool b) (.bool b)
 |int (k:IntKind) (n:Int):VR β (.int k n) (.int k n)
 |float (k:FloatKind) (b:Nat):VR β (.float k b) (.float k b)
 |complex (k:FloatKind) (a b:Nat):VR β (.complex k a b) (.complex k a b)
 |string (s:ByteArray):VR β (.string s) (.string s)
 |nilPtr:VR β (.pointer none) (.pointer none)
 |ptr (b o:Nat) (q:Nat×Nat) (h:β b=some q):VR β (.pointer (some ⟨b,o,none⟩)) (.pointer (some ⟨q.1,o,none⟩))
 |nilSl (l c:Nat):VR β (.slice none l c) (.slice none l c)
 |sl (b o:Nat) (q:Nat×Nat) (l k k':Nat) (h:β b=some q) (hk:(k=k'/\k≠unk)\/(k=unk/\l<=k'/\(o=0->q.2=k'))):VR β (.slice (some ⟨b,o,none⟩) l k) (.slice (some ⟨q.1,o,none⟩) l k')
 |nilMap:VR β (.map none) (.map none)
 |nilChan:VR β (.chan none) (.chan none)
 |nilFunc:VR β .nilFunc .nilFunc
 |nilIface:VR β .nilIface .nilIface
 |func (f:FuncId) (a b c d:Array Value) (h:QY (VR β) a.toList c.toList) (h':QY (VR β) b.toList d.toList):VR β (.func (.func f) a b) (.func (.func f) c d)
 |yield (l:Nat) (q:Nat×Nat) (h:β l=some q):VR β (.func (.yield l) #[] #[]) (.func (.yield q.1) #[] #[])
 |iface (t:TypeId) (v w:Value) (h:VR β v w):VR β (.iface t v) (.iface t w)
 |agg (a b:Array Value) (h:QY (VR β) a.toList b.toList):VR β (.agg a) (.agg b)
 |tuple (a b:Array Value) (h:QY (VR β) a.toList b.toList):VR β (.tuple a) (.tuple b)
theorem VR.mono {β γ:Bm}{v w:Value}(h:VR β v w)(hb:∀i c,β i=some c->γ i=some c):VR γ v w:=by refine VR.rec (motive_1:=fun v w _=>VR γ v w) (motive_2:=fun l m _=>QY (VR γ) l m) ?_ ?_ ?_ ?_ ?_ ?_ ?_ ?_ ?_ ?_ ?_ ?_ ?_ ?_ ?_ ?_ ?_ ?_ ?_ ?_ h;(case refine_1=>exact fun b=>.bool b);(case refine_2=>exact fun k n=>.int k n);(case refine_3=>exact fun k b=>.float k b);(case refine_4=>exact fun k a b=>.complex k a b);(case refine_5=>exact fun s=>.string s);(case refine_6=>exact .nilPtr);(case refine_7=>exact fun b o q h=>.ptr b o q (hb _ _ h));(case refine_8=>exact fun l c=>.nilSl l c);(case refine_9=>exact fun b o q l k k' h hk=>.sl b o q l k k' (hb _ _ h) hk);(case refine_10=>exact .nilMap);(case refine_11=>exact .nilChan);(case refine_12=>exact .nilFunc);(case refine_13=>exact .nilIface);(case refine_14=>exact fun f a b c d _ _ h1 h2=>.func f a b c d h1 h2);(case refine_15=>exact fun l q h=>.yield l q (hb _ _ h));(case refine_16=>exact fun t v w _ h=>.iface t v w h);(case refine_17=>exact fun a b _ h=>.agg a b h);(case refine_18=>exact fun a b _ h=>.tuple a b h);(case refine_19=>exact .nil);case refine_20=>exact fun _ _ h1 h2=>.cons h1 h2
abbrev VL (β:Bm):=QY (VR β)
theorem QY.mono {R S:Value->Value->Prop}(h:∀a b,R a b->S a b):∀{l m:List Value},QY R l m->QY S l m|_,_,.nil=>.nil|_,_,.cons a b=>.cons (h _ _ a) (b.mono h)
theorem VL.mono {β γ:Bm}{l m:List Value}(h:VL β l m)(hb:∀i c,β i=some c->γ i=some c):VL γ l m:=QY.mono (fun _ _ x=>x.mono hb) h
theorem QY.length {R:Value->Value->Prop}:∀{l m:List Value},QY R l m->l.length=m.length|_,_,.nil=>rfl|_,_,.cons _ b=>by simp[b.length]
theorem QY.append {R:Value->Value->Prop}:∀{l m l' m':List Value},QY R l m->QY R l' m'->QY R (l++l') (m++m')|_,_,_,_,.nil,h=>h|_,_,_,_,.cons a b,h=>.cons a (b.append h)
theorem QY.get {R:Value->Value->Prop}:∀{l m:List Value},QY R l m->∀(i:Nat) (v:Value),l[i]? =some v->∃w,m[i]? =some w/\R v w|_,_,.nil,i,v,h=>by simp at h|_,_,.cons a b,0,v,h=>by simp at h;subst h;exact⟨_,rfl,a⟩|_,_,.cons a b,i+1,v,h=>by simpa using b.get i v (by simpa using h)
theorem Kq {α:Type}:∀(l:List α) (n:Nat),Kj l n=l[n]? |[],n=>by simp[Kj]|x::l,0=>rfl|x::l,n+1=>by have:=Kq l n;simp only[zp];exact this
theorem y5R (β:Bm):VR β undef undef:=.tuple #[] #[] .nil
theorem z0M {β:Bm}:∀{v:Value},x5P v=true->VR β v v|.bool b,_=>.bool b|.int k n,_=>.int k n|.float k n,_=>.float k n|.complex k a b,_=>.complex k a b|.string s,_=>.string s|.pointer none,_=>.nilPtr|.slice none l c,_=>.nilSl l c|.map none,_=>.nilMap|.chan none,_=>.nilChan|.nilFunc,_=>.nilFunc|.nilIface,_=>.nilIface
theorem x9W {β:Bm}:∀{l:List Value},Zz l=true->VL β l l|[],_=>.nil|v::l,h=>by have h':cond (x5P v) (Zz l) false=true:=h;cases hv:x5P v;{rw[hv]at h';simp at h'};rw[hv]at h';exact .cons (z0M hv) (x9W h')
theorem x5N {β:Bm}{v:Value}(h:plain v=true):VR β v v:=by unfold plain at h;split at h;{exact .agg _ _ (x9W h)};{exact .tuple _ _ (x9W h)};exact z0M h
theorem z6D {β:Bm}{v w:Value}(h:x5P v=true)(r:VR β v w):w=v:=by cases r<;>first|rfl|simp[x5P]at h
theorem u3B {β:Bm}:∀{l m:List Value},Zz l=true->VL β l m->m=l|_,_,_,.nil=>rfl|v::l,_,h,.cons a b=>by have h':cond (x5P v) (Zz l) false=true:=h;cases hv:x5P v;{rw[hv]at h';simp at h'};rw[hv]at h';rw[z6D hv a,u3B h' b]
theorem y4N {β:Bm}{v w:Value}(h:plain v=true)(r:VR β v w):w=v:=by cases r with|agg a b hl=>{exact qV Value.agg (qm (u3B (β:=β) h hl))}|tuple a b hl=>{exact qV Value.tuple (qm (u3B (β:=β) h hl))}|_=>exact z6D (β:=β) (by simpa[plain]using h) (by first|assumption|(constructor<;>assumption))
theorem y8C {β:Bm}{v w:Value}(h:VR β v w):VL β v.cells.toList w.cells.toList:=by cases h with|agg a b hl=>{exact hl}|_=>exact .cons (by first|assumption|(constructor<;>assumption)) .nil
def TR (β:Bm)(T:Tm)(tmps:Array Value):Prop:=∀t,VR β (KP T t) (tmps.getD t undef)
theorem TR.mono {β γ:Bm}{T:Tm}{a:Array Value}(h:TR β T a)(hb:∀i c,β i=some c->γ i=some c):TR γ T a:=fun t=>(h t).mono hb
theorem u5X (a:Array Value)(d t:Nat)(v:Value)(h:d<a.size):(a.setIfInBounds d v).getD t undef=if t=d then v else a.getD t undef:=by by_cases e:t=d;{subst e;simp[h]};have e':¬d=t:=fun x=>e x.symm;simp[e,e']
theorem TR.set {β:Bm}{T:Tm}{a:Array Value}(h:TR β T a){d:Nat}{v w:Value}(hd:d<a.size)(hv:VR β v w):TR β (tset T d v) (a.setIfInBounds d w):=fun t=>by rw[x8N,u5X _ _ _ _ hd];split;{exact hv};exact h t
inductive ObR (P:Program) (β:Bm) (m:Nat):Qy->Obj->Prop
 |cells (l l':List Value) (e:TypeId) (c:Array Value) (rest:List Value) (fz:Nat×Nat) (h:VL β l l') (hc:c.toList=l'++rest) (hm:∀s,x1K P e=some s->m*s<=c.size) (hz:fz=(0,0)\/c.size<=fz.1):ObR P β m (.cells l e) (.cells c e fz)
 |loop (r:ALoop) (q:Loop) (x:Nat×Nat) (h1:q.state=r.state) (h2:q.pending=r.pending) (h4:TR β r.T q.tmps) (h5:q.params.toList=r.params) (h6:q.assign=r.assign) (h7:q.body=r.body)
     (h8:β r.defers=some x) (fc:x.1=q.defers) (h9:q.tmps.size=r.sz):ObR P β m (.loop r) (.loop q)
 |iter (s:ByteArray) (pos:Nat):ObR P β m (.iter s pos) (.stringIter s pos)
 |defd (x:Option (List Deferred)):ObR P β m .defd (.deferred x)
 |dead (o:Obj):ObR P β m .dead o
theorem ObR.mono {P:Program}{β γ:Bm}{m:Nat}{o:Qy}{q:Obj}(h:ObR P β m o q)(hb:∀i c,β i=some c->γ i=some c):ObR P γ m o q:=by cases h with|cells l l' e c rest fz h hc hm hz=>{exact .cells l l' e c rest fz (h.mono hb) hc hm hz}|loop r q x h1 h2 h4 h5 h6 h7 h8 fc h9=>{exact .loop r q x h1 h2 (h4.mono hb) h5 h6 h7 (hb _ _ h8) fc h9}|iter s pos=>{exact .iter s pos}|defd x=>{exact .defd x}|dead=>exact .dead _
abbrev Gp:=Nat->Option Qy
class GT where
 tab:Nat->Option (Array Value)
variable [GT]
def QF (w:World):Prop:=∀g cs,GT.tab g=some cs->∃e fz,w.heap[g]? =some (.cells cs e fz)
def Off (β:Bm)(G:Gp)(b:Nat):Prop:=∀i o c,G i=some o->o≠ .dead->β i=some c->c.1≠b
structure WR (P:Program) (β:Bm) (G:Gp) (w:World):Prop where
 obj:∀i o,G i=some o->∃b q,β i=some b/\w.heap[b.1]? =some q/\ObR P β b.2 o q
 inj:∀i j b c o p,G i=some o->G j=some p->o≠ .dead->p≠ .dead->β i=some b->β j=some c->b.1=c.1->i=j
 glob:QF w
 off:∀g cs,GT.tab g=some cs->Off β G g
theorem QF.frame {w w':World}(h:QF w)(hf:∀g cs,GT.tab g=some cs->g<w.heap.size->w'.heap[g]? =w.heap[g]?):QF w':=fun g cs hg=>by obtain⟨e,fz,h1⟩:=h g cs hg;exact⟨e,fz,by rw[hf g cs hg (qN.1 h1).1];exact h1⟩
theorem QF.lt {w:World}(h:QF w){g:Nat}{cs:Array Value}(hg:GT.tab g=some cs):g<w.heap.size:=by obtain⟨e,fz,h1⟩:=h g cs hg;exact(qN.1 h1).1
theorem QF.congr {w w':World}(h:QF w)(e:w'.heap=w.heap):QF w':=fun g cs hg=>by rw[e];exact h g cs hg
structure Ext (P:Program) (β:Bm) (G:Gp) (n:Nat) (w:World) (γ:Bm) (G':Gp) (n':Nat) (w':World):Prop where
 same:∀i,(i<n\/n'<=i)->γ i=β i
 wr:WR P γ G' w'
 size:w.heap.size<=w'.heap.size
 frame:∀b,b<w.heap.size->Off β G b->w'.heap[b]? =w.heap[b]?
 orig:∀i o b,G' i=some o->o≠ .dead->γ i=some b->w.heap.size<=b.1\/∃j p c,G j=some p/\p≠ .dead/\β j=some c/\c.1=b.1
 keep:∀i,G i=some .defd->G' i=some .defd
 kept:∀i b,G i=some .defd->β i=some b->w'.heap[b.1]? =w.heap[b.1]?
 os:w'.os=w.os
 out:w'.output=w.output
 tape:w'.tape=w.tape
def QC (β:Bm)(n n':Nat):Prop:=∀i,n<=i->i<n'->β i=none
section
variable {P:Program}
theorem Ext.le {β γ:Bm}{G G':Gp}{n n':Nat}{w w':World}(h:Ext P β G n w γ G' n' w')(hf:QC β n n'):∀i c,β i=some c->γ i=some c:=by intro i c hc;by_cases hi:i<n\/n'<=i;{rw[h.same i hi,hc]};rw[hf i (by omega) (by omega)]at hc;cases hc
theorem Ext.refl {β:Bm}{G:Gp}{n:Nat}{w:World}(h:WR P β G w):Ext P β G n w β G n w:=⟨fun _ _=>rfl,h,qQ _,fun _ _ _=>rfl,fun i o b h1 h2 h3=>.inr ⟨i,o,b,h1,h2,h3,rfl⟩,fun _ h=>h,fun _ _ _ _=>rfl,rfl,rfl,rfl⟩
theorem Ext.trans {β γ δ:Bm}{G G' G'':Gp}{n n' n'':Nat}{w w' w'':World}(h1:Ext P β G n w γ G' n' w')(h2:Ext P γ G' n' w' δ G'' n'' w'')(l1:n<=n')(l2:n'<=n'')(hf:QC β n n''):Ext P β G n w δ G'' n'' w'':=by have e1:∀i c,β i=some c->γ i=some c:=h1.le fun i a b=>hf i a (by omega);refine⟨fun i hi=>?_,h2.wr,qi h1.size h2.size,fun b hb ho=>?_,fun i o b g1 g2 g3=>?_,fun i g=>h2.keep i (h1.keep i g),fun i b g hb=>?_,h2.os.trans h1.os,h2.out.trans h1.out,h2.tape.trans h1.tape⟩;{rw[h2.same i (by omega),h1.same i (by omega)]};{rw[h2.frame b (by have:=h1.size;omega) ?_,h1.frame b hb ho];intro i o c g1 g2 g3 g4;rcases h1.orig i o c g1 g2 g3 with h|⟨j,p,d,q1,q2,q3,q4⟩;{omega};exact ho j p d q1 q2 q3 (q4.trans g4)};{rcases h2.orig i o b g1 g2 g3 with h|⟨j,p,c,q1,q2,q3,q4⟩;{exact .inl (qi h1.size h)};rcases h1.orig j p c q1 q2 q3 with h|⟨k,r,d,r1,r2,r3,r4⟩;{exact .inl (q4▸h)};exact .inr ⟨k,r,d,r1,r2,r3,r4.trans q4⟩};rw[h2.kept i b (h1.keep i g) (e1 i b hb),h1.kept i b g hb]
theorem WR.congr {β:Bm}{G:Gp}{w w':World}(h:WR P β G w)(e:w'.heap=w.heap):WR P β G w':=⟨fun i o g=>by rw[e];exact h.obj i o g,h.inj,h.glob.congr e,h.off⟩
theorem Ext.congr {β γ:Bm}{G G':Gp}{n n':Nat}{w w' w'':World}(h:Ext P β G n w γ G' n' w')(e:w''.heap=w'.heap)(e1:w''.os=w'.os)(e2:w''.output=w'.output)(e3:w''.tape=w'.tape):Ext P β G n w γ G' n' w'':=⟨h.same,h.wr.congr e,by rw[e];exact h.size,fun b hb ho=>by rw[e];exact h.frame b hb ho,h.orig,h.keep,fun i b g hb=>by rw[e];exact h.kept i b g hb,e1.trans h.os,e2.trans h.out,e3.trans h.tape⟩
theorem Ext.congr0 {β γ:Bm}{G G':Gp}{n n':Nat}{w w0 w':World}(h:Ext P β G n w γ G' n' w')(e:w0.heap=w.heap)(e1:w0.os=w.os)(e2:w0.output=w.output)(e3:w0.tape=w.tape):Ext P β G n w0 γ G' n' w':=⟨h.same,h.wr,by rw[e];exact h.size,fun b hb ho=>by rw[e];exact h.frame b (by rw[<-e];exact hb) ho,fun i o b a1 a2 a3=>by rw[e];exact h.orig i o b a1 a2 a3,h.keep,fun i b g hb=>by rw[e];exact h.kept i b g hb,h.os.trans e1.symm,h.out.trans e2.symm,h.tape.trans e3.symm⟩
theorem WR.sub {β:Bm}{G K:Gp}{w:World}(h:WR P β K w)(hs:∀i o,G i=some o->K i=some o):WR P β G w:=⟨fun i o g=>h.obj i o (hs i o g),fun i j b c o p g1 g2=>h.inj i j b c o p (hs _ _ g1) (hs _ _ g2),h.glob,fun g cs hg i o c h1=>h.off g cs hg i o c (hs i o h1)⟩
theorem Ext.beside {β γ:Bm}{G G' K K':Gp}{n n':Nat}{w w':World}(h:Ext P β G n w γ G' n' w')(hf:QC β n n')(hK:WR P β K w)(hG:∀i o,G i=some o->K i=some o) (eJ:∀i o,K' i=some o->G' i=some o\/(G' i=none/\G i=none/\K i=some o)) (iZ:∀i,K i=some .defd->K' i=some .defd):Ext P β K n w γ K' n' w':=by have e1:=h.le hf;have off:∀i o b,K i=some o->G i=none->o≠ .dead->β i=some b->Off β G b.1:=fun i o b g1 g2 g3 g4 j p c q1 q2 q3 q4=>by{have:=hK.inj i j b c o p g1 (hG j p q1) g3 q2 g4 q3 q4.symm;subst this;rw[g2]at q1;cases q1};have bound:∀i o b,K i=some o->β i=some b->b.1<w.heap.size:=fun i o b g1 g2=>by{obtain⟨b',q,h1,h2,_⟩:=hK.obj i o g1;rw[g2]at h1;cases h1;exact(qN.1 h2).1};have back:∀i o b,K i=some o->γ i=some b->β i=some b:=fun i o b k g=>by{obtain⟨b',q,h1,h2,h3⟩:=hK.obj i o k;have:=e1 _ _ h1;rw[g]at this;cases this;exact h1};refine⟨h.same,⟨fun i o g=>?_,fun i j b c o p g1 g2 d1 d2 b1 b2 bc=>?_,h.wr.glob,fun g cs hg i o c q1 q2 q3=>?_⟩,h.size,fun b hb ho=>h.frame b hb fun i o c g1 g2=>ho i o c (hG i o g1) g2,fun i o b g1 g2 g3=>?_,iZ,fun i b g hb=>?_,h.os,h.out,h.tape⟩;{rcases eJ i o g with g|⟨g,g0,g'⟩;{exact h.wr.obj i o g};obtain⟨b,q,h1,h2,h3⟩:=hK.obj i o g';by_cases hd:o=.dead;{subst hd;have hb:=(qN.1 h2).1;have br:b.1<w'.heap.size:=zO hb h.size;exact⟨b,w'.heap[b.1],e1 _ _ h1,zX br,.dead _⟩};refine⟨b,q,e1 _ _ h1,?_,h3.mono e1⟩;rw[h.frame b.1 (qN.1 h2).1 (off i o b g' g0 hd h1),h2]};{have mix:∀i j b c o p,G' i=some o->o≠ .dead->γ i=some b->(G' j=none/\G j=none/\K j=some p)->p≠ .dead->γ j=some c->b.1=c.1->False:=by{intro i j b c o p g d gb ⟨_,k0,k1⟩ d' gc bc;have bx:=back j p c k1 gc;have ah:=bound j p c k1 bx;rcases h.orig i o b g d gb with hh|⟨x,y,z,q1,q2,q3,q4⟩;{omega};exact off j p c k1 k0 d' bx x y z q1 q2 q3 (q4.trans bc)};rcases eJ i o g1 with x|x<;>rcases eJ j p g2 with y|y;{exact h.wr.inj i j b c o p x y d1 d2 b1 b2 bc};{exact(mix i j b c o p x d1 b1 y d2 b2 bc).elim};{exact(mix j i c b p o y d2 b2 x d1 b1 bc.symm).elim};obtain⟨_,_,x'⟩:=x;obtain⟨_,_,y'⟩:=y;exact hK.inj i j b c o p x' y' d1 d2 (back i o b x' b1) (back j p c y' b2) bc};{rcases eJ i o q1 with x|⟨_,_,x⟩;{exact h.wr.off g cs hg i o c x q2 q3};exact hK.off g cs hg i o c x q2 (back i o c x q3)};{rcases eJ i o g1 with x|⟨_,_,x⟩;{rcases h.orig i o b x g2 g3 with hh|⟨j,p,c,q1,q2,q3,q4⟩;{exact .inl hh};exact .inr ⟨j,p,c,hG j p q1,q2,q3,q4⟩};exact .inr ⟨i,o,b,x,g2,back i o b x g3,rfl⟩};cases hg:G i with|some o=>{have:=hG i o hg;rw[g]at this;cases this;exact h.kept i b hg hb}|none=>exact h.frame b.1 (bound i _ b g hb) (off i _ b g hg (by simp) hb)
end
end Go.Xec
