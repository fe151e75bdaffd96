/- AN EXECUTOR OF THE MODEL's CODE ON AN ABSTRACT HEAP -/
import GoSem.Step
import Derived.CallsIn
import Derived.Laws.Sem
set_option linter.all false
noncomputable section
def Jj:=@Nat.le_refl
def Jq:=@decide_eq_false
def Jz:=@cond_true
def Jk:=@cond_false
def JJ:=@decide_eq_true
def JQ:=@List.getElem?_eq_getElem
def JZ:=@if_neg
def JK:=@Option.bind_some
def JW:=@List.getElem?_eq_some_iff
def JE:=@if_pos
def JV:=@congrArg
def JU:=@List.getD_eq_getElem?_getD
def Jy:=@Nat.lt_of_lt_of_le
def JY:=@List.mem_of_getElem?
def JG:=@of_decide_eq_true
def JI:=@Go.Result.andThen_ok
def JN:=@List.drop_eq_getElem_cons
def JL:=@Array.getElem?_eq_some_iff
def JM:=@List.length_append
def JO:=@Option.bind_eq_some_iff
def JR:=@List.getElem?_append_right
def JS:=@List.length_cons
def JT:=@Go.Sem.run_bind
def JA:=@List.mem_cons
def JB:=@decide_eq_true_eq
def JC:=@List.getElem?_append_left
def JD:=@Bool.and_eq_true
def JF:=@Bool.not_true
def JH:=@Nat.le_trans
def JP:=@Classical.byContradiction
def Jx:=@Go.Sem.run_pure
def JX:=@decide_true
def Ja:=@List.eq_nil_of_length_eq_zero
def Jb:=@Nat.ble_eq_true_of_le
def Jc:=@List.take_length
def Jd:=@Nat.zero_add
def Je:=@Array.length_toList
def Jf:=@List.nil_append
def Jg:=@List.mem_append
def Jh:=@Nat.lt_succ_self
def Ji:=@Nat.add_zero
def Jl:=@Array.ext'
def Jm:=@List.mem_range
def Jn:=@Nat.le_of_lt
def Jo:=@Int.emod_nonneg
def Jp:=@Option.map_eq_some_iff
def Jr:=@Int.emod_lt_of_pos
def Js:=@Bool.false_eq_true
def Jt:=@List.length_map
def Ju:=@Nat.eq_of_beq_eq_true
def Jv:=@decide_eq_decide
def Jw:=@List.length_nil
def Qj:=@List.cons_append
def Qq:=@List.append_assoc
def Qz:=@List.append_nil
def Qk:=@Nat.zero_le
def QJ:=@List.getElem?_map
def QQ:=@List.take_add_one
def QZ:=@decide_false
def QK:=@Bool.false_and
def QW:=@Option.some.inj
def QE:=@List.drop_length
def QV:=@List.mem_cons_of_mem
def QU:=@Bool.or_false
def Qy:=@Int.le_refl
def QY:=@Int.mul_nonneg
def QG:=@Bool.not_false
def QI:=@Int.toNat_natCast
def QN:=@Int.mul_le_mul_of_nonneg_left
def QL:=@Int.tmod_lt_of_pos
def QM:=@Nat.lt_or_ge
def QO:=@List.mem_cons_self
def QR:=@List.map_cons
def QS:=@List.count_le_length
def QT:=@List.mem_append_left
def QA:=@List.getElem?_cons_zero
def QB:=@Option.some.injEq
def QC:=@Nat.lt_succ_of_lt
def QD:=@List.map_append
def QF:=@Go.callsIn_wide
def QH:=@List.mem_flatMap
def QP:=@List.mem_append_right
def Qx:=@Array.getElem?_eq_getElem
def QX:=@Int.mul_comm
def Qa:=@Nat.beq_refl
def Qb:=@if_false
def Qc:=@List.size_toArray
def Qd:=@List.getElem?_cons_succ
def Qe:=@List.length_take
def Qf:=@Array.getElem?_setIfInBounds
def Qg:=@Nat.mul_one
def Qh:=@List.drop_eq_nil_of_le
def Qi:=@Nat.eq_zero_or_pos
def Ql:=@Nat.zero_mul
def Qm:=@List.count_pos_iff
def Qn:=@List.cons.injEq
def Qo:=@List.take_append_drop
def Qp:=@Prod.mk.injEq
def Qr:=@Int.tdiv_eq_ediv_of_nonneg
def Qs:=@Int.mul_le_mul
def Qt:=@List.map_nil
def Qu:=@List.getElem_mem
def Qv:=@List.map_toArray
def Qw:=@List.mem_map
def Zj:=@List.take_succ_cons
def Zq:=@Nat.add_assoc
def Zz:=@Int.mul_assoc
def Zk:=@of_decide_eq_false
def ZJ:=@Int.mul_le_mul_of_nonneg_right
def ZQ:=@Bool.or_eq_true
def ZZ:=@List.take_of_length_le
def ZK:=@Nat.lt_trichotomy
def ZW:=@List.nodup_nil
def ZE:=@List.getElem?_eq_none
def ZV:=@UInt8.le_iff_toNat_le
def ZU:=@Bool.and_false
def Zy:=@Nat.mul_comm
def ZY:=@Array.replicate_succ
def ZG:=@Array.replicate_zero
def ZI:=@List.all_eq_true
def ZN:=@Array.toList_setIfInBounds
def ZL:=@List.length_pos_iff
def ZM:=@beq_eq_false_iff_ne
def ZO:=@List.append_toArray
def ZR:=@List.nodup_cons
def ZS:=@Nat.testBit_and
def ZT:=@Nat.not_lt_zero
def ZA:=@List.mem_singleton
def ZB:=@List.drop_zero
def ZC:=@Nat.mod_lt
def ZD:=@List.push_toArray
def ZF:=@Nat.add_mul
def ZH:=@Array.getElem?_eq_none
def ZP:=@Int.emod_add_mul_ediv
def Zx:=@Array.getElem?_modify
def ZX:=@List.mem_of_mem_drop
def Za:=@Nat.mul_le_mul_right
def Zb:=@List.getElem?_of_mem
def Zc:=@Go.Calls.mono
def Zd:=@Bool.or_eq_false_iff
def Ze:=@List.find?_eq_some_iff_getElem
def Zf:=@List.take_append_of_le_length
def Zg:=@List.drop_succ_cons
def Zh:=@Go.wpIn_mono
def Zi:=@Go.wpIn_wide
def Zl:=@List.getElem?_drop
def Zm:=@Array.getD_eq_getD_getElem?
def Zn:=@List.find?_eq_none
def Zo:=@Int.sub_mul_emod_self_left
def Zp:=@Bool.true_and
def Zr:=@List.isSuffixOf_iff_suffix
def Zs:=@Array.size_append
def Zt:=@List.flatMap_cons
def Zu:=@List.getElem?_inj
def Zv:=@Go.run_newObj
def Zw:=@if_true
def Kj:=@Iff.rfl
def Kq:=@Int.neg_tmod
def Kz:=@Int.lt_or_le
def Kk:=@Nat.mod_eq_of_lt
def KJ:=@Nat.sub_zero
def KQ:=@List.mem_reverse
def KZ:=@Int.natCast_add
def KK:=@Int.ediv_nonneg
def KW:=@List.range_succ
def KE:=@Nat.div_add_mod
def KV:=@Nat.le_succ
def KU:=@Nat.mul_add
def Ky:=@List.mapM_cons
def KY:=@Nat.testBit_or
def KG:=@List.elem_cons
def KI:=@List.drop_drop
def KN:=@Nat.mul_le_mul
abbrev GS:=List UInt8
abbrev GA:=@Option
abbrev GB:=Go.Value
abbrev GC:=Go.Operand
abbrev GD:=Go.TypeId
abbrev GF:=Go.Program
theorem GH {α:Type}{x:Option α}{a b:α}(h:x=some a)(e:a=b):x=some b:=by rw [h,e]
namespace Go.Xec
open Go
inductive Tr (α:Type) where
 |leaf
 |node (l:Tr α) (o:α) (r:Tr α)
def Tr.get {α:Type}(d:α)(t:Tr α):Nat->α:=Tr.rec (fun _=>d) (fun _ o _ il ir n=>cond (Nat.beq n 0) o (cond (Nat.beq (Nat.mod n 2) 1) (il (Nat.div n 2)) (ir (Nat.sub (Nat.div n 2) 1)))) t
def Tr.set {α:Type}(d:α):Nat->Tr α->Nat->α->Tr α:=Nat.rec (fun t _ _=>t) (fun _ ih t n o=>Tr.casesOn t (cond (Nat.beq n 0) (.node .leaf o .leaf) (cond (Nat.beq (Nat.mod n 2) 1) (.node (ih .leaf (Nat.div n 2) o) d .leaf) (.node .leaf d (ih .leaf (Nat.sub (Nat.div n 2) 1) o)))) (fun l x r=>cond (Nat.beq n 0) (.node l o r) (cond (Nat.beq (Nat.mod n 2) 1) (.node (ih l (Nat.div n 2) o) x r) (.node l x (ih r (Nat.sub (Nat.div n 2) 1) o)))))
abbrev Tm:=Tr GB
structure KL where
 state:LoopState
 pending:GA Code
 fn:FuncId
 T:Tm
 params:List Tmp
 assign:Code
 body:Code
 defers:Nat
 sz:Nat
inductive KM where
 |cells (l:List GB) (e:GD)
 |loop (r:KL)
 |iter (s:ByteArray) (pos:Nat)
 |defd
 |dead
abbrev Hp:=Tr (GA KM)
def VJ (H:Hp)(n:Nat):GA KM:=Tr.get none H n
def VQ (H:Hp)(n:Nat)(o:KM):Hp:=Tr.set none (Nat.succ n) H n (some o)
def Um (T:Tm)(n:Nat):GB:=Tr.get undef T n
def tset (T:Tm)(n:Nat)(v:GB):Tm:=Tr.set undef (Nat.succ n) T n v
def Uu:Nat:=18446744073709551616
def UG {α:Type}(P:GF)(s:Sem α):GA α:=Sem.rec (motive:=fun _=>GA α) (fun a=>some a) (fun _ _ _ _=>none) (fun _ _ _ _ _=>none) (fun _ _ _=>none) (fun _ _ _=>none) (fun _ _ _ _=>none) (fun _ _ _=>none) (fun _ _ _=>none) (fun _ _ _ _=>none) (fun _ _ _=>none) (fun _ _ _=>none) (fun _ ih=>ih P) (fun _ _ _=>none) (fun _=>none) s
def x5P:GB->Bool|.bool _|.int .. |.float .. |.complex .. |.string _|.pointer none|.slice none _ _|.map none|.chan none|.nilFunc|.nilIface=>true|_=>false
def WD (l:List GB):Bool:=List.rec true (fun v _ ih=>cond (x5P v) ih false) l
def plain:GB->Bool|.agg cs=>WD cs.toList|.tuple cs=>WD cs.toList|v=>x5P v
def v7L:GB->Bool|.agg _|.tuple _=>false|_=>true
def WF (l:List GB):Bool:=List.rec true (fun v _ ih=>cond (v7L v) ih false) l
def VF {α:Type}(l:List α):Nat->GA α:=List.rec (fun _=>none) (fun x _ ih n=>Nat.casesOn n (some x) (fun m=>ih m)) l
def z5N:Nat->List GB->GA (List GB):=Nat.rec (fun _=>some []) (fun _ ih l=>List.casesOn l none (fun x l=>Option.casesOn (ih l) none (fun r=>some (x::r))))
def cut (l:List GB):Nat->Nat->GA (List GB):=List.rec (fun k n=>Nat.casesOn k (z5N n []) (fun _=>none)) (fun x l ih k n=>Nat.casesOn k (z5N n (x::l)) (fun k=>ih k n)) l
def over (vs:List GB):List GB->GA (List GB):=List.rec (fun l=>some l) (fun v _ ih l=>List.casesOn l none (fun _ l=>Option.casesOn (ih l) none (fun r=>some (v::r)))) vs
def x7N (l:List GB):Nat->List GB->GA (List GB):=List.rec (fun k vs=>Nat.casesOn k (over vs []) (fun _=>none)) (fun x l ih k vs=>Nat.casesOn k (over vs (x::l)) (fun k=>Option.casesOn (ih k vs) none (fun r=>some (x::r)))) l
def ev (T:Tm):GC->GB|.tmp t=>Um T t|.const v=>v|.global g=>.pointer (some ⟨g,0,none⟩)|.func f=>.func (.func f) #[] #[]
def Vp:GC->Bool|.tmp _=>true|.const v=>plain v|.global _=>false|.func _=>true
def Yu:GA TypeDesc->Bool|some (.struct _)|some (.array _ _)=>true|_=>false
def Yh (P:GF)(t:GD):GA Nat:=(P.info? t).map (·.size)
def v0Z (P:GF)(t:GD):GA (List GB):=(P.info? t).bind fun i=>i.zero.map fun z=>z.cells.toList
inductive OR where
 |ok (v:GB) (H:Hp) (n:Nat)
 |bad
def We (b:Bool)(x:OR):OR:=cond b x .bad
def Vr {α:Type}(o:GA α)(f:α->OR):OR:=match o with|some a=>f a|none=>.bad
def x6R (v:GB)(f:Addr->OR):OR:=match v with|.pointer (some a)=>f a|_=>.bad
def onAgg (v:GB)(f:List GB->OR):OR:=match v with|.agg cs=>f cs.toList|_=>.bad
def v3B (v:GB)(f:List GB->OR):OR:=match v with|.tuple cs=>f cs.toList|_=>.bad
def z6N (v:GB)(f:Bool->OR):OR:=match v with|.bool b=>f b|_=>.bad
def u0M (v:GB)(f:Nat->OR):OR:=match v with|.int _ (.ofNat n)=>f n|_=>.bad
def onSl (v:GB)(f:Addr->Nat->Nat->OR):OR:=match v with|.slice (some a) l c=>f a l c|_=>.bad
def newB (H:Hp)(n:Nat)(l:List GB)(e:GD):OR:=.ok (.pointer (some ⟨n,0,none⟩)) (VQ H n (.cells l e)) (Nat.succ n)
def newS (H:Hp)(n:Nat)(l:List GB)(e:GD)(len cap:Nat):OR:=.ok (.slice (some ⟨n,0,none⟩) len cap) (VQ H n (.cells l e)) (Nat.succ n)
def cellsOf:GA KM->GA (List GB×GD)|some (.cells l e)=>some (l,e)|_=>none
def Yc (H:Hp)(b:Nat):GA (List GB×GD):=cellsOf (VJ H b)
def x5Z (r:List GB):GB:=.agg r.toArray
def x8L (H:Hp)(n b off:Nat)(vs:List GB)(v:GB):OR:=Vr (Yc H b) fun p=>Vr (x7N p.1 off vs) fun l'=>.ok v (VQ H b (.cells l' p.2)) n
structure CO where
 f:Tm->Hp->Nat->OR
def z3Y:CO:=⟨fun _ _ _=>.bad⟩
def Wr (b:Bool)(c:CO):CO:=cond b c z3Y
def Wu {α:Type}(o:GA α)(f:α->CO):CO:=match o with|some a=>f a|none=>z3Y
def x6Q:GA TypeDesc->GA (List Field)|some (.struct fs)=>some fs.toList|_=>none
def y9A:GA TypeDesc->GA (Nat×GD)|some (.array n e)=>some (n,e)|_=>none
def x2X:GA TypeDesc->GA GD|some (.slice e)=>some e|_=>none
def z8R (P:GF)(t:GD)(a:GC):CO:=cond (Yu (P.underlying t)) (Wu (Yh P t) fun n=>⟨fun T H k=>x6R (ev T a) fun a=>Vr (Yc H a.block) fun p=>Vr (cut p.1 a.off n) fun r=>.ok (x5Z r) H k⟩) (Wu (P.underlying t) fun _=>⟨fun T H k=>x6R (ev T a) fun a=>Vr (Yc H a.block) fun p=>Vr (VF p.1 a.off) fun v=>.ok v H k⟩)
def u6T (P:GF)(t:GD)(a x:GC):CO:=Wu (Yh P t) fun s=>⟨fun T H n=>x6R (ev T a) fun a=>We (cond (Nat.beq (ev T x).cells.toList.length s) (WF (ev T x).cells.toList) false) (x8L H n a.block a.off (ev T x).cells.toList undef)⟩
def x9T (P:GF)(s:GD)(x:GC)(f:Nat):CO:=Wu (x6Q (P.underlying s)) fun fs=>Wu (VF fs f) fun f=>Wu (Yh P f.type) fun k=>Wr (Nat.ble 1 k) ⟨fun T H n=>x6R (ev T x) fun a=>.ok (.pointer (some ⟨a.block,Nat.add a.off f.offset,none⟩)) H n⟩
def y3E (P:GF)(t:GD)(off:Nat)(l:List GB):GA GB:=cond (Yu (P.underlying t)) ((Yh P t).bind fun n=>(cut l off n).map x5Z) ((P.underlying t).bind fun _=>VF l off)
def u6V (P:GF)(s:GD)(x:GC)(f:Nat):CO:=Wu (x6Q (P.underlying s)) fun fs=>Wu (VF fs f) fun f=>⟨fun T H n=>onAgg (ev T x) fun cs=>Vr (y3E P f.type f.offset cs) fun v=>.ok v H n⟩
def ixA (s:Nat)(a:Addr)(len i:Nat)(H:Hp)(n:Nat):OR:=We (Nat.ble (Nat.succ i) len) (.ok (.pointer (some ⟨a.block,Nat.add a.off (Nat.mul i s),none⟩)) H n)
def x3H (P:GF)(t:GD)(x ix:GC):CO:=match y9A (P.underlying t)with|some p=>Wu (Yh P p.2) fun s=>⟨fun T H n=>x6R (ev T x) fun a=>u0M (ev T ix) fun i=>ixA s a p.1 i H n⟩|none=>Wu (x2X (P.underlying t)) fun e=>Wu (Yh P e) fun s=>⟨fun T H n=>onSl (ev T x) fun a len _=>u0M (ev T ix) fun i=>ixA s a len i H n⟩
def x6U (place:Nat->GA (Nat×Nat))(ps:List (Nat×GB)):List GB->GA (List GB):=List.rec (fun cells=>some cells) (fun p _ ih cells=>(place p.1).bind fun q=>cond (Nat.beq p.2.cells.toList.length q.2) ((x7N cells q.1 p.2.cells.toList).bind ih) none) ps
def x7R (P:GF)(fs:List Field):GA (List (Nat×Nat)):=List.rec (some []) (fun f _ ih=>(Yh P f.type).bind fun s=>ih.map fun r=>(f.offset,s)::r) fs
def x5A (T:Tm)(ps:List (Nat×GC)):List (Nat×GB):=List.rec [] (fun p _ ih=>(p.1,ev T p.2)::ih) ps
def x4Q (P:GF)(t:GD):GA (List GB):=(v0Z P t).bind fun z=>cond (WD z) (some z) none
def z8S (P:GF)(t:GD)(ps:List (Nat×GC)):CO:=Wu (x4Q P t) fun z=>match x6Q (P.underlying t)with|some fs=>Wu (x7R P fs) fun pl=>⟨fun T H n=>Vr (x6U (VF pl) (x5A T ps) z) fun c=>.ok (x5Z c) H n⟩|none=>Wu (y9A (P.underlying t)) fun p=>Wu (Yh P p.2) fun s=>⟨fun T H n=>Vr (x6U (fun i=>some (Nat.mul i s,s)) (x5A T ps) z) fun c=>.ok (x5Z c) H n⟩
def US (k:Nat)(z:List GB):List GB:=Nat.rec [] (fun _ ih=>z++ih) k
def x5W (P:GF)(t len:Nat)(ps:List (Nat×GC)):CO:=Wu (x2X (P.underlying t)) fun e=>Wu (Yh P e) fun s=>Wu (x4Q P e) fun z=>Wr (cond (Nat.beq z.length s) (cond (Nat.ble 1 s) (Nat.ble (Nat.mul len s) 16777215) false) false) ⟨fun T H n=>Vr (x6U (fun i=>some (Nat.mul i s,s)) (x5A T ps) (US len z)) fun c=>newS H n c e len len⟩
def x7J (P:GF)(t:GD)(l c:GC):CO:=Wu (x2X (P.underlying t)) fun e=>Wu (P.info? e) fun i=>Wu (x4Q P e) fun z=>Wr (Nat.beq z.length i.size) ⟨fun T H n=>u0M (ev T l) fun l=>u0M (ev T c) fun c=>We (cond (Nat.ble l c) (cond (Nat.ble (Nat.mul c i.bytes) 1099511627776) (Nat.ble c 1099511627776) false) false) (newS H n (US c z) e l c)⟩
def x6M (H:Hp)(size:Nat):GB->GA (List GB)|.slice none _ _=>some []|.slice (some a) n _=>(Yc H a.block).bind fun p=>cut p.1 a.off (Nat.mul n size)|.string s=>some (s.data.toList.map fun b=>.int .u8 b.toNat)|_=>none
def lenS:GB->GA Nat|.slice none 0 _=>some 0|.slice (some _) n _=>some n|.string s=>some s.size|_=>none
def z9B (H:Hp)(n:Nat)(size:Nat)(e:GD)(a:Addr)(sLen sCap k:Nat)(new:List GB)(p:List GB×GD):OR:=cond (Nat.beq sCap Uu) (We (cond (Nat.beq a.off 0) (cond (Nat.beq p.1.length (Nat.mul sLen size)) (Nat.beq p.2 e) false) false) (.ok (.slice (some ⟨n,0,none⟩) (Nat.add sLen k) Uu) (VQ (VQ H a.block .dead) n (.cells (p.1++new) e)) (Nat.succ n))) (cond (Nat.ble (Nat.add sLen k) sCap) (x8L H n a.block (Nat.add a.off (Nat.mul sLen size)) new (.slice (some ⟨a.block,a.off,none⟩) (Nat.add sLen k) sCap)) (Vr (cut p.1 a.off (Nat.mul sLen size)) fun old=>newS H n (old++new) e (Nat.add sLen k) Uu))
def appTo (H:Hp)(n:Nat)(size:Nat)(e:GD)(k:Nat)(new:List GB)(bound:Nat->Bool):GB->OR|.slice none 0 0=>cond (Nat.beq k 0) (.ok (.slice none 0 0) H n) (We (bound k) (newS H n new e k Uu))|.slice (some a) sLen sCap=>cond (Nat.beq k 0) (We (cond (Nat.beq sCap Uu) true (Nat.ble sLen sCap)) (.ok (.slice (some a) sLen sCap) H n)) (We (bound (Nat.add sLen k)) (Vr (Yc H a.block) fun p=>z9B H n size e a sLen sCap k new p))|_=>.bad
def u5C:GA TypeDesc->Bool|some (.int _)=>false|some _=>true|none=>false
def y8G (P:GF)(sT xT:GD)(s x:GC):CO:=Wr (u5C (P.underlying xT)) (Wu (x2X (P.underlying sT)) fun e=>Wu (P.info? e) fun i=>Wu (x4Q P e) fun z=>Wr (cond (Nat.ble 1 i.size) (cond (Nat.ble 1 i.bytes) (Nat.beq z.length i.size) false) false) ⟨fun T H n=>Vr (lenS (ev T x)) fun k=>Vr (x6M H i.size (ev T x)) fun new=>We (cond (WF new) (Nat.beq new.length (Nat.mul k i.size)) false) (appTo H n i.size e k new (fun m=>Nat.ble (Nat.mul m i.bytes) 1099511627776) (ev T s))⟩)
def z6V:GB->GA Nat|.int _ (.ofNat n)=>some n|_=>none
def x6V (d:Nat):GA GB->GA Nat|some v=>z6V v|none=>some d
def y8N (len cap:Nat)(lo hi:GA GB)(f:Nat->Nat->OR):OR:=Vr (x6V 0 lo) fun l=>Vr (x6V len hi) fun h=>We (cond (Nat.ble l h) (Nat.ble h cap) false) (f l h)
def slKn (sz:Nat)(a:Addr)(len cap:Nat)(lo hi:GA GB)(H:Hp)(n:Nat):OR:=We (Nat.ble cap 1099511627776)<|y8N len cap lo hi fun l h=>.ok (.slice (some (cond (Nat.beq cap l) a ⟨a.block,Nat.add a.off (Nat.mul l sz),none⟩)) (Nat.sub h l) (Nat.sub cap l)) H n
def slUnk (sz:Nat)(a:Addr)(len:Nat)(lo hi:GA GB)(H:Hp)(n:Nat):OR:=y8N len len lo hi fun l h=>cond (Nat.beq l 0) (.ok (.slice (some a) h Uu) H n) (We (cond (Nat.ble (Nat.succ l) len) (Nat.ble 1 sz) false) (.ok (.slice (some ⟨a.block,Nat.add a.off (Nat.mul l sz),none⟩) (Nat.sub h l) Uu) H n))
def x9Y:GA TypeDesc->Bool|some .string=>true|_=>false
def y9S (v:GB)(f:ByteArray->OR):OR:=match v with|.string s=>f s|_=>.bad
def z8Q (P:GF)(t:GD)(x:GC)(lo hi:GA GC):CO:=cond (x9Y (P.underlying t)) ⟨fun T H n=>y9S (ev T x) fun s=>y8N s.size s.size (lo.map (ev T)) (hi.map (ev T)) fun l h=>.ok (.string (s.extract l h)) H n⟩ (match y9A (P.underlying t)with|some p=>Wu (Yh P p.2) fun sz=>⟨fun T H n=>x6R (ev T x) fun a=>slKn sz a p.1 p.1 (lo.map (ev T)) (hi.map (ev T)) H n⟩|none=>Wu (x2X (P.underlying t)) fun e=>Wu (Yh P e) fun sz=>⟨fun T H n=>onSl (ev T x) fun a len cap=>cond (Nat.beq cap Uu) (slUnk sz a len (lo.map (ev T)) (hi.map (ev T)) H n) (slKn sz a len cap (lo.map (ev T)) (hi.map (ev T)) H n)⟩)
inductive EqK where|ptr|slice|func|iface|other
def eqK:GA TypeDesc->EqK|some (.pointer _)=>.ptr|some (.slice _)=>.slice|some (.func _ _ _)=>.func|some (.interface _)=>.iface|_=>.other
def eqOp:EqK->GB->GB->GA Bool|.ptr,.pointer (some _),.pointer none=>some false|.ptr,.pointer none,.pointer (some _)=>some false|.slice,.slice (some _) _ _,.slice none _ _=>some false|.slice,.slice none _ _,.slice (some _) _ _=>some false|.func,.func _ _ _,.nilFunc=>some false|.func,.nilFunc,.func _ _ _=>some false|.iface,.iface _ _,.nilIface=>some false|.iface,.nilIface,.iface _ _=>some false|_,_,_=>none
def Yb (P:GF)(T:Tm)(H:Hp)(n:Nat)(o:Oper):OR:=match UG P (execOp (ev T) o)with|some (.value v)=>We (plain v) (.ok v H n)|_=>.bad
def y7R (n:Int)(H:Hp)(k:Nat)(els:OR):OR:=match n with|.ofNat m=>cond (Nat.ble m 9223372036854775807) (.ok (.int .i64 (.ofNat m)) H k) els|.negSucc m=>cond (Nat.ble m 9223372036854775807) (.ok (.int .i64 (.negSucc m)) H k) els
def evEq (P:GF)(t:GD)(op:BinOp)(x y:GB)(H:Hp)(n:Nat):OR:=Vr (eqOp (eqK (P.underlying t)) x y) fun b=>match op with|.eql=>.ok (.bool b) H n|.neq=>.ok (.bool (!b)) H n|_=>.bad
def GY (P:GF)(T:Tm)(H:Hp)(n:Nat)(o:Oper)(op:BinOp)(t:GD)(x y:GB):OR:=cond (cond (plain x) (plain y) false) (Yb P T H n o) (evEq P t op x y H n)
def x3Y (x y:GB)(f:Int->Int->OR)(els:OR):OR:=match x,y with|.int .i64 a,.int .i64 b=>f a b|_,_=>els
def y3Z (P:GF)(o:Oper)(t:GD)(x y:GC):BinOp->CO|.add=>⟨fun T H n=>x3Y (ev T x) (ev T y) (fun a b=>y7R (a+b) H n (GY P T H n o .add t (ev T x) (ev T y))) (GY P T H n o .add t (ev T x) (ev T y))⟩|.sub=>⟨fun T H n=>x3Y (ev T x) (ev T y) (fun a b=>y7R (a-b) H n (GY P T H n o .sub t (ev T x) (ev T y))) (GY P T H n o .sub t (ev T x) (ev T y))⟩|.mul=>⟨fun T H n=>x3Y (ev T x) (ev T y) (fun a b=>y7R (a*b) H n (GY P T H n o .mul t (ev T x) (ev T y))) (GY P T H n o .mul t (ev T x) (ev T y))⟩|.eql=>⟨fun T H n=>x3Y (ev T x) (ev T y) (fun a b=>.ok (.bool (a==b)) H n) (GY P T H n o .eql t (ev T x) (ev T y))⟩|.neq=>⟨fun T H n=>x3Y (ev T x) (ev T y) (fun a b=>.ok (.bool (a !=b)) H n) (GY P T H n o .neq t (ev T x) (ev T y))⟩|.lss=>⟨fun T H n=>x3Y (ev T x) (ev T y) (fun a b=>.ok (.bool (decide (a<b))) H n) (GY P T H n o .lss t (ev T x) (ev T y))⟩|.leq=>⟨fun T H n=>x3Y (ev T x) (ev T y) (fun a b=>.ok (.bool (decide (a<=b))) H n) (GY P T H n o .leq t (ev T x) (ev T y))⟩|.gtr=>⟨fun T H n=>x3Y (ev T x) (ev T y) (fun a b=>.ok (.bool (decide (a>b))) H n) (GY P T H n o .gtr t (ev T x) (ev T y))⟩|.geq=>⟨fun T H n=>x3Y (ev T x) (ev T y) (fun a b=>.ok (.bool (decide (a≥b))) H n) (GY P T H n o .geq t (ev T x) (ev T y))⟩|op=>⟨fun T H n=>GY P T H n o op t (ev T x) (ev T y)⟩
def x5G (l:List GB):GA (GS):=List.rec (some []) (fun v _ ih=>match v with|.int .u8 n=>ih.map fun r=>UInt8.ofNat n.toNat::r|_=>none) l
def VA:GA TypeDesc->Bool|some (.int .u8)=>true|_=>false
def v3C (v:GB)(f:Addr->Nat->OR)(els:OR):OR:=match v with|.slice (some a) l _=>f a l|_=>els
def y1T (P:GF)(s d:GD)(x:GC)(e:GD):CO:=Wr (cond (VA (P.underlying e)) (match Yh P e with|some k=>Nat.beq k 1|none=>false) false) (cond (x9Y (P.underlying s)) ⟨fun T H n=>y9S (ev T x) fun b=>newS H n (b.data.toList.map fun c=>.int .u8 c.toNat) e b.size Uu⟩ (Wr (cond (Nat.beq s d) (match x2X (P.underlying s)with|some e'=>Nat.beq e' e|none=>false) false) ⟨fun T H n=>onSl (ev T x) fun a l c=>Vr (Yc H a.block) fun _=>.ok (.slice (some a) l c) H n⟩))
def x4N (P:GF)(o:Oper)(s d:GD)(x:GC):CO:=cond (x9Y (P.underlying d)) (match x2X (P.underlying s)with|some e=>Wr (VA (P.underlying e)) ⟨fun T H n=>v3C (ev T x) (fun a len=>Vr (Yc H a.block) fun p=>Vr (cut p.1 a.off len) fun r=>Vr (x5G r) fun bs=>.ok (.string ⟨bs.toArray⟩) H n) (We (plain (ev T x)) (Yb P T H n o))⟩|none=>⟨fun T H n=>We (plain (ev T x)) (Yb P T H n o)⟩) (match x2X (P.underlying d)with|some e=>y1T P s d x e|none=>⟨fun T H n=>We (plain (ev T x)) (Yb P T H n o)⟩)
def cLen (P:GF)(o:Oper)(t:GD)(x:GC):CO:=match x2X (P.underlying t)with|some _=>⟨fun T H n=>match ev T x with|.slice _ k _=>.ok (.int .i64 k) H n|_=>.bad⟩|none=>⟨fun T H n=>We (plain (ev T x)) (Yb P T H n o)⟩
def allX (T:Tm)(l:List GC):Bool:=List.rec true (fun x _ ih=>cond (plain (ev T x)) ih false) l
def x7Z (P:GF)(o:Oper)(args:List GC)(ts:List GD):Builtin->CO|.len=>(match args,ts with|[x],[t]=>cLen P o t x|_,_=>z3Y)|.append=>(match args,ts with|[s,x],[st,xt]=>y8G P st xt s x|_,_=>z3Y)|.max|.min=>⟨fun T H n=>We (allX T args) (Yb P T H n o)⟩|_=>z3Y
def u5P:GA KM->GA (ByteArray×Nat)|some (.iter s p)=>some (s,p)|_=>none
def v3N (s:ByteArray)(p:Nat)(H:Hp)(n b:Nat):OR:=cond (Nat.ble (Nat.succ p) s.size) (.ok (.tuple #[.bool true,.int .i64 p,.int .i32 (Utf8.decode s p).1]) (VQ H b (.iter s (Nat.add p (Utf8.decode s p).2))) n) (.ok (.tuple #[.bool false]) H n)
def u6U (P:GF)(t:GD)(x:GC):CO:=Wr (x9Y (P.underlying t)) ⟨fun T H n=>y9S (ev T x) fun s=>.ok (.pointer (some ⟨n,0,none⟩)) (VQ H n (.iter s 0)) (Nat.succ n)⟩
def cNext (it:GC):CO:=⟨fun T H n=>x6R (ev T it) fun a=>We (Nat.beq a.off 0) (Vr (u5P (VJ H a.block)) fun p=>v3N p.1 p.2 H n a.block)⟩
def YB (P:GF)(o:Oper):CO:=match o.op with|.move x=>⟨fun T H n=>.ok (ev T x) H n⟩|.assign x=>⟨fun T H n=>.ok (ev T x) H n⟩|.pick c a b=>⟨fun T H n=>z6N (ev T c) fun t=>.ok (cond t (ev T a) (ev T b)) H n⟩|.alloc e=>Wu (x4Q P e) fun z=>⟨fun _ H n=>newB H n z e⟩|.box e x=>⟨fun T H n=>newB H n (ev T x).cells.toList e⟩|.build t ps=>z8S P t ps.toList|.buildSlice t len ps=>x5W P t len ps.toList|.load t a=>z8R P t a|.store t a x=>u6T P t a x|.nilCheck x=>⟨fun T H n=>x6R (ev T x) fun a=>.ok (.pointer (some a)) H n⟩|.makeInterface t x=>(match eqK (P.underlying t)with|.iface=>z3Y|_=>Wu (P.underlying t) fun _=>⟨fun T H n=>.ok (.iface t (ev T x)) H n⟩)|.makeFunc (.func f) first captured=>⟨fun T H n=>.ok (.func (.func f) (first.map (ev T)) (captured.map (ev T))) H n⟩|.makeSlice t l c=>x7J P t l c|.slice t x lo hi none=>z8Q P t x lo hi|.fieldAddr s x f=>x9T P s x f|.field s x f=>u6V P s x f|.indexAddr t x ix=>x3H P t x ix|.extract t ix=>⟨fun T H n=>v3B (ev T t) fun vs=>Vr (VF vs ix) fun v=>.ok v H n⟩|.call {callee:=.builtin b,args,argTypes}=>x7Z P o args.toList argTypes.toList b|.convert s d x=>x4N P o s d x|.binOp op t x y _=>y3Z P o t x y op|.unOp _ _ x=>⟨fun T H n=>We (plain (ev T x)) (Yb P T H n o)⟩|.index _ x i=>⟨fun T H n=>We (cond (plain (ev T x)) (plain (ev T i)) false) (Yb P T H n o)⟩|.range t x=>u6U P t x|.next it true=>cNext it|_=>z3Y
inductive Ex where|normal|exit (id:Nat)|ret|goto (l:Nat)
inductive Task where
 |code (rd:GA Nat) (fn:FuncId) (sz:Nat) (c:Code) (T:Tm)
 |call (f:FuncId) (args:List GB)
 |yield (l:Nat) (args:List GB)
inductive R where
 |ok (ex:Ex) (T:Tm) (H:Hp) (n:Nat)
 |bad
def put (T:Tm):GA Tmp->GB->Tm|some d,v=>tset T d v|none,_=>T
def y3K:R->OR|.ok _ T H n=>.ok (Um T 0) H n|.bad=>.bad
def y4J (self:Task->Hp->Nat->R)(H:Hp)(n:Nat)(args:List GB):GB->OR|.func (.func g) first cap=>y3K (self (.call g (first.toList++args++cap.toList)) H n)|.func (.yield l) _ _=>y3K (self (.yield l args) H n)|_=>.bad
inductive CK where
 |op (f:Tm->Hp->Nat->OR)
 |call (f:GC) (args:List GC)
 |bad
structure CI where
 guard:GA (Tmp×Bool)
 dst:GA Tmp
 k:CK
def x5Y (l:List GC):Bool:=List.rec true (fun x _ ih=>cond (Vp x) ih false) l
def x6B (P:GF)(o:Oper):CK:=match o.op with|.call {callee:=.value f,args,..}=>cond (cond (Vp f) (x5Y args.toList) false) (.call f args.toList) .bad|op=>cond (x5Y op.operands.toList) (match YB P o with|⟨f⟩=>.op f) .bad
def y9V (sz:Nat):GA Tmp->Bool|some d=>Nat.ble (Nat.succ d) sz|none=>true
def Wv (P:GF)(sz:Nat)(all:List Oper)(o:Oper):CI:=cond (y9V sz o.dst) (match o.guard with|none=>⟨none,o.dst,x6B P o⟩|some (j,want)=>match(VF all j).bind (·.dst)with|some t=>⟨some (t,want),o.dst,x6B P o⟩|none=>⟨none,o.dst,.bad⟩) ⟨none,o.dst,.bad⟩
def y4B (self:Task->Hp->Nat->R)(T:Tm)(H:Hp)(n:Nat):CK->OR|.op f=>f T H n|.call f args=>y4J self H n (args.map (ev T)) (ev T f)|.bad=>.bad
def GZ (self:Task->Hp->Nat->R)(T:Tm)(H:Hp)(n:Nat)(c:CI):OR:=match c.guard with|none=>y4B self T H n c.k|some (t,want)=>match Um T t with|.bool b=>cond (cond want b (!b)) (y4B self T H n c.k) (.ok undef H n)|_=>.ok undef H n
def nextO (d:GA Tmp)(T:Tm)(ih:Tm->Hp->Nat->R):OR->R|.ok v H n=>ih (put T d v) H n|.bad=>.bad
def y6C (P:GF)(self:Task->Hp->Nat->R)(sz:Nat)(all:List Oper)(ops:List Oper):Tm->Hp->Nat->R:=List.rec (fun T H n=>.ok .normal T H n) (fun o _ ih T H n=>match Wv P sz all o with|c=>nextO c.dst T ih (GZ self T H n c)) ops
def tb (m i:Nat):Bool:=Nat.beq (Nat.mod (Nat.shiftRight m i) 2) 1
def Wa (i:Nat):Nat:=Nat.shiftLeft 1 i
def sub (a b:Nat):Bool:=Nat.beq (Nat.land a b) a
def VP (l:List Nat):Nat->Nat:=List.rec (fun _=>0) (fun x _ ih n=>Nat.casesOn n x (fun m=>ih m)) l
def x6J (acc:List Nat)(es:List Edge):Nat:=List.rec 0 (fun e _ ih=>cond (Region.binds .any e) (Nat.lor (Nat.lor (Wa e.on) (VP acc e.on)) ih) ih) es
def x9Z (ops:List Oper):List Nat->List Nat:=List.rec (fun acc=>acc) (fun o _ ih acc=>ih (acc++[x6J acc o.after.toList])) ops
def tmpOf:GC->GA Tmp|.tmp t=>some t|_=>none
def looks (all:List Oper)(o:Oper):List Tmp:=(match o.guard with|some (j,_)=>((VF all j).bind (·.dst)).toList|none=>[])++o.op.operands.toList.filterMap tmpOf
inductive Kd where|free|load|eff
def kdOf (P:GF):Op->Kd|.load _ _=>.load|.store _ _ _=>.eff|.call {callee:=.value _,..}=>.eff|.call {callee:=.invoke _ _,..}=>.eff|.call {callee:=.builtin .append,..}=>.eff|.call {callee:=.builtin .copy,..}=>.eff|.convert s _ _=>(match x2X (P.underlying s)with|some _=>.load|none=>.free)|_=>.free
def isEff (P:GF)(o:Op):Bool:=match kdOf P o with|.eff=>true|_=>false
def isLoad (P:GF)(o:Op):Bool:=match kdOf P o with|.load=>true|_=>false
def v4S (p:Op->Bool)(ops:List Oper):Nat->Nat:=List.rec (fun _=>0) (fun o _ ih i=>cond (p o.op) (Nat.lor (Wa i) (ih (Nat.succ i))) (ih (Nat.succ i))) ops
def u5L (P:GF)(D:List Nat)(ops:List Oper):Nat->Nat:=List.rec (fun _=>0) (fun o _ ih i=>cond (isLoad P o.op) (Nat.lor (Nat.lor (Wa i) (VP D i)) (ih (Nat.succ i))) (ih (Nat.succ i))) ops
def pickM (p:Nat->Bool)(done m:Nat):List Nat:=(List.range m).filter fun i=>cond (tb done i) false (p i)
def maskL (l:List Nat):Nat:=List.rec 0 (fun i _ ih=>Nat.lor (Wa i) ih) l
def orderL (D:List Nat)(E L m:Nat)(effs:List Nat):Nat->Nat->List Nat:=List.rec (fun done _=>pickM (fun _=>true) done m) (fun e _ ih done prev=>match pickM (fun i=>cond (Nat.beq i e) false (cond (tb (VP D e) i) true (cond (tb L i) (sub (Nat.land (VP D i) E) prev) false))) done m with|now=>now++e::ih (Nat.lor (Nat.lor done (maskL now)) (Wa e)) (Nat.lor prev (Wa e))) effs
structure PI where
 i:Nat
 D:Nat
 kd:Kd
 c:CI
def y2H (D:List Nat)(m:Nat)(ord:List Nat):Nat->Bool:=List.rec (fun done=>Nat.beq done (Nat.sub (Wa m) 1)) (fun i _ ih done=>cond (cond (Nat.ble (Nat.succ i) m) (cond (tb done i) false (sub (VP D i) done)) false) (ih (Nat.lor done (Wa i))) false) ord
def dstNe:GA Tmp->GA Tmp->Bool|some a,some b=>!(Nat.beq a b)|_,_=>true
def inL (t:Nat)(l:List Nat):Bool:=List.rec false (fun x _ ih=>cond (Nat.beq x t) true ih) l
def dstIn (d:GA Tmp)(l:List Tmp):GA Tmp:=match d with|some t=>cond (inL t l) (some t) none|none=>none
def u4Y (D:List Nat)(i j:Nat)(di dj:GA Tmp)(li:List Tmp):Bool:=cond (Nat.beq i j) true (cond (dstNe di dj) (match dj with|some t=>cond (inL t li) (cond (tb (VP D i) j) true (tb (VP D j) i)) true|none=>true) false)
def u7U (D:List Nat)(i:Nat)(di:GA Tmp)(li:List Tmp)(ops:List Oper):Nat->Bool:=List.rec (fun _=>true) (fun o _ ih j=>cond (u4Y D i j di o.dst li) (ih (Nat.succ j)) false) ops
def y2G (D:List Nat)(all:List Oper)(ops:List Oper):Nat->Bool:=List.rec (fun _=>true) (fun o _ ih i=>cond (u7U D i o.dst (looks all o) all 0) (ih (Nat.succ i)) false) ops
def y7C (P:GF)(sz:Nat)(all:List Oper)(D:List Nat)(ord:List Nat):List PI:=List.rec [] (fun i _ ih=>match VF all i with|some o=>⟨i,VP D i,kdOf P o.op,Wv P sz all o⟩::ih|none=>ih) ord
def u4W (P:GF)(sz:Nat)(all:List Oper)(D ord:List Nat):GA (List PI):=cond (cond (y2H D all.length ord 0) (y2G D all all 0) false) (some (y7C P sz all D ord)) none
def y1B (P:GF)(sz:Nat)(all:List Oper):GA (List PI):=match x9Z all []with|D=>match v4S (isEff P) all 0 with|E=>u4W P sz all D (orderL D E (u5L P D all 0) all.length ((List.range all.length).filter (tb E)) 0 0)
def Yk:GB->GB->Bool|.bool a,.bool b=>cond a b (!b)|.int k a,.int l b=>cond (decide (k=l)) (decide (a=b)) false|.string a,.string b=>decide (a.data.toList=b.data.toList)|.pointer none,.pointer none=>true|.pointer (some ⟨a,i,none⟩),.pointer (some ⟨b,j,none⟩)=>cond (Nat.beq a b) (Nat.beq i j) false|.slice none a i,.slice none b j=>cond (Nat.beq a b) (Nat.beq i j) false|.slice (some ⟨a,i,none⟩) l c,.slice (some ⟨b,j,none⟩) m d=>cond (cond (Nat.beq a b) (Nat.beq i j) false) (cond (Nat.beq l m) (Nat.beq c d) false) false|.nilFunc,.nilFunc=>true|.nilIface,.nilIface=>true|_,_=>false
def YJ (l:List GB):List GB->Bool:=List.rec (fun m=>List.casesOn m true (fun _ _=>false)) (fun x _ ih m=>List.casesOn m false (fun y m=>cond (Yk x y) (ih m) false)) l
def veq:GB->GB->Bool|.agg a,.agg b=>YJ a.toList b.toList|.func (.func f) a b,.func (.func g) c d=>cond (Nat.beq f g) (cond (YJ a.toList c.toList) (YJ b.toList d.toList) false) false|.func (.yield f) a b,.func (.yield g) c d=>cond (Nat.beq f g) (cond (YJ a.toList c.toList) (YJ b.toList d.toList) false) false|.tuple a,.tuple b=>YJ a.toList b.toList|a,b=>Yk a b
structure Wt where
 i:Nat
 c:CI
 T:Tm
 v:GB
def wtOk (self:Task->Hp->Nat->R)(D:Nat)(H:Hp)(n:Nat)(x:Wt):Bool:=cond (tb D x.i) true (match GZ self x.T H n x.c with|.ok v _ _=>veq x.v v|.bad=>false)
def y9M (self:Task->Hp->Nat->R)(D:Nat)(H:Hp)(n:Nat)(W:List Wt):Bool:=List.rec true (fun x _ ih=>cond (wtOk self D H n x) ih false) W
def joinH (H H':Hp)(n n':Nat):GA Hp:=cond (Nat.beq n' n) (some H) (cond (Nat.beq n' (Nat.succ n)) ((VJ H' n).map fun o=>VQ H n o) none)
structure DS where
 T:Tm
 H:Hp
 n:Nat
 K:Hp
 E:Nat
 A:Nat
 W:List Wt
def y1M (x:PI)(s:DS):OR->GA DS|.ok v H' n'=>(joinH s.H H' s.n n').map fun H''=> {s with T:=put s.T x.c.dst v,H:=H'',n:=n',A:=cond (Nat.beq n' s.n) s.A (Nat.lor s.A (Wa x.i))}|.bad=>none
def y5C (x:PI)(s:DS):OR->GA DS|.ok v _ _=>cond (sub s.E x.D) (some {s with T:=put s.T x.c.dst v,W:=⟨x.i,x.c,s.T,v⟩::s.W}) none|.bad=>none
def z3X (self:Task->Hp->Nat->R)(x:PI)(s:DS):OR->GA DS|.ok v H' n'=>cond (cond (sub s.E x.D) (cond (sub s.A x.D) (y9M self x.D H' n' s.W) false) false) (some {s with T:=put s.T x.c.dst v,H:=H',n:=n',K:=H',E:=Nat.lor s.E (Wa x.i)}) none|.bad=>none
def x2U (self:Task->Hp->Nat->R)(x:PI)(s:DS):GA DS:=match x.kd with|.free=>y1M x s (GZ self s.T .leaf s.n x.c)|.load=>y5C x s (GZ self s.T s.K s.n x.c)|.eff=>z3X self x s (GZ self s.T s.H s.n x.c)
def EV (self:Task->Hp->Nat->R)(l:List PI):DS->R:=List.rec (fun s=>.ok .normal s.T s.H s.n) (fun x _ ih s=>match x2U self x s with|some s=>ih s|none=>.bad) l
def u0A (self:Task->Hp->Nat->R)(T:Tm)(H:Hp)(n:Nat):GA (List PI)->R|some l=>EV self l ⟨T,H,n,H,0,0,[]⟩|none=>.bad
def z5W (P:GF)(H:Hp)(t:GD)(a:Addr):GA GB:=(Yc H a.block).bind fun p=>cond (Yu (P.underlying t)) ((Yh P t).bind fun n=>(cut p.1 a.off n).map x5Z) ((P.underlying t).bind fun _=>VF p.1 a.off)
def v0Q:GB->GA Addr|.pointer (some a)=>some a|_=>none
def UT (P:GF)(T:Tm)(H:Hp)(l:List ResultVar):GA (List GB):=List.rec (some []) (fun r _ ih=>match r with|.tmp t=>ih.map fun vs=>Um T t::vs|.cell a t=>(v0Q (Um T a)).bind fun a=>(z5W P H t a).bind fun v=>ih.map fun vs=>v::vs) l
def one (v:GB):Tm:=.node .leaf v .leaf
def x5K (sz:Nat)(ts:List Tmp):List GB->Tm->GA Tm:=List.rec (fun vs T=>List.casesOn vs (some T) (fun _ _=>none)) (fun t _ ih vs T=>List.casesOn vs none (fun v vs=>cond (Nat.ble (Nat.succ t) sz) (ih vs (tset T t v)) none)) ts
def y2Z (vs:List GB):Nat->Tm->Tm:=List.rec (fun _ T=>T) (fun v _ ih k T=>ih (Nat.succ k) (tset T k v)) vs
def seqK (self:Task->Hp->Nat->R)(rd:GA Nat)(fn:FuncId)(sz:Nat)(b:Code):R->R|.ok .normal T H n=>self (.code rd fn sz b T) H n|r=>r
def u6X (id:Nat):R->R|.ok (.exit i) T H n=>cond (Nat.beq i id) (.ok .normal T H n) (.ok (.exit i) T H n)|r=>r
def v6Z (self:Task->Hp->Nat->R)(rd:GA Nat)(fn:FuncId)(sz:Nat)(a b:Code)(T:Tm)(H:Hp)(n:Nat):GB->R|.bool t=>self (.code rd fn sz (cond t a b) T) H n|_=>.bad
def retK (H:Hp)(n:Nat):GA (List GB)->R|some [v]=>.ok .ret (one v) H n|some vs=>.ok .ret (one (.tuple vs.toArray)) H n|none=>.bad
def callK (P:GF)(fn:Func):R->R|.ok .normal T H n=>retK H n (UT P T H fn.results.toList)|.ok .ret T H n=>retK H n (UT P T H fn.results.toList)|_=>.bad
def v4X:GA KM->GA KL|some (.loop r)=>some r|_=>none
def x8F (H:Hp)(l:Nat):GA KL:=v4X (VJ H l)
def Vs {α:Type}(o:GA α)(f:α->R):R:=match o with|some a=>f a|none=>.bad
def rangeD (H:Hp)(n:Nat):GA Nat->GA (Nat×Hp×Nat)|some l=>(x8F H l).map fun r=>(r.defers,H,n)|none=>some (n,VQ H n .defd,Nat.succ n)
def z5Z (self:Task->Hp->Nat->R)(H:Hp)(n lp:Nat):GB->R|.func (.func g) first cap=>self (.call g (first.toList++(.func (.yield lp) #[] #[])::cap.toList)) H n|_=>.bad
def z5Y (self:Task->Hp->Nat->R)(rd:GA Nat)(fn:FuncId)(sz:Nat)(T:Tm)(H:Hp)(n:Nat):GA Code->R|none=>.ok .normal T H n|some c=>self (.code rd fn sz c T) H n
def notBusy:LoopState->Bool|.busy=>false|_=>true
def u1A:LoopState->Bool|.ready=>true|_=>false
def u4S (self:Task->Hp->Nat->R)(rd:GA Nat)(fn:FuncId)(sz:Nat)(T:Tm)(lp:Nat):R->R|.ok _ _ H n=>Vs (x8F H lp) fun r=>cond (notBusy r.state) (z5Y self rd fn sz T (VQ H lp (.loop {r with state:=.exhausted})) n r.pending) .bad|.bad=>.bad
def y6E (self:Task->Hp->Nat->R)(rd:GA Nat)(fn:FuncId)(sz:Nat)(T:Tm)(H:Hp)(n:Nat)(f:GC)(ps:List Tmp)(assign body:Code):R:=cond (Vp f) (Vs (rangeD H n rd) fun q=>u4S self rd fn sz T q.2.2 (z5Z self (VQ q.2.1 q.2.2 (.loop ⟨.ready,none,fn,T,ps,assign,body,q.1,sz⟩)) (Nat.succ q.2.2) q.2.2 (ev T f))) .bad
def x7Q (l:Nat)(H:Hp)(n:Nat)(j:GA Code):R:=Vs (x8F H l) fun r=>.ok .ret (one (.bool j.isNone)) (VQ H l (.loop {r with state:=cond j.isNone .ready .done,pending:=j})) n
def y4K (l:Nat):R->R|.ok .normal _ H n=>x7Q l H n none|.ok .ret _ H n=>x7Q l H n (some .ret)|.ok (.exit id) _ H n=>x7Q l H n (some (.exit id))|.ok (.goto g) _ H n=>x7Q l H n (some (.goto g))|.bad=>.bad
def v2M (self:Task->Hp->Nat->R)(l:Nat)(fn:FuncId)(sz:Nat)(body:Code):R->R|.ok .normal T H n=>Vs (x8F H l) fun r=>cond (u1A r.state) (y4K l (self (.code (some l) fn sz body T) (VQ H l (.loop {r with state:=.busy})) n)) .bad|_=>.bad
def y5K (self:Task->Hp->Nat->R)(l:Nat)(args:List GB)(H:Hp)(n:Nat):R:=Vs (x8F H l) fun r=>Vs (x5K r.sz r.params args r.T) fun T=>v2M self l r.fn r.sz r.body (self (.code (some l) r.fn r.sz r.assign T) H n)
def y5D (P:GF)(self:Task->Hp->Nat->R)(rd:GA Nat)(fn:FuncId)(sz:Nat)(T:Tm)(H:Hp)(n:Nat)(c:Code):R:=match c with|.skip=>.ok .normal T H n|.label _=>.ok .normal T H n|.seq a b=>seqK self rd fn sz b (self (.code rd fn sz a T) H n)|.cond c a b=>cond (Vp c) (v6Z self rd fn sz a b T H n (ev T c)) .bad|.block id b=>u6X id (self (.code rd fn sz b T) H n)|.loop b=>seqK self rd fn sz (.loop b) (self (.code rd fn sz b T) H n)|.exit id=>.ok (.exit id) T H n|.ret=>.ok .ret T H n|.region _ ops false=>y6C P self sz ops.toList ops.toList T H n|.region _ ops true=>u0A self T H n (y1B P sz ops.toList)|.rangeFunc f ps assign body=>y6E self rd fn sz T H n f ps.toList assign body|_=>.bad
abbrev Kl:=FuncId->List GB->GA GB
def hookK (H:Hp)(n:Nat)(k:R):GA GB->R|some v=>.ok .ret (one v) H n|none=>k
def z4A (P:GF)(hk:Kl)(self:Task->Hp->Nat->R)(f:FuncId)(args:List GB)(H:Hp)(n:Nat):R:=hookK H n (Vs (P.funcs[f]?) fun fn=>Vs fn.body fun c=>cond (Nat.ble args.length fn.ntmps) (callK P fn (self (.code none f fn.ntmps c (y2Z args 0 .leaf)) H n)) .bad) (hk f args)
def step (P:GF)(hk:Kl)(self:Task->Hp->Nat->R)(t:Task)(H:Hp)(n:Nat):R:=match t with|.code rd fn sz c T=>y5D P self rd fn sz T H n c|.call f args=>z4A P hk self f args H n|.yield l args=>y5K self l args H n
def run (P:GF)(hk:Kl)(k:Nat):Task->Hp->Nat->R:=Nat.rec (fun _ _ _=>.bad) (fun _ ih=>step P hk ih) k
def v3L:Kl:=fun _ _=>none
section map
variable {α:Type} (d:α)
theorem Tr.get_leaf (n:Nat):Tr.get d (.leaf:Tr α) n=d:=rfl
theorem Tr.get_node (l r:Tr α)(o:α)(n:Nat):Tr.get d (.node l o r) n=cond (Nat.beq n 0) o (cond (Nat.beq (n%2) 1) (Tr.get d l (n/2)) (Tr.get d r (n/2-1))):=rfl
theorem Tr.set_leaf (f n:Nat)(o:α):Tr.set d (f+1) .leaf n o=cond (Nat.beq n 0) (.node .leaf o .leaf) (cond (Nat.beq (n%2) 1) (.node (Tr.set d f .leaf (n/2) o) d .leaf) (.node .leaf d (Tr.set d f .leaf (n/2-1) o))):=rfl
theorem Tr.set_node (f n:Nat)(o:α)(l r:Tr α)(x:α):Tr.set d (f+1) (.node l x r) n o=cond (Nat.beq n 0) (.node l o r) (cond (Nat.beq (n%2) 1) (.node (Tr.set d f l (n/2) o) x r) (.node l x (Tr.set d f r (n/2-1) o))):=rfl
theorem x0J {a b:Nat}(h:a≠b):Nat.beq a b=false:=by cases hb:Nat.beq a b;{rfl};exact absurd (Ju hb) h
theorem x0T {a b:Nat}(h:a=b):Nat.beq a b=true:=by subst h;exact Qa a
theorem Tr.get_set (o:α):∀(f:Nat) (t:Tr α) (n m:Nat),n<f->Tr.get d (Tr.set d f t n o) m=if m=n then o else Tr.get d t m:=by intro f;induction f with|zero=>{intro t n m h;omega}|succ f ih=>intro t n m h;cases t with|leaf=>{rw[Tr.set_leaf];by_cases hn:n=0;{subst hn;simp only[x0T rfl,Jz,Tr.get_node,Tr.get_leaf];by_cases hm:m=0;{simp[hm]};simp[x0J hm,hm]};rw[x0J hn];by_cases h1:n%2=1;{rw[x0T h1];simp only[Jk,Jz,Tr.get_node,Tr.get_leaf];by_cases hm:m=0;{subst hm;simp;intro h0;omega};rw[x0J hm];by_cases cE:m%2=1;{rw[x0T cE];simp only[Jk,Jz];rw[ih _ _ _ (by omega)];by_cases e:m=n;{subst e;simp};rw[JZ e,JZ (by omega),Tr.get_leaf]};rw[x0J cE];simp only[Jk];rw[JZ (by omega)]};rw[x0J h1];simp only[Jk,Tr.get_node,Tr.get_leaf];by_cases hm:m=0;{subst hm;simp;intro h0;omega};rw[x0J hm];by_cases cE:m%2=1;{rw[x0T cE];simp only[Jk,Jz];rw[JZ (by omega)]};rw[x0J cE];simp only[Jk];rw[ih _ _ _ (by omega)];by_cases e:m=n;{subst e;simp};rw[JZ e,JZ (by omega),Tr.get_leaf]}|node l x r=>rw[Tr.set_node];by_cases hn:n=0;{subst hn;simp only[x0T rfl,Jz,Tr.get_node];by_cases hm:m=0;{simp[hm]};simp[x0J hm,hm]};rw[x0J hn];by_cases h1:n%2=1;{rw[x0T h1];simp only[Jk,Jz,Tr.get_node];by_cases hm:m=0;{subst hm;simp;intro h0;omega};rw[x0J hm];by_cases cE:m%2=1;{rw[x0T cE];simp only[Jk,Jz];rw[ih _ _ _ (by omega)];by_cases e:m=n;{subst e;simp};rw[JZ e,JZ (by omega)]};rw[x0J cE];simp only[Jk];rw[JZ (by omega)]};rw[x0J h1];simp only[Jk,Tr.get_node];by_cases hm:m=0;{subst hm;simp;intro h0;omega};rw[x0J hm];by_cases cE:m%2=1;{rw[x0T cE];simp only[Jk,Jz];rw[JZ (by omega)]};rw[x0J cE];simp only[Jk];rw[ih _ _ _ (by omega)];by_cases e:m=n;{subst e;simp};rw[JZ e,JZ (by omega)]
end map
theorem YN (H:Hp)(n m:Nat)(o:KM):VJ (VQ H n o) m=if m=n then some o else VJ H m:=Tr.get_set none (some o) (n+1) H n m (Jh n)
theorem x8N (T:Tm)(n m:Nat)(v:GB):Um (tset T n v) m=if m=n then v else Um T m:=Tr.get_set undef v (n+1) T n m (Jh n)
theorem y1J (n:Nat):VJ .leaf n=none:=rfl
theorem v1N (n:Nat):Um .leaf n=undef:=rfl
inductive KO (R:GB->GB->Prop):List GB->List GB->Prop
 |nil:KO R [] []
 |cons {a b:GB} {l m:List GB} (h:R a b) (t:KO R l m):KO R (a::l) (b::m)
abbrev Bm:=Nat->GA (Nat×Nat)
inductive VR (β:Bm):GB->GB->Prop
 |bool (b:Bool):VR β (.bool b) (.bool b)
 |int (k:IntKind) (n:Int):VR β (.int k n) (.int k n)
 |float (k:FloatKind) (b:Nat):VR β (.float k b) (.float k b)
 |complex (k:FloatKind) (a b:Nat):VR β (.complex k a b) (.complex k a b)
 |string (s:ByteArray):VR β (.string s) (.string s)
 |nilPtr:VR β (.pointer none) (.pointer none)
 |ptr (b o:Nat) (q:Nat×Nat) (h:β b=some q):VR β (.pointer (some ⟨b,o,none⟩)) (.pointer (some ⟨q.1,o,none⟩))
 |nilSl (l c:Nat):VR β (.slice none l c) (.slice none l c)
 |sl (b o:Nat) (q:Nat×Nat) (l k k':Nat) (h:β b=some q) (hk:(k=k'/\k≠Uu)\/(k=Uu/\l<=k'/\(o=0->q.2=k'))):VR β (.slice (some ⟨b,o,none⟩) l k) (.slice (some ⟨q.1,o,none⟩) l k')
 |nilMap:VR β (.map none) (.map none)
 |nilChan:VR β (.chan none) (.chan none)
 |nilFunc:VR β .nilFunc .nilFunc
 |nilIface:VR β .nilIface .nilIface
 |func (f:FuncId) (a b c d:Array GB) (h:KO (VR β) a.toList c.toList) (h':KO (VR β) b.toList d.toList):VR β (.func (.func f) a b) (.func (.func f) c d)
 |yield (l:Nat) (q:Nat×Nat) (h:β l=some q):VR β (.func (.yield l) #[] #[]) (.func (.yield q.1) #[] #[])
 |iface (t:GD) (v w:GB) (h:VR β v w):VR β (.iface t v) (.iface t w)
 |agg (a b:Array GB) (h:KO (VR β) a.toList b.toList):VR β (.agg a) (.agg b)
 |tuple (a b:Array GB) (h:KO (VR β) a.toList b.toList):VR β (.tuple a) (.tuple b)
theorem VR.mono {β γ:Bm}{v w:GB}(h:VR β v w)(hb:∀i c,β i=some c->γ i=some c):VR γ v w:=by refine VR.rec (motive_1:=fun v w _=>VR γ v w) (motive_2:=fun l m _=>KO (VR γ) l m) ?_ ?_ ?_ ?_ ?_ ?_ ?_ ?_ ?_ ?_ ?_ ?_ ?_ ?_ ?_ ?_ ?_ ?_ ?_ ?_ h;(case refine_1=>exact fun b=>.bool b);(case refine_2=>exact fun k n=>.int k n);(case refine_3=>exact fun k b=>.float k b);(case refine_4=>exact fun k a b=>.complex k a b);(case refine_5=>exact fun s=>.string s);(case refine_6=>exact .nilPtr);(case refine_7=>exact fun b o q h=>.ptr b o q (hb _ _ h));(case refine_8=>exact fun l c=>.nilSl l c);(case refine_9=>exact fun b o q l k k' h hk=>.sl b o q l k k' (hb _ _ h) hk);(case refine_10=>exact .nilMap);(case refine_11=>exact .nilChan);(case refine_12=>exact .nilFunc);(case refine_13=>exact .nilIface);(case refine_14=>exact fun f a b c d _ _ h1 h2=>.func f a b c d h1 h2);(case refine_15=>exact fun l q h=>.yield l q (hb _ _ h));(case refine_16=>exact fun t v w _ h=>.iface t v w h);(case refine_17=>exact fun a b _ h=>.agg a b h);(case refine_18=>exact fun a b _ h=>.tuple a b h);(case refine_19=>exact .nil);case refine_20=>exact fun _ _ h1 h2=>.cons h1 h2
abbrev VL (β:Bm):=KO (VR β)
theorem KO.mono {R S:GB->GB->Prop}(h:∀a b,R a b->S a b):∀{l m:List GB},KO R l m->KO S l m|_,_,.nil=>.nil|_,_,.cons a b=>.cons (h _ _ a) (b.mono h)
theorem VL.mono {β γ:Bm}{l m:List GB}(h:VL β l m)(hb:∀i c,β i=some c->γ i=some c):VL γ l m:=KO.mono (fun _ _ x=>x.mono hb) h
theorem KO.length {R:GB->GB->Prop}:∀{l m:List GB},KO R l m->l.length=m.length|_,_,.nil=>rfl|_,_,.cons _ b=>by simp[b.length]
theorem KO.append {R:GB->GB->Prop}:∀{l m l' m':List GB},KO R l m->KO R l' m'->KO R (l++l') (m++m')|_,_,_,_,.nil,h=>h|_,_,_,_,.cons a b,h=>.cons a (b.append h)
theorem KO.get {R:GB->GB->Prop}:∀{l m:List GB},KO R l m->∀(i:Nat) (v:GB),l[i]? =some v->∃w,m[i]? =some w/\R v w|_,_,.nil,i,v,h=>by simp at h|_,_,.cons a b,0,v,h=>by simp at h;subst h;exact⟨_,rfl,a⟩|_,_,.cons a b,i+1,v,h=>by simpa using b.get i v (by simpa using h)
theorem VH {α:Type}:∀(l:List α) (n:Nat),VF l n=l[n]? |[],n=>by simp[VF]|x::l,0=>rfl|x::l,n+1=>by have:=VH l n;simp only[Qd];exact this
theorem y5R (β:Bm):VR β undef undef:=.tuple #[] #[] .nil
theorem z0M {β:Bm}:∀{v:GB},x5P v=true->VR β v v|.bool b,_=>.bool b|.int k n,_=>.int k n|.float k n,_=>.float k n|.complex k a b,_=>.complex k a b|.string s,_=>.string s|.pointer none,_=>.nilPtr|.slice none l c,_=>.nilSl l c|.map none,_=>.nilMap|.chan none,_=>.nilChan|.nilFunc,_=>.nilFunc|.nilIface,_=>.nilIface
theorem x9W {β:Bm}:∀{l:List GB},WD l=true->VL β l l|[],_=>.nil|v::l,h=>by have h':cond (x5P v) (WD l) false=true:=h;cases hv:x5P v;{rw[hv]at h';simp at h'};rw[hv]at h';exact .cons (z0M hv) (x9W h')
theorem x5N {β:Bm}{v:GB}(h:plain v=true):VR β v v:=by unfold plain at h;split at h;{exact .agg _ _ (x9W h)};{exact .tuple _ _ (x9W h)};exact z0M h
theorem z6D {β:Bm}{v w:GB}(h:x5P v=true)(r:VR β v w):w=v:=by cases r<;>first|rfl|simp[x5P]at h
theorem u3B {β:Bm}:∀{l m:List GB},WD l=true->VL β l m->m=l|_,_,_,.nil=>rfl|v::l,_,h,.cons a b=>by have h':cond (x5P v) (WD l) false=true:=h;cases hv:x5P v;{rw[hv]at h';simp at h'};rw[hv]at h';rw[z6D hv a,u3B h' b]
theorem y4N {β:Bm}{v w:GB}(h:plain v=true)(r:VR β v w):w=v:=by cases r with|agg a b hl=>{exact JV Value.agg (Jl (u3B (β:=β) h hl))}|tuple a b hl=>{exact JV Value.tuple (Jl (u3B (β:=β) h hl))}|_=>exact z6D (β:=β) (by simpa[plain]using h) (by first|assumption|(constructor<;>assumption))
theorem y8C {β:Bm}{v w:GB}(h:VR β v w):VL β v.cells.toList w.cells.toList:=by cases h with|agg a b hl=>{exact hl}|_=>exact .cons (by first|assumption|(constructor<;>assumption)) .nil
def TR (β:Bm)(T:Tm)(tmps:Array GB):Prop:=∀t,VR β (Um T t) (tmps.getD t undef)
theorem TR.mono {β γ:Bm}{T:Tm}{a:Array GB}(h:TR β T a)(hb:∀i c,β i=some c->γ i=some c):TR γ T a:=fun t=>(h t).mono hb
theorem u5X (a:Array GB)(d t:Nat)(v:GB)(h:d<a.size):(a.setIfInBounds d v).getD t undef=if t=d then v else a.getD t undef:=by by_cases e:t=d;{subst e;simp[h]};have e':¬d=t:=fun x=>e x.symm;simp[e,e']
theorem TR.set {β:Bm}{T:Tm}{a:Array GB}(h:TR β T a){d:Nat}{v w:GB}(hd:d<a.size)(hv:VR β v w):TR β (tset T d v) (a.setIfInBounds d w):=fun t=>by rw[x8N,u5X _ _ _ _ hd];split;{exact hv};exact h t
inductive ObR (P:GF) (β:Bm) (m:Nat):KM->Obj->Prop
 |cells (l l':List GB) (e:GD) (c:Array GB) (rest:List GB) (fz:Nat×Nat) (h:VL β l l') (hc:c.toList=l'++rest) (hm:∀s,Yh P e=some s->m*s<=c.size) (hz:fz=(0,0)\/c.size<=fz.1):ObR P β m (.cells l e) (.cells c e fz)
 |loop (r:KL) (q:Loop) (x:Nat×Nat) (h1:q.state=r.state) (h2:q.pending=r.pending) (h4:TR β r.T q.tmps) (h5:q.params.toList=r.params) (h6:q.assign=r.assign) (h7:q.body=r.body)
     (h8:β r.defers=some x) (mW:x.1=q.defers) (h9:q.tmps.size=r.sz):ObR P β m (.loop r) (.loop q)
 |iter (s:ByteArray) (pos:Nat):ObR P β m (.iter s pos) (.stringIter s pos)
 |defd (x:GA (List Deferred)):ObR P β m .defd (.deferred x)
 |dead (o:Obj):ObR P β m .dead o
theorem ObR.mono {P:GF}{β γ:Bm}{m:Nat}{o:KM}{q:Obj}(h:ObR P β m o q)(hb:∀i c,β i=some c->γ i=some c):ObR P γ m o q:=by cases h with|cells l l' e c rest fz h hc hm hz=>{exact .cells l l' e c rest fz (h.mono hb) hc hm hz}|loop r q x h1 h2 h4 h5 h6 h7 h8 mW h9=>{exact .loop r q x h1 h2 (h4.mono hb) h5 h6 h7 (hb _ _ h8) mW h9}|iter s pos=>{exact .iter s pos}|defd x=>{exact .defd x}|dead=>exact .dead _
abbrev Gp:=Nat->GA KM
class GT where
 tab:Nat->GA (Array GB)
variable [GT]
def Ke (w:World):Prop:=∀g cs,GT.tab g=some cs->∃e fz,w.heap[g]? =some (.cells cs e fz)
def Off (β:Bm)(G:Gp)(b:Nat):Prop:=∀i o c,G i=some o->o≠ .dead->β i=some c->c.1≠b
structure WR (P:GF) (β:Bm) (G:Gp) (w:World):Prop where
 obj:∀i o,G i=some o->∃b q,β i=some b/\w.heap[b.1]? =some q/\ObR P β b.2 o q
 inj:∀i j b c o p,G i=some o->G j=some p->o≠ .dead->p≠ .dead->β i=some b->β j=some c->b.1=c.1->i=j
 glob:Ke w
 off:∀g cs,GT.tab g=some cs->Off β G g
theorem Ke.frame {w w':World}(h:Ke w)(hf:∀g cs,GT.tab g=some cs->g<w.heap.size->w'.heap[g]? =w.heap[g]?):Ke w':=fun g cs hg=>by obtain⟨e,fz,h1⟩:=h g cs hg;exact⟨e,fz,by rw[hf g cs hg (JL.1 h1).1];exact h1⟩
theorem Ke.lt {w:World}(h:Ke w){g:Nat}{cs:Array GB}(hg:GT.tab g=some cs):g<w.heap.size:=by obtain⟨e,fz,h1⟩:=h g cs hg;exact(JL.1 h1).1
theorem Ke.congr {w w':World}(h:Ke w)(e:w'.heap=w.heap):Ke w':=fun g cs hg=>by rw[e];exact h g cs hg
structure Ka (P:GF) (β:Bm) (G:Gp) (n:Nat) (w:World) (γ:Bm) (G':Gp) (n':Nat) (w':World):Prop where
 same:∀i,(i<n\/n'<=i)->γ i=β i
 wr:WR P γ G' w'
 size:w.heap.size<=w'.heap.size
 frame:∀b,b<w.heap.size->Off β G b->w'.heap[b]? =w.heap[b]?
 orig:∀i o b,G' i=some o->o≠ .dead->γ i=some b->w.heap.size<=b.1\/∃j p c,G j=some p/\p≠ .dead/\β j=some c/\c.1=b.1
 keep:∀i,G i=some .defd->G' i=some .defd
 kept:∀i b,G i=some .defd->β i=some b->w'.heap[b.1]? =w.heap[b.1]?
 os:w'.os=w.os
 out:w'.output=w.output
 tape:w'.tape=w.tape
def Kb (β:Bm)(n n':Nat):Prop:=∀i,n<=i->i<n'->β i=none
section
variable {P:GF}
theorem Ka.le {β γ:Bm}{G G':Gp}{n n':Nat}{w w':World}(h:Ka P β G n w γ G' n' w')(hf:Kb β n n'):∀i c,β i=some c->γ i=some c:=by intro i c hc;by_cases hi:i<n\/n'<=i;{rw[h.same i hi,hc]};rw[hf i (by omega) (by omega)]at hc;cases hc
theorem Ka.refl {β:Bm}{G:Gp}{n:Nat}{w:World}(h:WR P β G w):Ka P β G n w β G n w:=⟨fun _ _=>rfl,h,Jj _,fun _ _ _=>rfl,fun i o b h1 h2 h3=>.inr ⟨i,o,b,h1,h2,h3,rfl⟩,fun _ h=>h,fun _ _ _ _=>rfl,rfl,rfl,rfl⟩
theorem Ka.trans {β γ δ:Bm}{G G' G'':Gp}{n n' n'':Nat}{w w' w'':World}(h1:Ka P β G n w γ G' n' w')(h2:Ka P γ G' n' w' δ G'' n'' w'')(l1:n<=n')(l2:n'<=n'')(hf:Kb β n n''):Ka P β G n w δ G'' n'' w'':=by have e1:∀i c,β i=some c->γ i=some c:=h1.le fun i a b=>hf i a (by omega);refine⟨fun i hi=>?_,h2.wr,JH h1.size h2.size,fun b hb ho=>?_,fun i o b g1 g2 g3=>?_,fun i g=>h2.keep i (h1.keep i g),fun i b g hb=>?_,h2.os.trans h1.os,h2.out.trans h1.out,h2.tape.trans h1.tape⟩;{rw[h2.same i (by omega),h1.same i (by omega)]};{rw[h2.frame b (by have:=h1.size;omega) ?_,h1.frame b hb ho];intro i o c g1 g2 g3 g4;rcases h1.orig i o c g1 g2 g3 with h|⟨j,p,d,q1,q2,q3,q4⟩;{omega};exact ho j p d q1 q2 q3 (q4.trans g4)};{rcases h2.orig i o b g1 g2 g3 with h|⟨j,p,c,q1,q2,q3,q4⟩;{exact .inl (JH h1.size h)};rcases h1.orig j p c q1 q2 q3 with h|⟨k,r,d,r1,r2,r3,r4⟩;{exact .inl (q4▸h)};exact .inr ⟨k,r,d,r1,r2,r3,r4.trans q4⟩};rw[h2.kept i b (h1.keep i g) (e1 i b hb),h1.kept i b g hb]
theorem WR.congr {β:Bm}{G:Gp}{w w':World}(h:WR P β G w)(e:w'.heap=w.heap):WR P β G w':=⟨fun i o g=>by rw[e];exact h.obj i o g,h.inj,h.glob.congr e,h.off⟩
theorem Ka.congr {β γ:Bm}{G G':Gp}{n n':Nat}{w w' w'':World}(h:Ka P β G n w γ G' n' w')(e:w''.heap=w'.heap)(e1:w''.os=w'.os)(e2:w''.output=w'.output)(e3:w''.tape=w'.tape):Ka P β G n w γ G' n' w'':=⟨h.same,h.wr.congr e,by rw[e];exact h.size,fun b hb ho=>by rw[e];exact h.frame b hb ho,h.orig,h.keep,fun i b g hb=>by rw[e];exact h.kept i b g hb,e1.trans h.os,e2.trans h.out,e3.trans h.tape⟩
theorem Ka.congr0 {β γ:Bm}{G G':Gp}{n n':Nat}{w w0 w':World}(h:Ka P β G n w γ G' n' w')(e:w0.heap=w.heap)(e1:w0.os=w.os)(e2:w0.output=w.output)(e3:w0.tape=w.tape):Ka P β G n w0 γ G' n' w':=⟨h.same,h.wr,by rw[e];exact h.size,fun b hb ho=>by rw[e];exact h.frame b (by rw[<-e];exact hb) ho,fun i o b a1 a2 a3=>by rw[e];exact h.orig i o b a1 a2 a3,h.keep,fun i b g hb=>by rw[e];exact h.kept i b g hb,h.os.trans e1.symm,h.out.trans e2.symm,h.tape.trans e3.symm⟩
theorem WR.sub {β:Bm}{G K:Gp}{w:World}(h:WR P β K w)(hs:∀i o,G i=some o->K i=some o):WR P β G w:=⟨fun i o g=>h.obj i o (hs i o g),fun i j b c o p g1 g2=>h.inj i j b c o p (hs _ _ g1) (hs _ _ g2),h.glob,fun g cs hg i o c h1=>h.off g cs hg i o c (hs i o h1)⟩
theorem Ka.beside {β γ:Bm}{G G' K K':Gp}{n n':Nat}{w w':World}(h:Ka P β G n w γ G' n' w')(hf:Kb β n n')(hK:WR P β K w)(hG:∀i o,G i=some o->K i=some o) (jI:∀i o,K' i=some o->G' i=some o\/(G' i=none/\G i=none/\K i=some o)) (sA:∀i,K i=some .defd->K' i=some .defd):Ka P β K n w γ K' n' w':=by have e1:=h.le hf;have off:∀i o b,K i=some o->G i=none->o≠ .dead->β i=some b->Off β G b.1:=fun i o b g1 g2 g3 g4 j p c q1 q2 q3 q4=>by{have:=hK.inj i j b c o p g1 (hG j p q1) g3 q2 g4 q3 q4.symm;subst this;rw[g2]at q1;cases q1};have bound:∀i o b,K i=some o->β i=some b->b.1<w.heap.size:=fun i o b g1 g2=>by{obtain⟨b',q,h1,h2,_⟩:=hK.obj i o g1;rw[g2]at h1;cases h1;exact(JL.1 h2).1};have back:∀i o b,K i=some o->γ i=some b->β i=some b:=fun i o b k g=>by{obtain⟨b',q,h1,h2,h3⟩:=hK.obj i o k;have:=e1 _ _ h1;rw[g]at this;cases this;exact h1};refine⟨h.same,⟨fun i o g=>?_,fun i j b c o p g1 g2 d1 d2 b1 b2 bc=>?_,h.wr.glob,fun g cs hg i o c q1 q2 q3=>?_⟩,h.size,fun b hb ho=>h.frame b hb fun i o c g1 g2=>ho i o c (hG i o g1) g2,fun i o b g1 g2 g3=>?_,sA,fun i b g hb=>?_,h.os,h.out,h.tape⟩;{rcases jI i o g with g|⟨g,g0,g'⟩;{exact h.wr.obj i o g};obtain⟨b,q,h1,h2,h3⟩:=hK.obj i o g';by_cases hd:o=.dead;{subst hd;have hb:=(JL.1 h2).1;have cx:b.1<w'.heap.size:=Jy hb h.size;exact⟨b,w'.heap[b.1],e1 _ _ h1,Qx cx,.dead _⟩};refine⟨b,q,e1 _ _ h1,?_,h3.mono e1⟩;rw[h.frame b.1 (JL.1 h2).1 (off i o b g' g0 hd h1),h2]};{have mix:∀i j b c o p,G' i=some o->o≠ .dead->γ i=some b->(G' j=none/\G j=none/\K j=some p)->p≠ .dead->γ j=some c->b.1=c.1->False:=by{intro i j b c o p g d gb ⟨_,k0,k1⟩ d' gc bc;have cC:=back j p c k1 gc;have ah:=bound j p c k1 cC;rcases h.orig i o b g d gb with hh|⟨x,y,z,q1,q2,q3,q4⟩;{omega};exact off j p c k1 k0 d' cC x y z q1 q2 q3 (q4.trans bc)};rcases jI i o g1 with x|x<;>rcases jI j p g2 with y|y;{exact h.wr.inj i j b c o p x y d1 d2 b1 b2 bc};{exact(mix i j b c o p x d1 b1 y d2 b2 bc).elim};{exact(mix j i c b p o y d2 b2 x d1 b1 bc.symm).elim};obtain⟨_,_,x'⟩:=x;obtain⟨_,_,y'⟩:=y;exact hK.inj i j b c o p x' y' d1 d2 (back i o b x' b1) (back j p c y' b2) bc};{rcases jI i o q1 with x|⟨_,_,x⟩;{exact h.wr.off g cs hg i o c x q2 q3};exact hK.off g cs hg i o c x q2 (back i o c x q3)};{rcases jI i o g1 with x|⟨_,_,x⟩;{rcases h.orig i o b x g2 g3 with hh|⟨j,p,c,q1,q2,q3,q4⟩;{exact .inl hh};exact .inr ⟨j,p,c,hG j p q1,q2,q3,q4⟩};exact .inr ⟨i,o,b,x,g2,back i o b x g3,rfl⟩};cases hg:G i with|some o=>{have:=hG i o hg;rw[g]at this;cases this;exact h.kept i b hg hb}|none=>exact h.frame b.1 (bound i _ b g hb) (off i _ b g hg (by simp) hb)
end
end Go.Xec
