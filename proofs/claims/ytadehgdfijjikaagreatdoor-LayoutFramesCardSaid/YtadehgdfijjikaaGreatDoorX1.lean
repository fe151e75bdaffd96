/-
  AN EXECUTOR OF THE MODEL's CODE ON AN ABSTRACT HEAP (definitions). It runs a function on arguments that are known, by blocks of its own numbering, knows no capacity of what an append has made, and draws no order. Its soundness is proved in the texts that follow. No program of the seat's is named here.; THE EXECUTOR, its control: regions that draw their order (in one order of its own, under checks that make every order come to the same), blocks, loops, calls, and the range over a function. Definitions alone.
-/
import GoSem.Step
set_option linter.all false
namespace Go.Xec
open Go
inductive Tr (α : Type) where
  | leaf
  | node (l : Tr α) (o : α) (r : Tr α)
noncomputable def Tr.get {α : Type} (d : α) (t : Tr α) : Nat -> α :=
  Tr.rec (fun _=>d) (fun _ o _ il ir n=>cond (Nat.beq n 0) o (cond (Nat.beq (Nat.mod n 2) 1) (il (Nat.div n 2)) (ir (Nat.sub (Nat.div n 2) 1)))) t
noncomputable def Tr.set {α : Type} (d : α) : Nat -> Tr α -> Nat -> α -> Tr α :=
  Nat.rec (fun t _ _=>t) (fun _ ih t n o =>
    Tr.casesOn t
      (cond (Nat.beq n 0) (.node .leaf o .leaf) (cond (Nat.beq (Nat.mod n 2) 1) (.node (ih .leaf (Nat.div n 2) o) d .leaf) (.node .leaf d (ih .leaf (Nat.sub (Nat.div n 2) 1) o))))
      (fun l x r=>cond (Nat.beq n 0) (.node l o r) (cond (Nat.beq (Nat.mod n 2) 1) (.node (ih l (Nat.div n 2) o) x r) (.node l x (ih r (Nat.sub (Nat.div n 2) 1) o)))))
abbrev Tm:=Tr Value
structure ALoop where
  state : LoopState
  pending : Option Code
  fn : FuncId
  T : Tm
  params : List Tmp
  assign : Code
  body : Code
  defers : Nat
  sz : Nat
inductive AObj where
  | cells (l : List Value) (e : TypeId)
  | loop (r : ALoop)
  | iter (s : ByteArray) (pos : Nat)
  | defd
  | dead
abbrev Hp:=Tr (Option AObj)
noncomputable def hget (H : Hp) (n : Nat) : Option AObj:=Tr.get none H n
noncomputable def hset (H : Hp) (n : Nat) (o : AObj) : Hp:=Tr.set none (Nat.succ n) H n (some o)
noncomputable def tget (T : Tm) (n : Nat) : Value:=Tr.get undef T n
noncomputable def tset (T : Tm) (n : Nat) (v : Value) : Tm:=Tr.set undef (Nat.succ n) T n v
def unk : Nat:= 18446744073709551616
noncomputable def prun {α : Type} (P : Program) (s : Sem α) : Option α :=
  Sem.rec (motive:=fun _=>Option α) (fun a=>some a) (fun _ _ _ _=>none) (fun _ _ _ _ _=>none) (fun _ _ _=>none) (fun _ _ _=>none) (fun _ _ _ _=>none) (fun _ _ _=>none)
    (fun _ _ _=>none) (fun _ _ _ _=>none) (fun _ _ _=>none) (fun _ _ _=>none) (fun _ ih=>ih P) (fun _ _ _=>none) (fun _=>none) s
def x5A : Value -> Bool
  | .bool _ | .int .. | .float .. | .complex .. | .string _ | .pointer none | .slice none _ _ | .map none | .chan none | .nilFunc | .nilIface=>true
  | _=>false
noncomputable def all0 (l : List Value) : Bool:=List.rec true (fun v _ ih=>cond (x5A v) ih false) l
noncomputable def plain : Value -> Bool
  | .agg cs=>all0 cs.toList
  | .tuple cs=>all0 cs.toList
  | v=>x5A v
def v6N : Value -> Bool
  | .agg _ | .tuple _=>false
  | _=>true
noncomputable def all1 (l : List Value) : Bool:=List.rec true (fun v _ ih=>cond (v6N v) ih false) l
noncomputable def lget {α : Type} (l : List α) : Nat -> Option α :=
  List.rec (fun _=>none) (fun x _ ih n=>Nat.casesOn n (some x) (fun m=>ih m)) l
noncomputable def z5M : Nat -> List Value -> Option (List Value) :=
  Nat.rec (fun _=>some []) (fun _ ih l=>List.casesOn l none (fun x l=>Option.casesOn (ih l) none (fun r=>some (x :: r))))
noncomputable def cut (l : List Value) : Nat -> Nat -> Option (List Value) :=
  List.rec (fun k n=>Nat.casesOn k (z5M n []) (fun _=>none)) (fun x l ih k n=>Nat.casesOn k (z5M n (x :: l)) (fun k=>ih k n)) l
noncomputable def over (vs : List Value) : List Value -> Option (List Value) :=
  List.rec (fun l=>some l) (fun v _ ih l=>List.casesOn l none (fun _ l=>Option.casesOn (ih l) none (fun r=>some (v :: r)))) vs
noncomputable def x6V (l : List Value) : Nat -> List Value -> Option (List Value) :=
  List.rec (fun k vs=>Nat.casesOn k (over vs []) (fun _=>none)) (fun x l ih k vs=>Nat.casesOn k (over vs (x :: l)) (fun k=>Option.casesOn (ih k vs) none (fun r=>some (x :: r)))) l
noncomputable def ev (T : Tm) : Operand -> Value
  | .tmp t=>tget T t
  | .const v=>v
  | .global g=> .pointer (some ⟨g, 0,none⟩)
  | .func f=> .func (.func f) #[] #[]
noncomputable def okX : Operand -> Bool
  | .tmp _=>true
  | .const v=>plain v
  | .global _=>false
  | .func _=>true
def x1X : Option TypeDesc -> Bool
  | some (.struct _) | some (.array _ _)=>true
  | _=>false
def x1G (P : Program) (t : TypeId) : Option Nat:=(P.info? t).map (·.size)
def v1D (P : Program) (t : TypeId) : Option (List Value):=(P.info? t).bind fun i=>i.zero.map fun z=>z.cells.toList
inductive OR where
  | ok (v : Value) (H : Hp) (n : Nat)
  | bad
def chk (b : Bool) (x : OR) : OR:=cond b x .bad
def onO {α : Type} (o : Option α) (f : α -> OR) : OR:=match o with
  | some a=>f a
  | none=> .bad
def x5Z (v : Value) (f : Addr -> OR) : OR:=match v with
  | .pointer (some a)=>f a
  | _=> .bad
def onAgg (v : Value) (f : List Value -> OR) : OR:=match v with
  | .agg cs=>f cs.toList
  | _=> .bad
def v3A (v : Value) (f : List Value -> OR) : OR:=match v with
  | .tuple cs=>f cs.toList
  | _=> .bad
def z6K (v : Value) (f : Bool -> OR) : OR:=match v with
  | .bool b=>f b
  | _=> .bad
def u0D (v : Value) (f : Nat -> OR) : OR:=match v with
  | .int _ (.ofNat n)=>f n
  | _=> .bad
def onSl (v : Value) (f : Addr -> Nat -> Nat -> OR) : OR:=match v with
  | .slice (some a) l c=>f a l c
  | _=> .bad
noncomputable def newB (H : Hp) (n : Nat) (l : List Value) (e : TypeId) : OR:= .ok (.pointer (some ⟨n, 0,none⟩)) (hset H n (.cells l e)) (Nat.succ n)
noncomputable def newS (H : Hp) (n : Nat) (l : List Value) (e : TypeId) (len cap : Nat) : OR:= .ok (.slice (some ⟨n, 0,none⟩) len cap) (hset H n (.cells l e)) (Nat.succ n)
def cellsOf : Option AObj -> Option (List Value × TypeId)
  | some (.cells l e)=>some (l,e)
  | _=>none
noncomputable def x0Y (H : Hp) (b : Nat) : Option (List Value × TypeId):=cellsOf (hget H b)
def x5G (r : List Value) : Value:= .agg r.toArray
noncomputable def x7R (H : Hp) (n b off : Nat) (vs : List Value) (v : Value) : OR :=
  onO (x0Y H b) fun p=>onO (x6V p.1 off vs) fun l'=> .ok v (hset H b (.cells l' p.2)) n
structure CO where
  f : Tm -> Hp -> Nat -> OR
def z3P : CO:=⟨fun _ _ _=> .bad⟩
def coIf (b : Bool) (c : CO) : CO:=cond b c z3P
def coO {α : Type} (o : Option α) (f : α -> CO) : CO:=match o with
  | some a=>f a
  | none=>z3P
def x5Y : Option TypeDesc -> Option (List Field)
  | some (.struct fs)=>some fs.toList
  | _=>none
def y7P : Option TypeDesc -> Option (Nat × TypeId)
  | some (.array n e)=>some (n,e)
  | _=>none
def x2N : Option TypeDesc -> Option TypeId
  | some (.slice e)=>some e
  | _=>none
noncomputable def z8K (P : Program) (t : TypeId) (a : Operand) : CO :=
  cond (x1X (P.underlying t))
    (coO (x1G P t) fun n=>⟨fun T H k=>x5Z (ev T a) fun a=>onO (x0Y H a.block) fun p=>onO (cut p.1 a.off n) fun r=> .ok (x5G r) H k⟩)
    (coO (P.underlying t) fun _=>⟨fun T H k=>x5Z (ev T a) fun a=>onO (x0Y H a.block) fun p=>onO (lget p.1 a.off) fun v=> .ok v H k⟩)
noncomputable def u6G (P : Program) (t : TypeId) (a x : Operand) : CO :=
  coO (x1G P t) fun s=>⟨fun T H n=>x5Z (ev T a) fun a =>
    chk (cond (Nat.beq (ev T x).cells.toList.length s) (all1 (ev T x).cells.toList) false) (x7R H n a.block a.off (ev T x).cells.toList undef)⟩
noncomputable def x8Z (P : Program) (s : TypeId) (x : Operand) (f : Nat) : CO :=
  coO (x5Y (P.underlying s)) fun fs=>coO (lget fs f) fun f=>coO (x1G P f.type) fun k=>coIf (Nat.ble 1 k)
    ⟨fun T H n=>x5Z (ev T x) fun a=> .ok (.pointer (some ⟨a.block,Nat.add a.off f.offset,none⟩)) H n⟩
noncomputable def y2F (P : Program) (t : TypeId) (off : Nat) (l : List Value) : Option Value :=
  cond (x1X (P.underlying t)) ((x1G P t).bind fun n=>(cut l off n).map x5G) ((P.underlying t).bind fun _=>lget l off)
noncomputable def u6J (P : Program) (s : TypeId) (x : Operand) (f : Nat) : CO :=
  coO (x5Y (P.underlying s)) fun fs=>coO (lget fs f) fun f=>⟨fun T H n=>onAgg (ev T x) fun cs=>onO (y2F P f.type f.offset cs) fun v=> .ok v H n⟩
noncomputable def ixA (s : Nat) (a : Addr) (len i : Nat) (H : Hp) (n : Nat) : OR :=
  chk (Nat.ble (Nat.succ i) len) (.ok (.pointer (some ⟨a.block,Nat.add a.off (Nat.mul i s),none⟩)) H n)
noncomputable def x2W (P : Program) (t : TypeId) (x ix : Operand) : CO :=
  match y7P (P.underlying t) with
  | some p=>coO (x1G P p.2) fun s=>⟨fun T H n=>x5Z (ev T x) fun a=>u0D (ev T ix) fun i=>ixA s a p.1 i H n⟩
  | none=>coO (x2N (P.underlying t)) fun e=>coO (x1G P e) fun s=>⟨fun T H n=>onSl (ev T x) fun a len _=>u0D (ev T ix) fun i=>ixA s a len i H n⟩
noncomputable def x6B (place : Nat -> Option (Nat × Nat)) (ps : List (Nat × Value)) : List Value -> Option (List Value) :=
  List.rec (fun cells=>some cells) (fun p _ ih cells =>
    (place p.1).bind fun q=>cond (Nat.beq p.2.cells.toList.length q.2) ((x6V cells q.1 p.2.cells.toList).bind ih) none) ps
noncomputable def x6X (P : Program) (fs : List Field) : Option (List (Nat × Nat)) :=
  List.rec (some []) (fun f _ ih=>(x1G P f.type).bind fun s=>ih.map fun r=>(f.offset,s) :: r) fs
noncomputable def x4P (T : Tm) (ps : List (Nat × Operand)) : List (Nat × Value):=List.rec [] (fun p _ ih=>(p.1,ev T p.2) :: ih) ps
noncomputable def x4C (P : Program) (t : TypeId) : Option (List Value):=(v1D P t).bind fun z=>cond (all0 z) (some z) none
noncomputable def z8L (P : Program) (t : TypeId) (ps : List (Nat × Operand)) : CO :=
  coO (x4C P t) fun z =>
    match x5Y (P.underlying t) with
    | some fs=>coO (x6X P fs) fun pl=>⟨fun T H n=>onO (x6B (lget pl) (x4P T ps) z) fun c=> .ok (x5G c) H n⟩
    | none=>coO (y7P (P.underlying t)) fun p=>coO (x1G P p.2) fun s=>⟨fun T H n=>onO (x6B (fun i=>some (Nat.mul i s,s)) (x4P T ps) z) fun c=> .ok (x5G c) H n⟩
noncomputable def repl (k : Nat) (z : List Value) : List Value:=Nat.rec [] (fun _ ih=>z ++ ih) k
noncomputable def x5D (P : Program) (t len : Nat) (ps : List (Nat × Operand)) : CO :=
  coO (x2N (P.underlying t)) fun e=>coO (x1G P e) fun s=>coO (x4C P e) fun z=>coIf (cond (Nat.beq z.length s) (cond (Nat.ble 1 s) (Nat.ble (Nat.mul len s) 16777215) false) false)
    ⟨fun T H n=>onO (x6B (fun i=>some (Nat.mul i s,s)) (x4P T ps) (repl len z)) fun c=>newS H n c e len len⟩
noncomputable def x6Q (P : Program) (t : TypeId) (l c : Operand) : CO :=
  coO (x2N (P.underlying t)) fun e=>coO (P.info? e) fun i=>coO (x4C P e) fun z=>coIf (Nat.beq z.length i.size)
    ⟨fun T H n=>u0D (ev T l) fun l=>u0D (ev T c) fun c=>chk (cond (Nat.ble l c) (cond (Nat.ble (Nat.mul c i.bytes) 1099511627776) (Nat.ble c 1099511627776) false) false) (newS H n (repl c z) e l c)⟩
noncomputable def x5U (H : Hp) (size : Nat) : Value -> Option (List Value)
  | .slice none _ _=>some []
  | .slice (some a) n _=>(x0Y H a.block).bind fun p=>cut p.1 a.off (Nat.mul n size)
  | .string s=>some (s.data.toList.map fun b=> .int .u8 b.toNat)
  | _=>none
def lenS : Value -> Option Nat
  | .slice none 0 _=>some 0
  | .slice (some _) n _=>some n
  | .string s=>some s.size
  | _=>none
noncomputable def z8V (H : Hp) (n : Nat) (size : Nat) (e : TypeId) (a : Addr) (sLen sCap k : Nat) (new : List Value) (p : List Value × TypeId) : OR :=
  cond (Nat.beq sCap unk)
    (chk (cond (Nat.beq a.off 0) (cond (Nat.beq p.1.length (Nat.mul sLen size)) (Nat.beq p.2 e) false) false)
      (.ok (.slice (some ⟨n, 0,none⟩) (Nat.add sLen k) unk) (hset (hset H a.block .dead) n (.cells (p.1 ++ new) e)) (Nat.succ n)))
    (cond (Nat.ble (Nat.add sLen k) sCap)
      (x7R H n a.block (Nat.add a.off (Nat.mul sLen size)) new (.slice (some ⟨a.block,a.off,none⟩) (Nat.add sLen k) sCap))
      (onO (cut p.1 a.off (Nat.mul sLen size)) fun old=>newS H n (old ++ new) e (Nat.add sLen k) unk))
noncomputable def appTo (H : Hp) (n : Nat) (size : Nat) (e : TypeId) (k : Nat) (new : List Value) (bound : Nat -> Bool) : Value -> OR
  | .slice none 0 0=>cond (Nat.beq k 0) (.ok (.slice none 0 0) H n) (chk (bound k) (newS H n new e k unk))
  | .slice (some a) sLen sCap => cond (Nat.beq k 0) (chk (cond (Nat.beq sCap unk) true (Nat.ble sLen sCap)) (.ok (.slice (some a) sLen sCap) H n))
      (chk (bound (Nat.add sLen k)) (onO (x0Y H a.block) fun p=>z8V H n size e a sLen sCap k new p))
  | _=> .bad
def u4S : Option TypeDesc -> Bool
  | some (.int _)=>false
  | some _=>true
  | none=>false
noncomputable def y6Y (P : Program) (sT xT : TypeId) (s x : Operand) : CO :=
  coIf (u4S (P.underlying xT)) (coO (x2N (P.underlying sT)) fun e=>coO (P.info? e) fun i=>coO (x4C P e) fun z =>
    coIf (cond (Nat.ble 1 i.size) (cond (Nat.ble 1 i.bytes) (Nat.beq z.length i.size) false) false)
    ⟨fun T H n=>onO (lenS (ev T x)) fun k=>onO (x5U H i.size (ev T x)) fun new=>chk (cond (all1 new) (Nat.beq new.length (Nat.mul k i.size)) false)
      (appTo H n i.size e k new (fun m=>Nat.ble (Nat.mul m i.bytes) 1099511627776) (ev T s))⟩)
def z6R : Value -> Option Nat
  | .int _ (.ofNat n)=>some n
  | _=>none
def x6C (d : Nat) : Option Value -> Option Nat
  | some v=>z6R v
  | none=>some d
noncomputable def y7E (len cap : Nat) (lo hi : Option Value) (f : Nat -> Nat -> OR) : OR :=
  onO (x6C 0 lo) fun l=>onO (x6C len hi) fun h=>chk (cond (Nat.ble l h) (Nat.ble h cap) false) (f l h)
noncomputable def slKn (sz : Nat) (a : Addr) (len cap : Nat) (lo hi : Option Value) (H : Hp) (n : Nat) : OR :=
  chk (Nat.ble cap 1099511627776) <| y7E len cap lo hi fun l h=> .ok (.slice (some (cond (Nat.beq cap l) a ⟨a.block,Nat.add a.off (Nat.mul l sz),none⟩)) (Nat.sub h l) (Nat.sub cap l)) H n
noncomputable def slUnk (sz : Nat) (a : Addr) (len : Nat) (lo hi : Option Value) (H : Hp) (n : Nat) : OR :=
  y7E len len lo hi fun l h=>cond (Nat.beq l 0) (.ok (.slice (some a) h unk) H n)
    (chk (cond (Nat.ble (Nat.succ l) len) (Nat.ble 1 sz) false) (.ok (.slice (some ⟨a.block,Nat.add a.off (Nat.mul l sz),none⟩) (Nat.sub h l) unk) H n))
def x9E : Option TypeDesc -> Bool
  | some .string=>true
  | _=>false
def y8N (v : Value) (f : ByteArray -> OR) : OR:=match v with
  | .string s=>f s
  | _=> .bad
noncomputable def z8J (P : Program) (t : TypeId) (x : Operand) (lo hi : Option Operand) : CO :=
  cond (x9E (P.underlying t))
    ⟨fun T H n=>y8N (ev T x) fun s=>y7E s.size s.size (lo.map (ev T)) (hi.map (ev T)) fun l h=> .ok (.string (s.extract l h)) H n⟩
    (match y7P (P.underlying t) with
    | some p=>coO (x1G P p.2) fun sz=>⟨fun T H n=>x5Z (ev T x) fun a=>slKn sz a p.1 p.1 (lo.map (ev T)) (hi.map (ev T)) H n⟩
    | none => coO (x2N (P.underlying t)) fun e => coO (x1G P e) fun sz => ⟨fun T H n => onSl (ev T x) fun a len cap =>
        cond (Nat.beq cap unk) (slUnk sz a len (lo.map (ev T)) (hi.map (ev T)) H n) (slKn sz a len cap (lo.map (ev T)) (hi.map (ev T)) H n)⟩)
inductive EqK where | ptr | slice | func | iface | other
def eqK : Option TypeDesc -> EqK
  | some (.pointer _)=> .ptr
  | some (.slice _)=> .slice
  | some (.func _ _ _)=> .func
  | some (.interface _)=> .iface
  | _=> .other
def eqOp : EqK -> Value -> Value -> Option Bool
  | .ptr, .pointer (some _), .pointer none=>some false
  | .ptr, .pointer none, .pointer (some _)=>some false
  | .slice, .slice (some _) _ _, .slice none _ _=>some false
  | .slice, .slice none _ _, .slice (some _) _ _=>some false
  | .func, .func _ _ _, .nilFunc=>some false
  | .func, .nilFunc, .func _ _ _=>some false
  | .iface, .iface _ _, .nilIface=>some false
  | .iface, .nilIface, .iface _ _=>some false
  | _,_,_=>none
noncomputable def x0V (P : Program) (T : Tm) (H : Hp) (n : Nat) (o : Oper) : OR :=
  match prun P (execOp (ev T) o) with
  | some (.value v)=>chk (plain v) (.ok v H n)
  | _=> .bad
noncomputable def y6J (n : Int) (H : Hp) (k : Nat) (els : OR) : OR:=match n with
  | .ofNat m=>cond (Nat.ble m 9223372036854775807) (.ok (.int .i64 (.ofNat m)) H k) els
  | .negSucc m=>cond (Nat.ble m 9223372036854775807) (.ok (.int .i64 (.negSucc m)) H k) els
noncomputable def evEq (P : Program) (t : TypeId) (op : BinOp) (x y : Value) (H : Hp) (n : Nat) : OR :=
  onO (eqOp (eqK (P.underlying t)) x y) fun b=>match op with
    | .eql=> .ok (.bool b) H n
    | .neq=> .ok (.bool (!b)) H n
    | _=> .bad
noncomputable def x4F (P : Program) (T : Tm) (H : Hp) (n : Nat) (o : Oper) (op : BinOp) (t : TypeId) (x y : Value) : OR :=
  cond (cond (plain x) (plain y) false) (x0V P T H n o) (evEq P t op x y H n)
noncomputable def x3J (x y : Value) (f : Int -> Int -> OR) (els : OR) : OR:=match x,y with
  | .int .i64 a, .int .i64 b=>f a b
  | _,_=>els
noncomputable def y2Z (P : Program) (o : Oper) (t : TypeId) (x y : Operand) : BinOp -> CO
  | .add=>⟨fun T H n=>x3J (ev T x) (ev T y) (fun a b=>y6J (a + b) H n (x4F P T H n o .add t (ev T x) (ev T y))) (x4F P T H n o .add t (ev T x) (ev T y))⟩
  | .sub=>⟨fun T H n=>x3J (ev T x) (ev T y) (fun a b=>y6J (a - b) H n (x4F P T H n o .sub t (ev T x) (ev T y))) (x4F P T H n o .sub t (ev T x) (ev T y))⟩
  | .mul=>⟨fun T H n=>x3J (ev T x) (ev T y) (fun a b=>y6J (a * b) H n (x4F P T H n o .mul t (ev T x) (ev T y))) (x4F P T H n o .mul t (ev T x) (ev T y))⟩
  | .eql=>⟨fun T H n=>x3J (ev T x) (ev T y) (fun a b=> .ok (.bool (a == b)) H n) (x4F P T H n o .eql t (ev T x) (ev T y))⟩
  | .neq=>⟨fun T H n=>x3J (ev T x) (ev T y) (fun a b=> .ok (.bool (a != b)) H n) (x4F P T H n o .neq t (ev T x) (ev T y))⟩
  | .lss=>⟨fun T H n=>x3J (ev T x) (ev T y) (fun a b=> .ok (.bool (decide (a < b))) H n) (x4F P T H n o .lss t (ev T x) (ev T y))⟩
  | .leq=>⟨fun T H n=>x3J (ev T x) (ev T y) (fun a b=> .ok (.bool (decide (a <= b))) H n) (x4F P T H n o .leq t (ev T x) (ev T y))⟩
  | .gtr=>⟨fun T H n=>x3J (ev T x) (ev T y) (fun a b=> .ok (.bool (decide (a > b))) H n) (x4F P T H n o .gtr t (ev T x) (ev T y))⟩
  | .geq=>⟨fun T H n=>x3J (ev T x) (ev T y) (fun a b=> .ok (.bool (decide (a ≥ b))) H n) (x4F P T H n o .geq t (ev T x) (ev T y))⟩
  | op=>⟨fun T H n=>x4F P T H n o op t (ev T x) (ev T y)⟩
noncomputable def x4U (l : List Value) : Option (List UInt8) :=
  List.rec (some []) (fun v _ ih=>match v with
    | .int .u8 n=>ih.map fun r=>UInt8.ofNat n.toNat :: r
    | _=>none) l
def isU8 : Option TypeDesc -> Bool
  | some (.int .u8)=>true
  | _=>false
def v3B (v : Value) (f : Addr -> Nat -> OR) (els : OR) : OR:=match v with
  | .slice (some a) l _=>f a l
  | _=>els
noncomputable def y0T (P : Program) (s d : TypeId) (x : Operand) (e : TypeId) : CO :=
  coIf (cond (isU8 (P.underlying e)) (match x1G P e with | some k=>Nat.beq k 1 | none=>false) false)
    (cond (x9E (P.underlying s))
      ⟨fun T H n=>y8N (ev T x) fun b=>newS H n (b.data.toList.map fun c=> .int .u8 c.toNat) e b.size unk⟩
      (coIf (cond (Nat.beq s d) (match x2N (P.underlying s) with | some e'=>Nat.beq e' e | none=>false) false) ⟨fun T H n=>onSl (ev T x) fun a l c=>onO (x0Y H a.block) fun _=> .ok (.slice (some a) l c) H n⟩))
noncomputable def x4A (P : Program) (o : Oper) (s d : TypeId) (x : Operand) : CO :=
  cond (x9E (P.underlying d))
    (match x2N (P.underlying s) with
    | some e => coIf (isU8 (P.underlying e)) ⟨fun T H n => v3B (ev T x)
        (fun a len=>onO (x0Y H a.block) fun p=>onO (cut p.1 a.off len) fun r=>onO (x4U r) fun bs=> .ok (.string ⟨bs.toArray⟩) H n)
        (chk (plain (ev T x)) (x0V P T H n o))⟩
    | none=>⟨fun T H n=>chk (plain (ev T x)) (x0V P T H n o)⟩)
    (match x2N (P.underlying d) with
    | some e=>y0T P s d x e
    | none=>⟨fun T H n=>chk (plain (ev T x)) (x0V P T H n o)⟩)
noncomputable def cLen (P : Program) (o : Oper) (t : TypeId) (x : Operand) : CO :=
  match x2N (P.underlying t) with
  | some _=>⟨fun T H n=>match ev T x with
    | .slice _ k _=> .ok (.int .i64 k) H n
    | _=> .bad⟩
  | none=>⟨fun T H n=>chk (plain (ev T x)) (x0V P T H n o)⟩
noncomputable def allX (T : Tm) (l : List Operand) : Bool:=List.rec true (fun x _ ih=>cond (plain (ev T x)) ih false) l
noncomputable def x7F (P : Program) (o : Oper) (args : List Operand) (ts : List TypeId) : Builtin -> CO
  | .len=>match args,ts with
    | [x],[t]=>cLen P o t x
    | _,_=>z3P
  | .append=>match args,ts with
    | [s,x],[st,xt]=>y6Y P st xt s x
    | _,_=>z3P
  | .max | .min=>⟨fun T H n=>chk (allX T args) (x0V P T H n o)⟩
  | _=>z3P
def u5C : Option AObj -> Option (ByteArray × Nat)
  | some (.iter s p)=>some (s,p)
  | _=>none
noncomputable def v3M (s : ByteArray) (p : Nat) (H : Hp) (n b : Nat) : OR :=
  cond (Nat.ble (Nat.succ p) s.size) (.ok (.tuple #[.bool true, .int .i64 p, .int .i32 (Utf8.decode s p).1]) (hset H b (.iter s (Nat.add p (Utf8.decode s p).2))) n) (.ok (.tuple #[.bool false]) H n)
noncomputable def u6H (P : Program) (t : TypeId) (x : Operand) : CO :=
  coIf (x9E (P.underlying t)) ⟨fun T H n=>y8N (ev T x) fun s=> .ok (.pointer (some ⟨n, 0,none⟩)) (hset H n (.iter s 0)) (Nat.succ n)⟩
noncomputable def cNext (it : Operand) : CO :=
  ⟨fun T H n=>x5Z (ev T it) fun a=>chk (Nat.beq a.off 0) (onO (u5C (hget H a.block)) fun p=>v3M p.1 p.2 H n a.block)⟩
noncomputable def x0N (P : Program) (o : Oper) : CO :=
  match o.op with
  | .move x=>⟨fun T H n=> .ok (ev T x) H n⟩
  | .assign x=>⟨fun T H n=> .ok (ev T x) H n⟩
  | .pick c a b=>⟨fun T H n=>z6K (ev T c) fun t=> .ok (cond t (ev T a) (ev T b)) H n⟩
  | .alloc e=>coO (x4C P e) fun z=>⟨fun _ H n=>newB H n z e⟩
  | .box e x=>⟨fun T H n=>newB H n (ev T x).cells.toList e⟩
  | .build t ps=>z8L P t ps.toList
  | .buildSlice t len ps=>x5D P t len ps.toList
  | .load t a=>z8K P t a
  | .store t a x=>u6G P t a x
  | .nilCheck x=>⟨fun T H n=>x5Z (ev T x) fun a=> .ok (.pointer (some a)) H n⟩
  | .makeInterface t x=>match eqK (P.underlying t) with
    | .iface=>z3P
    | _=>coO (P.underlying t) fun _=>⟨fun T H n=> .ok (.iface t (ev T x)) H n⟩
  | .makeFunc (.func f) first captured=>⟨fun T H n=> .ok (.func (.func f) (first.map (ev T)) (captured.map (ev T))) H n⟩
  | .makeSlice t l c=>x6Q P t l c
  | .slice t x lo hi none=>z8J P t x lo hi
  | .fieldAddr s x f=>x8Z P s x f
  | .field s x f=>u6J P s x f
  | .indexAddr t x ix=>x2W P t x ix
  | .extract t ix=>⟨fun T H n=>v3A (ev T t) fun vs=>onO (lget vs ix) fun v=> .ok v H n⟩
  | .call { callee:= .builtin b,args,argTypes } =>x7F P o args.toList argTypes.toList b
  | .convert s d x=>x4A P o s d x
  | .binOp op t x y _=>y2Z P o t x y op
  | .unOp _ _ x=>⟨fun T H n=>chk (plain (ev T x)) (x0V P T H n o)⟩
  | .index _ x i=>⟨fun T H n=>chk (cond (plain (ev T x)) (plain (ev T i)) false) (x0V P T H n o)⟩
  | .range t x=>u6H P t x
  | .next it true=>cNext it
  | _=>z3P
inductive Ex where | normal | exit (id : Nat) | ret | goto (l : Nat)
inductive Task where
  | code (rd : Option Nat) (fn : FuncId) (sz : Nat) (c : Code) (T : Tm)
  | call (f : FuncId) (args : List Value)
  | yield (l : Nat) (args : List Value)
inductive R where
  | ok (ex : Ex) (T : Tm) (H : Hp) (n : Nat)
  | bad
noncomputable def put (T : Tm) : Option Tmp -> Value -> Tm
  | some d,v=>tset T d v
  | none,_=>T
noncomputable def y2L : R -> OR
  | .ok _ T H n=> .ok (tget T 0) H n
  | .bad=> .bad
noncomputable def y3M (self : Task -> Hp -> Nat -> R) (H : Hp) (n : Nat) (args : List Value) : Value -> OR
  | .func (.func g) first cap=>y2L (self (.call g (first.toList ++ args ++ cap.toList)) H n)
  | .func (.yield l) _ _=>y2L (self (.yield l args) H n)
  | _=> .bad
inductive CK where
  | op (f : Tm -> Hp -> Nat -> OR)
  | call (f : Operand) (args : List Operand)
  | bad
structure CI where
  guard : Option (Tmp × Bool)
  dst : Option Tmp
  k : CK
noncomputable def x5F (l : List Operand) : Bool:=List.rec true (fun x _ ih=>cond (okX x) ih false) l
noncomputable def x5J (P : Program) (o : Oper) : CK:=match o.op with
  | .call { callee:= .value f,args, .. } =>cond (cond (okX f) (x5F args.toList) false) (.call f args.toList) .bad
  | op=>cond (x5F op.operands.toList) (match x0N P o with | ⟨f⟩=> .op f) .bad
noncomputable def y8Q (sz : Nat) : Option Tmp -> Bool
  | some d=>Nat.ble (Nat.succ d) sz
  | none=>true
noncomputable def compI (P : Program) (sz : Nat) (all : List Oper) (o : Oper) : CI :=
  cond (y8Q sz o.dst)
    (match o.guard with
    | none=>⟨none,o.dst,x5J P o⟩
    | some (j,want)=>match (lget all j).bind (·.dst) with
      | some t=>⟨some (t,want),o.dst,x5J P o⟩
      | none=>⟨none,o.dst, .bad⟩)
    ⟨none,o.dst, .bad⟩
noncomputable def y3D (self : Task -> Hp -> Nat -> R) (T : Tm) (H : Hp) (n : Nat) : CK -> OR
  | .op f=>f T H n
  | .call f args=>y3M self H n (args.map (ev T)) (ev T f)
  | .bad=> .bad
noncomputable def x3A (self : Task -> Hp -> Nat -> R) (T : Tm) (H : Hp) (n : Nat) (c : CI) : OR:=match c.guard with
  | none=>y3D self T H n c.k
  | some (t,want)=>match tget T t with
    | .bool b=>cond (cond want b (!b)) (y3D self T H n c.k) (.ok undef H n)
    | _=> .ok undef H n
noncomputable def nextO (d : Option Tmp) (T : Tm) (ih : Tm -> Hp -> Nat -> R) : OR -> R
  | .ok v H n=>ih (put T d v) H n
  | .bad=> .bad
noncomputable def y4X (P : Program) (self : Task -> Hp -> Nat -> R) (sz : Nat) (all : List Oper) (ops : List Oper) : Tm -> Hp -> Nat -> R :=
  List.rec (fun T H n=> .ok .normal T H n) (fun o _ ih T H n=>match compI P sz all o with
    | c=>nextO c.dst T ih (x3A self T H n c)) ops
end Go.Xec
namespace Go.Xec
open Go
noncomputable def tb (m i : Nat) : Bool:=Nat.beq (Nat.mod (Nat.shiftRight m i) 2) 1
noncomputable def bit (i : Nat) : Nat:=Nat.shiftLeft 1 i
noncomputable def sub (a b : Nat) : Bool:=Nat.beq (Nat.land a b) a
noncomputable def lnat (l : List Nat) : Nat -> Nat:=List.rec (fun _=> 0) (fun x _ ih n=>Nat.casesOn n x (fun m=>ih m)) l
noncomputable def x5R (acc : List Nat) (es : List Edge) : Nat :=
  List.rec 0 (fun e _ ih=>cond (Region.binds .any e) (Nat.lor (Nat.lor (bit e.on) (lnat acc e.on)) ih) ih) es
noncomputable def x9F (ops : List Oper) : List Nat -> List Nat :=
  List.rec (fun acc=>acc) (fun o _ ih acc=>ih (acc ++ [x5R acc o.after.toList])) ops
def tmpOf : Operand -> Option Tmp
  | .tmp t=>some t
  | _=>none
noncomputable def looks (all : List Oper) (o : Oper) : List Tmp :=
  (match o.guard with
  | some (j,_)=>((lget all j).bind (·.dst)).toList
  | none=>[]) ++ o.op.operands.toList.filterMap tmpOf
inductive Kd where | free | load | eff
def kdOf (P : Program) : Op -> Kd
  | .load _ _=> .load
  | .store _ _ _=> .eff
  | .call { callee:= .value _, .. } => .eff
  | .call { callee:= .invoke _ _, .. } => .eff
  | .call { callee:= .builtin .append, .. } => .eff
  | .call { callee:= .builtin .copy, .. } => .eff
  | .convert s _ _=>match x2N (P.underlying s) with
    | some _=> .load
    | none=> .free
  | _=> .free
def isEff (P : Program) (o : Op) : Bool:=match kdOf P o with
  | .eff=>true
  | _=>false
def isLoad (P : Program) (o : Op) : Bool:=match kdOf P o with
  | .load=>true
  | _=>false
noncomputable def v3R (p : Op -> Bool) (ops : List Oper) : Nat -> Nat :=
  List.rec (fun _=> 0) (fun o _ ih i=>cond (p o.op) (Nat.lor (bit i) (ih (Nat.succ i))) (ih (Nat.succ i))) ops
noncomputable def u4Z (P : Program) (D : List Nat) (ops : List Oper) : Nat -> Nat :=
  List.rec (fun _=> 0) (fun o _ ih i=>cond (isLoad P o.op) (Nat.lor (Nat.lor (bit i) (lnat D i)) (ih (Nat.succ i))) (ih (Nat.succ i))) ops
noncomputable def pickM (p : Nat -> Bool) (done m : Nat) : List Nat:=(List.range m).filter fun i=>cond (tb done i) false (p i)
noncomputable def maskL (l : List Nat) : Nat:=List.rec 0 (fun i _ ih=>Nat.lor (bit i) ih) l
noncomputable def orderL (D : List Nat) (E L m : Nat) (effs : List Nat) : Nat -> Nat -> List Nat :=
  List.rec (fun done _=>pickM (fun _=>true) done m) (fun e _ ih done prev =>
    match pickM (fun i=>cond (Nat.beq i e) false (cond (tb (lnat D e) i) true (cond (tb L i) (sub (Nat.land (lnat D i) E) prev) false))) done m with
    | now=>now ++ e :: ih (Nat.lor (Nat.lor done (maskL now)) (bit e)) (Nat.lor prev (bit e))) effs
structure PI where
  i : Nat
  D : Nat
  kd : Kd
  c : CI
noncomputable def y1J (D : List Nat) (m : Nat) (ord : List Nat) : Nat -> Bool :=
  List.rec (fun done=>Nat.beq done (Nat.sub (bit m) 1)) (fun i _ ih done =>
    cond (cond (Nat.ble (Nat.succ i) m) (cond (tb done i) false (sub (lnat D i) done)) false) (ih (Nat.lor done (bit i))) false) ord
def dstNe : Option Tmp -> Option Tmp -> Bool
  | some a,some b=> !(Nat.beq a b)
  | _,_=>true
noncomputable def inL (t : Nat) (l : List Nat) : Bool:=List.rec false (fun x _ ih=>cond (Nat.beq x t) true ih) l
noncomputable def dstIn (d : Option Tmp) (l : List Tmp) : Option Tmp:=match d with
  | some t=>cond (inL t l) (some t) none
  | none=>none
noncomputable def u4M (D : List Nat) (i j : Nat) (di dj : Option Tmp) (li : List Tmp) : Bool :=
  cond (Nat.beq i j) true (cond (dstNe di dj) (match dj with
    | some t=>cond (inL t li) (cond (tb (lnat D i) j) true (tb (lnat D j) i)) true
    | none=>true) false)
noncomputable def u7G (D : List Nat) (i : Nat) (di : Option Tmp) (li : List Tmp) (ops : List Oper) : Nat -> Bool :=
  List.rec (fun _=>true) (fun o _ ih j=>cond (u4M D i j di o.dst li) (ih (Nat.succ j)) false) ops
noncomputable def y1H (D : List Nat) (all : List Oper) (ops : List Oper) : Nat -> Bool :=
  List.rec (fun _=>true) (fun o _ ih i=>cond (u7G D i o.dst (looks all o) all 0) (ih (Nat.succ i)) false) ops
noncomputable def y5W (P : Program) (sz : Nat) (all : List Oper) (D : List Nat) (ord : List Nat) : List PI :=
  List.rec [] (fun i _ ih=>match lget all i with
    | some o=>⟨i,lnat D i,kdOf P o.op,compI P sz all o⟩ :: ih
    | none=>ih) ord
noncomputable def u4K (P : Program) (sz : Nat) (all : List Oper) (D ord : List Nat) : Option (List PI) :=
  cond (cond (y1J D all.length ord 0) (y1H D all all 0) false) (some (y5W P sz all D ord)) none
noncomputable def y0E (P : Program) (sz : Nat) (all : List Oper) : Option (List PI) :=
  match x9F all [] with
  | D=>match v3R (isEff P) all 0 with
    | E=>u4K P sz all D (orderL D E (u4Z P D all 0) all.length ((List.range all.length).filter (tb E)) 0 0)
def veq0 : Value -> Value -> Bool
  | .bool a, .bool b=>cond a b (!b)
  | .int k a, .int l b=>cond (decide (k = l)) (decide (a = b)) false
  | .string a, .string b=>decide (a.data.toList = b.data.toList)
  | .pointer none, .pointer none=>true
  | .pointer (some ⟨a,i,none⟩), .pointer (some ⟨b,j,none⟩)=>cond (Nat.beq a b) (Nat.beq i j) false
  | .slice none a i, .slice none b j=>cond (Nat.beq a b) (Nat.beq i j) false
  | .slice (some ⟨a,i,none⟩) l c, .slice (some ⟨b,j,none⟩) m d=>cond (cond (Nat.beq a b) (Nat.beq i j) false) (cond (Nat.beq l m) (Nat.beq c d) false) false
  | .nilFunc, .nilFunc=>true
  | .nilIface, .nilIface=>true
  | _,_=>false
noncomputable def veqL (l : List Value) : List Value -> Bool :=
  List.rec (fun m=>List.casesOn m true (fun _ _=>false)) (fun x _ ih m=>List.casesOn m false (fun y m=>cond (veq0 x y) (ih m) false)) l
noncomputable def veq : Value -> Value -> Bool
  | .agg a, .agg b=>veqL a.toList b.toList
  | .func (.func f) a b, .func (.func g) c d=>cond (Nat.beq f g) (cond (veqL a.toList c.toList) (veqL b.toList d.toList) false) false
  | .func (.yield f) a b, .func (.yield g) c d=>cond (Nat.beq f g) (cond (veqL a.toList c.toList) (veqL b.toList d.toList) false) false
  | .tuple a, .tuple b=>veqL a.toList b.toList
  | a,b=>veq0 a b
structure Wt where
  i : Nat
  c : CI
  T : Tm
  v : Value
noncomputable def wtOk (self : Task -> Hp -> Nat -> R) (D : Nat) (H : Hp) (n : Nat) (x : Wt) : Bool :=
  cond (tb D x.i) true (match x3A self x.T H n x.c with
    | .ok v _ _=>veq x.v v
    | .bad=>false)
noncomputable def y8A (self : Task -> Hp -> Nat -> R) (D : Nat) (H : Hp) (n : Nat) (W : List Wt) : Bool :=
  List.rec true (fun x _ ih=>cond (wtOk self D H n x) ih false) W
noncomputable def joinH (H H' : Hp) (n n' : Nat) : Option Hp :=
  cond (Nat.beq n' n) (some H) (cond (Nat.beq n' (Nat.succ n)) ((hget H' n).map fun o=>hset H n o) none)
structure DS where
  T : Tm
  H : Hp
  n : Nat
  K : Hp
  E : Nat
  A : Nat
  W : List Wt
noncomputable def y0M (x : PI) (s : DS) : OR -> Option DS
  | .ok v H' n'=>(joinH s.H H' s.n n').map fun H''=> { s with T:=put s.T x.c.dst v,H:=H'',n:=n',A:=cond (Nat.beq n' s.n) s.A (Nat.lor s.A (bit x.i)) }
  | .bad=>none
noncomputable def y4A (x : PI) (s : DS) : OR -> Option DS
  | .ok v _ _=>cond (sub s.E x.D) (some { s with T:=put s.T x.c.dst v,W:=⟨x.i,x.c,s.T,v⟩ :: s.W }) none
  | .bad=>none
noncomputable def z3N (self : Task -> Hp -> Nat -> R) (x : PI) (s : DS) : OR -> Option DS
  | .ok v H' n' => cond (cond (sub s.E x.D) (cond (sub s.A x.D) (y8A self x.D H' n' s.W) false) false)
      (some { s with T:=put s.T x.c.dst v,H:=H',n:=n',K:=H',E:=Nat.lor s.E (bit x.i) }) none
  | .bad=>none
noncomputable def x2K (self : Task -> Hp -> Nat -> R) (x : PI) (s : DS) : Option DS:=match x.kd with
  | .free=>y0M x s (x3A self s.T .leaf s.n x.c)
  | .load=>y4A x s (x3A self s.T s.K s.n x.c)
  | .eff=>z3N self x s (x3A self s.T s.H s.n x.c)
noncomputable def drawL (self : Task -> Hp -> Nat -> R) (l : List PI) : DS -> R :=
  List.rec (fun s=> .ok .normal s.T s.H s.n) (fun x _ ih s=>match x2K self x s with
    | some s=>ih s
    | none=> .bad) l
noncomputable def z9S (self : Task -> Hp -> Nat -> R) (T : Tm) (H : Hp) (n : Nat) : Option (List PI) -> R
  | some l=>drawL self l ⟨T,H,n,H, 0, 0,[]⟩
  | none=> .bad
noncomputable def z5W (P : Program) (H : Hp) (t : TypeId) (a : Addr) : Option Value :=
  (x0Y H a.block).bind fun p=>cond (x1X (P.underlying t)) ((x1G P t).bind fun n=>(cut p.1 a.off n).map x5G) ((P.underlying t).bind fun _=>lget p.1 a.off)
def v0T : Value -> Option Addr
  | .pointer (some a)=>some a
  | _=>none
noncomputable def resL (P : Program) (T : Tm) (H : Hp) (l : List ResultVar) : Option (List Value) :=
  List.rec (some []) (fun r _ ih=>match r with
    | .tmp t=>ih.map fun vs=>tget T t :: vs
    | .cell a t=>(v0T (tget T a)).bind fun a=>(z5W P H t a).bind fun v=>ih.map fun vs=>v :: vs) l
noncomputable def one (v : Value) : Tm:= .node .leaf v .leaf
noncomputable def x4W (sz : Nat) (ts : List Tmp) : List Value -> Tm -> Option Tm :=
  List.rec (fun vs T=>List.casesOn vs (some T) (fun _ _=>none)) (fun t _ ih vs T=>List.casesOn vs none (fun v vs=>cond (Nat.ble (Nat.succ t) sz) (ih vs (tset T t v)) none)) ts
noncomputable def y2B (vs : List Value) : Nat -> Tm -> Tm:=List.rec (fun _ T=>T) (fun v _ ih k T=>ih (Nat.succ k) (tset T k v)) vs
noncomputable def seqK (self : Task -> Hp -> Nat -> R) (rd : Option Nat) (fn : FuncId) (sz : Nat) (b : Code) : R -> R
  | .ok .normal T H n=>self (.code rd fn sz b T) H n
  | r=>r
noncomputable def u6L (id : Nat) : R -> R
  | .ok (.exit i) T H n=>cond (Nat.beq i id) (.ok .normal T H n) (.ok (.exit i) T H n)
  | r=>r
noncomputable def v6E (self : Task -> Hp -> Nat -> R) (rd : Option Nat) (fn : FuncId) (sz : Nat) (a b : Code) (T : Tm) (H : Hp) (n : Nat) : Value -> R
  | .bool t=>self (.code rd fn sz (cond t a b) T) H n
  | _=> .bad
noncomputable def retK (H : Hp) (n : Nat) : Option (List Value) -> R
  | some [v]=> .ok .ret (one v) H n
  | some vs=> .ok .ret (one (.tuple vs.toArray)) H n
  | none=> .bad
noncomputable def callK (P : Program) (fn : Func) : R -> R
  | .ok .normal T H n=>retK H n (resL P T H fn.results.toList)
  | .ok .ret T H n=>retK H n (resL P T H fn.results.toList)
  | _=> .bad
def v3U : Option AObj -> Option ALoop
  | some (.loop r)=>some r
  | _=>none
noncomputable def x7L (H : Hp) (l : Nat) : Option ALoop:=v3U (hget H l)
def onOR {α : Type} (o : Option α) (f : α -> R) : R:=match o with
  | some a=>f a
  | none=> .bad
noncomputable def rangeD (H : Hp) (n : Nat) : Option Nat -> Option (Nat × Hp × Nat)
  | some l=>(x7L H l).map fun r=>(r.defers,H,n)
  | none=>some (n,hset H n .defd,Nat.succ n)
noncomputable def z5Y (self : Task -> Hp -> Nat -> R) (H : Hp) (n lp : Nat) : Value -> R
  | .func (.func g) first cap=>self (.call g (first.toList ++ (.func (.yield lp) #[] #[]) :: cap.toList)) H n
  | _=> .bad
noncomputable def z5X (self : Task -> Hp -> Nat -> R) (rd : Option Nat) (fn : FuncId) (sz : Nat) (T : Tm) (H : Hp) (n : Nat) : Option Code -> R
  | none=> .ok .normal T H n
  | some c=>self (.code rd fn sz c T) H n
def notBusy : LoopState -> Bool
  | .busy=>false
  | _=>true
def u0N : LoopState -> Bool
  | .ready=>true
  | _=>false
noncomputable def u4F (self : Task -> Hp -> Nat -> R) (rd : Option Nat) (fn : FuncId) (sz : Nat) (T : Tm) (lp : Nat) : R -> R
  | .ok _ _ H n=>onOR (x7L H lp) fun r=>cond (notBusy r.state) (z5X self rd fn sz T (hset H lp (.loop { r with state:= .exhausted })) n r.pending) .bad
  | .bad=> .bad
noncomputable def y4Z (self : Task -> Hp -> Nat -> R) (rd : Option Nat) (fn : FuncId) (sz : Nat) (T : Tm) (H : Hp) (n : Nat) (f : Operand) (ps : List Tmp) (assign body : Code) : R :=
  cond (okX f) (onOR (rangeD H n rd) fun q=>u4F self rd fn sz T q.2.2 (z5Y self (hset q.2.1 q.2.2 (.loop ⟨.ready,none,fn,T,ps,assign,body,q.1,sz⟩)) (Nat.succ q.2.2) q.2.2 (ev T f))) .bad
noncomputable def x6W (l : Nat) (H : Hp) (n : Nat) (j : Option Code) : R :=
  onOR (x7L H l) fun r=> .ok .ret (one (.bool j.isNone)) (hset H l (.loop { r with state:=cond j.isNone .ready .done,pending:=j })) n
noncomputable def y3N (l : Nat) : R -> R
  | .ok .normal _ H n=>x6W l H n none
  | .ok .ret _ H n=>x6W l H n (some .ret)
  | .ok (.exit id) _ H n=>x6W l H n (some (.exit id))
  | .ok (.goto g) _ H n=>x6W l H n (some (.goto g))
  | .bad=> .bad
noncomputable def v2N (self : Task -> Hp -> Nat -> R) (l : Nat) (fn : FuncId) (sz : Nat) (body : Code) : R -> R
  | .ok .normal T H n=>onOR (x7L H l) fun r=>cond (u0N r.state) (y3N l (self (.code (some l) fn sz body T) (hset H l (.loop { r with state:= .busy })) n)) .bad
  | _=> .bad
noncomputable def y4E (self : Task -> Hp -> Nat -> R) (l : Nat) (args : List Value) (H : Hp) (n : Nat) : R :=
  onOR (x7L H l) fun r=>onOR (x4W r.sz r.params args r.T) fun T=>v2N self l r.fn r.sz r.body (self (.code (some l) r.fn r.sz r.assign T) H n)
noncomputable def y4B (P : Program) (self : Task -> Hp -> Nat -> R) (rd : Option Nat) (fn : FuncId) (sz : Nat) (T : Tm) (H : Hp) (n : Nat) (c : Code) : R :=
  match c with
  | .skip=> .ok .normal T H n
  | .label _=> .ok .normal T H n
  | .seq a b=>seqK self rd fn sz b (self (.code rd fn sz a T) H n)
  | .cond c a b=>cond (okX c) (v6E self rd fn sz a b T H n (ev T c)) .bad
  | .block id b=>u6L id (self (.code rd fn sz b T) H n)
  | .loop b=>seqK self rd fn sz (.loop b) (self (.code rd fn sz b T) H n)
  | .exit id=> .ok (.exit id) T H n
  | .ret=> .ok .ret T H n
  | .region _ ops false=>y4X P self sz ops.toList ops.toList T H n
  | .region _ ops true=>z9S self T H n (y0E P sz ops.toList)
  | .rangeFunc f ps assign body=>y4Z self rd fn sz T H n f ps.toList assign body
  | _=> .bad
abbrev Hook:=FuncId -> List Value -> Option Value
noncomputable def hookK (H : Hp) (n : Nat) (k : R) : Option Value -> R
  | some v=> .ok .ret (one v) H n
  | none=>k
noncomputable def z3Q (P : Program) (hk : Hook) (self : Task -> Hp -> Nat -> R) (f : FuncId) (args : List Value) (H : Hp) (n : Nat) : R :=
  hookK H n (onOR (P.funcs[f]?) fun fn=>onOR fn.body fun c=>cond (Nat.ble args.length fn.ntmps) (callK P fn (self (.code none f fn.ntmps c (y2B args 0 .leaf)) H n)) .bad) (hk f args)
noncomputable def step (P : Program) (hk : Hook) (self : Task -> Hp -> Nat -> R) (t : Task) (H : Hp) (n : Nat) : R :=
  match t with
  | .code rd fn sz c T=>y4B P self rd fn sz T H n c
  | .call f args=>z3Q P hk self f args H n
  | .yield l args=>y4E self l args H n
noncomputable def run (P : Program) (hk : Hook) (k : Nat) : Task -> Hp -> Nat -> R :=
  Nat.rec (fun _ _ _=> .bad) (fun _ ih=>step P hk ih) k
def v3K : Hook:=fun _ _=>none
end Go.Xec
