/-
  AN EXECUTOR OF THE MODEL's CODE ON AN ABSTRACT HEAP (definitions). It runs a function on arguments that are known,
  by blocks of its own numbering, knows no capacity of what an append has made, and draws no order.
  Its soundness is proved in the texts that follow. No program of the seat's is named here.
-/
import GoSem.Step
namespace Go.Xec
open Go

/-- a finite map from numbers -/
inductive Tr (α : Type) where
  | leaf
  | node (l : Tr α) (o : α) (r : Tr α)

noncomputable def Tr.get {α : Type} (d : α) (t : Tr α) : Nat → α :=
  Tr.rec (fun _ => d) (fun _ o _ il ir n => cond (Nat.beq n 0) o (cond (Nat.beq (Nat.mod n 2) 1) (il (Nat.div n 2)) (ir (Nat.sub (Nat.div n 2) 1)))) t

noncomputable def Tr.set {α : Type} (d : α) : Nat → Tr α → Nat → α → Tr α :=
  Nat.rec (fun t _ _ => t) (fun _ ih t n o =>
    Tr.casesOn t
      (cond (Nat.beq n 0) (.node .leaf o .leaf) (cond (Nat.beq (Nat.mod n 2) 1) (.node (ih .leaf (Nat.div n 2) o) d .leaf) (.node .leaf d (ih .leaf (Nat.sub (Nat.div n 2) 1) o))))
      (fun l x r => cond (Nat.beq n 0) (.node l o r) (cond (Nat.beq (Nat.mod n 2) 1) (.node (ih l (Nat.div n 2) o) x r) (.node l x (ih r (Nat.sub (Nat.div n 2) 1) o)))))

abbrev Tm := Tr Value

/-- the record of a range over a function -/
structure ALoop where
  state : LoopState
  pending : Option Code
  fn : FuncId
  T : Tm
  params : List Tmp
  assign : Code
  body : Code
  defers : Nat
  sz : Nat

inductive AObj where
  | cells (l : List Value) (e : TypeId)
  | loop (r : ALoop)
  | defd
  | dead

abbrev Hp := Tr (Option AObj)
noncomputable def hget (H : Hp) (n : Nat) : Option AObj := Tr.get none H n
noncomputable def hset (H : Hp) (n : Nat) (o : AObj) : Hp := Tr.set none (Nat.succ n) H n (some o)
noncomputable def tget (T : Tm) (n : Nat) : Value := Tr.get undef T n
noncomputable def tset (T : Tm) (n : Nat) (v : Value) : Tm := Tr.set undef (Nat.succ n) T n v

/-- the capacity that is not known -/
def unk : Nat := 18446744073709551616

noncomputable def prun {α : Type} (P : Program) (s : Sem α) : Option α :=
  Sem.rec (motive := fun _ => Option α) (fun a => some a) (fun _ _ _ _ => none) (fun _ _ _ _ _ => none) (fun _ _ _ => none) (fun _ _ _ => none) (fun _ _ _ _ => none) (fun _ _ _ => none)
    (fun _ _ _ => none) (fun _ _ _ _ => none) (fun _ _ _ => none) (fun _ _ _ => none) (fun _ ih => ih P) (fun _ _ _ => none) (fun _ => none) s

def plain0 : Value → Bool
  | .bool _ | .int .. | .float .. | .complex .. | .string _ | .pointer none | .slice none _ _ | .map none | .chan none | .nilFunc | .nilIface => true
  | _ => false
noncomputable def all0 (l : List Value) : Bool := List.rec true (fun v _ ih => cond (plain0 v) ih false) l
noncomputable def plain : Value → Bool
  | .agg cs => all0 cs.toList
  | .tuple cs => all0 cs.toList
  | v => plain0 v
/-- a value of one cell -/
def cell1 : Value → Bool
  | .agg _ | .tuple _ => false
  | _ => true
noncomputable def all1 (l : List Value) : Bool := List.rec true (fun v _ ih => cond (cell1 v) ih false) l

noncomputable def lget {α : Type} (l : List α) : Nat → Option α :=
  List.rec (fun _ => none) (fun x _ ih n => Nat.casesOn n (some x) (fun m => ih m)) l
/-- the first n, exactly -/
noncomputable def takeN : Nat → List Value → Option (List Value) :=
  Nat.rec (fun _ => some []) (fun _ ih l => List.casesOn l none (fun x l => Option.casesOn (ih l) none (fun r => some (x :: r))))
noncomputable def cut (l : List Value) : Nat → Nat → Option (List Value) :=
  List.rec (fun k n => Nat.casesOn k (takeN n []) (fun _ => none)) (fun x l ih k n => Nat.casesOn k (takeN n (x :: l)) (fun k => ih k n)) l
/-- vs over the first cells -/
noncomputable def over (vs : List Value) : List Value → Option (List Value) :=
  List.rec (fun l => some l) (fun v _ ih l => List.casesOn l none (fun _ l => Option.casesOn (ih l) none (fun r => some (v :: r)))) vs
noncomputable def setAt (l : List Value) : Nat → List Value → Option (List Value) :=
  List.rec (fun k vs => Nat.casesOn k (over vs []) (fun _ => none)) (fun x l ih k vs => Nat.casesOn k (over vs (x :: l)) (fun k => Option.casesOn (ih k vs) none (fun r => some (x :: r)))) l

noncomputable def ev (T : Tm) : Operand → Value
  | .tmp t => tget T t
  | .const v => v
  | .global g => .pointer (some ⟨g, 0, none⟩)
  | .func f => .func (.func f) #[] #[]
noncomputable def okX : Operand → Bool
  | .tmp _ => true
  | .const v => plain v
  | .global _ => false
  | .func _ => true

def isAggD : Option TypeDesc → Bool
  | some (.struct _) | some (.array _ _) => true
  | _ => false
def sizeT (P : Program) (t : TypeId) : Option Nat := (P.info? t).map (·.size)
def zeroT (P : Program) (t : TypeId) : Option (List Value) := (P.info? t).bind fun i => i.zero.map fun z => z.cells.toList

/-- what an operation comes to -/
inductive OR where
  | ok (v : Value) (H : Hp) (n : Nat)
  | bad
def chk (b : Bool) (x : OR) : OR := cond b x .bad
def onO {α : Type} (o : Option α) (f : α → OR) : OR := match o with
  | some a => f a
  | none => .bad
def onPtr (v : Value) (f : Addr → OR) : OR := match v with
  | .pointer (some a) => f a
  | _ => .bad
def onAgg (v : Value) (f : List Value → OR) : OR := match v with
  | .agg cs => f cs.toList
  | _ => .bad
def onTup (v : Value) (f : List Value → OR) : OR := match v with
  | .tuple cs => f cs.toList
  | _ => .bad
def onBool (v : Value) (f : Bool → OR) : OR := match v with
  | .bool b => f b
  | _ => .bad
def onNat (v : Value) (f : Nat → OR) : OR := match v with
  | .int _ (.ofNat n) => f n
  | _ => .bad
def onSl (v : Value) (f : Addr → Nat → Nat → OR) : OR := match v with
  | .slice (some a) l c => f a l c
  | _ => .bad

noncomputable def newB (H : Hp) (n : Nat) (l : List Value) (e : TypeId) : OR := .ok (.pointer (some ⟨n, 0, none⟩)) (hset H n (.cells l e)) (Nat.succ n)
noncomputable def newS (H : Hp) (n : Nat) (l : List Value) (e : TypeId) (len cap : Nat) : OR := .ok (.slice (some ⟨n, 0, none⟩) len cap) (hset H n (.cells l e)) (Nat.succ n)
def cellsOf : Option AObj → Option (List Value × TypeId)
  | some (.cells l e) => some (l, e)
  | _ => none
noncomputable def cellsAt (H : Hp) (b : Nat) : Option (List Value × TypeId) := cellsOf (hget H b)
def aggOf (r : List Value) : Value := .agg r.toArray
noncomputable def writeAt (H : Hp) (n b off : Nat) (vs : List Value) (v : Value) : OR :=
  onO (cellsAt H b) fun p => onO (setAt p.1 off vs) fun l' => .ok v (hset H b (.cells l' p.2)) n

/-- An operation, made ready: what it does to temporaries, heap and next number. -/
structure CO where
  f : Tm → Hp → Nat → OR
def coBad : CO := ⟨fun _ _ _ => .bad⟩
def coIf (b : Bool) (c : CO) : CO := cond b c coBad
def coO {α : Type} (o : Option α) (f : α → CO) : CO := match o with
  | some a => f a
  | none => coBad
def structD : Option TypeDesc → Option (List Field)
  | some (.struct fs) => some fs.toList
  | _ => none
def arrayD : Option TypeDesc → Option (Nat × TypeId)
  | some (.array n e) => some (n, e)
  | _ => none
def sliceD : Option TypeDesc → Option TypeId
  | some (.slice e) => some e
  | _ => none

noncomputable def cLoad (P : Program) (t : TypeId) (a : Operand) : CO :=
  cond (isAggD (P.underlying t))
    (coO (sizeT P t) fun n => ⟨fun T H k => onPtr (ev T a) fun a => onO (cellsAt H a.block) fun p => onO (cut p.1 a.off n) fun r => .ok (aggOf r) H k⟩)
    (coO (P.underlying t) fun _ => ⟨fun T H k => onPtr (ev T a) fun a => onO (cellsAt H a.block) fun p => onO (lget p.1 a.off) fun v => .ok v H k⟩)
noncomputable def cStore (P : Program) (t : TypeId) (a x : Operand) : CO :=
  coO (sizeT P t) fun s => ⟨fun T H n => onPtr (ev T a) fun a =>
    chk (cond (Nat.beq (ev T x).cells.toList.length s) (all1 (ev T x).cells.toList) false) (writeAt H n a.block a.off (ev T x).cells.toList undef)⟩
noncomputable def cFieldAddr (P : Program) (s : TypeId) (x : Operand) (f : Nat) : CO :=
  coO (structD (P.underlying s)) fun fs => coO (lget fs f) fun f => coO (sizeT P f.type) fun k => coIf (Nat.ble 1 k)
    ⟨fun T H n => onPtr (ev T x) fun a => .ok (.pointer (some ⟨a.block, Nat.add a.off f.offset, none⟩)) H n⟩
noncomputable def partOf (P : Program) (t : TypeId) (off : Nat) (l : List Value) : Option Value :=
  cond (isAggD (P.underlying t)) ((sizeT P t).bind fun n => (cut l off n).map aggOf) ((P.underlying t).bind fun _ => lget l off)
noncomputable def cField (P : Program) (s : TypeId) (x : Operand) (f : Nat) : CO :=
  coO (structD (P.underlying s)) fun fs => coO (lget fs f) fun f => ⟨fun T H n => onAgg (ev T x) fun cs => onO (partOf P f.type f.offset cs) fun v => .ok v H n⟩
noncomputable def ixA (s : Nat) (a : Addr) (len i : Nat) (H : Hp) (n : Nat) : OR :=
  chk (Nat.ble (Nat.succ i) len) (.ok (.pointer (some ⟨a.block, Nat.add a.off (Nat.mul i s), none⟩)) H n)
noncomputable def cIndexAddr (P : Program) (t : TypeId) (x ix : Operand) : CO :=
  match arrayD (P.underlying t) with
  | some p => coO (sizeT P p.2) fun s => ⟨fun T H n => onPtr (ev T x) fun a => onNat (ev T ix) fun i => ixA s a p.1 i H n⟩
  | none => coO (sliceD (P.underlying t)) fun e => coO (sizeT P e) fun s => ⟨fun T H n => onSl (ev T x) fun a len _ => onNat (ev T ix) fun i => ixA s a len i H n⟩

noncomputable def fillL (place : Nat → Option (Nat × Nat)) (ps : List (Nat × Value)) : List Value → Option (List Value) :=
  List.rec (fun cells => some cells) (fun p _ ih cells =>
    (place p.1).bind fun q => cond (Nat.beq p.2.cells.toList.length q.2) ((setAt cells q.1 p.2.cells.toList).bind ih) none) ps
noncomputable def placesL (P : Program) (fs : List Field) : Option (List (Nat × Nat)) :=
  List.rec (some []) (fun f _ ih => (sizeT P f.type).bind fun s => ih.map fun r => (f.offset, s) :: r) fs
noncomputable def valsOf (T : Tm) (ps : List (Nat × Operand)) : List (Nat × Value) := List.rec [] (fun p _ ih => (p.1, ev T p.2) :: ih) ps
noncomputable def zerosT (P : Program) (t : TypeId) : Option (List Value) := (zeroT P t).bind fun z => cond (all0 z) (some z) none
noncomputable def cBuild (P : Program) (t : TypeId) (ps : List (Nat × Operand)) : CO :=
  coO (zerosT P t) fun z =>
    match structD (P.underlying t) with
    | some fs => coO (placesL P fs) fun pl => ⟨fun T H n => onO (fillL (lget pl) (valsOf T ps) z) fun c => .ok (aggOf c) H n⟩
    | none => coO (arrayD (P.underlying t)) fun p => coO (sizeT P p.2) fun s => ⟨fun T H n => onO (fillL (fun i => some (Nat.mul i s, s)) (valsOf T ps) z) fun c => .ok (aggOf c) H n⟩
noncomputable def repl (k : Nat) (z : List Value) : List Value := Nat.rec [] (fun _ ih => z ++ ih) k
noncomputable def cBuildSlice (P : Program) (t len : Nat) (ps : List (Nat × Operand)) : CO :=
  coO (sliceD (P.underlying t)) fun e => coO (sizeT P e) fun s => coO (zerosT P e) fun z => coIf (cond (Nat.beq z.length s) (cond (Nat.ble 1 s) (Nat.ble (Nat.mul len s) 16777215) false) false)
    ⟨fun T H n => onO (fillL (fun i => some (Nat.mul i s, s)) (valsOf T ps) (repl len z)) fun c => newS H n c e len len⟩
noncomputable def cMakeSlice (P : Program) (t : TypeId) (l c : Operand) : CO :=
  coO (sliceD (P.underlying t)) fun e => coO (P.info? e) fun i => coO (zerosT P e) fun z => coIf (Nat.beq z.length i.size)
    ⟨fun T H n => onNat (ev T l) fun l => onNat (ev T c) fun c => chk (cond (Nat.ble l c) (cond (Nat.ble (Nat.mul c i.bytes) 1099511627776) (Nat.ble c 1099511627776) false) false) (newS H n (repl c z) e l c)⟩

noncomputable def cellsOfSlice (H : Hp) (size : Nat) : Value → Option (List Value)
  | .slice none _ _ => some []
  | .slice (some a) n _ => (cellsAt H a.block).bind fun p => cut p.1 a.off (Nat.mul n size)
  | .string s => some (s.data.toList.map fun b => .int .u8 b.toNat)
  | _ => none
def lenS : Value → Option Nat
  | .slice none 0 _ => some 0
  | .slice (some _) n _ => some n
  | .string s => some s.size
  | _ => none
noncomputable def appIn (H : Hp) (n : Nat) (size : Nat) (e : TypeId) (a : Addr) (sLen sCap k : Nat) (new : List Value) (p : List Value × TypeId) : OR :=
  cond (Nat.beq sCap unk)
    (chk (cond (Nat.beq a.off 0) (cond (Nat.beq p.1.length (Nat.mul sLen size)) (Nat.beq p.2 e) false) false)
      (.ok (.slice (some ⟨n, 0, none⟩) (Nat.add sLen k) unk) (hset (hset H a.block .dead) n (.cells (p.1 ++ new) e)) (Nat.succ n)))
    (cond (Nat.ble (Nat.add sLen k) sCap)
      (writeAt H n a.block (Nat.add a.off (Nat.mul sLen size)) new (.slice (some ⟨a.block, a.off, none⟩) (Nat.add sLen k) sCap))
      (onO (cut p.1 a.off (Nat.mul sLen size)) fun old => newS H n (old ++ new) e (Nat.add sLen k) unk))
noncomputable def appTo (H : Hp) (n : Nat) (size : Nat) (e : TypeId) (k : Nat) (new : List Value) (bound : Nat → Bool) : Value → OR
  | .slice none 0 0 => cond (Nat.beq k 0) (.ok (.slice none 0 0) H n) (chk (bound k) (newS H n new e k unk))
  | .slice (some a) sLen sCap => cond (Nat.beq k 0) (chk (cond (Nat.beq sCap unk) true (Nat.ble sLen sCap)) (.ok (.slice (some a) sLen sCap) H n))
      (chk (bound (Nat.add sLen k)) (onO (cellsAt H a.block) fun p => appIn H n size e a sLen sCap k new p))
  | _ => .bad
def notInt : Option TypeDesc → Bool
  | some (.int _) => false
  | some _ => true
  | none => false
noncomputable def cAppend (P : Program) (sT xT : TypeId) (s x : Operand) : CO :=
  coIf (notInt (P.underlying xT)) (coO (sliceD (P.underlying sT)) fun e => coO (P.info? e) fun i => coO (zerosT P e) fun z =>
    coIf (cond (Nat.ble 1 i.size) (cond (Nat.ble 1 i.bytes) (Nat.beq z.length i.size) false) false)
    ⟨fun T H n => onO (lenS (ev T x)) fun k => onO (cellsOfSlice H i.size (ev T x)) fun new => chk (cond (all1 new) (Nat.beq new.length (Nat.mul k i.size)) false)
      (appTo H n i.size e k new (fun m => Nat.ble (Nat.mul m i.bytes) 1099511627776) (ev T s))⟩)

def natOf : Value → Option Nat
  | .int _ (.ofNat n) => some n
  | _ => none
def boundOf (d : Nat) : Option Value → Option Nat
  | some v => natOf v
  | none => some d
noncomputable def boundsS (len cap : Nat) (lo hi : Option Value) (f : Nat → Nat → OR) : OR :=
  onO (boundOf 0 lo) fun l => onO (boundOf len hi) fun h => chk (cond (Nat.ble l h) (Nat.ble h cap) false) (f l h)
noncomputable def slKn (sz : Nat) (a : Addr) (len cap : Nat) (lo hi : Option Value) (H : Hp) (n : Nat) : OR :=
  chk (Nat.ble cap 1099511627776) <| boundsS len cap lo hi fun l h => .ok (.slice (some (cond (Nat.beq cap l) a ⟨a.block, Nat.add a.off (Nat.mul l sz), none⟩)) (Nat.sub h l) (Nat.sub cap l)) H n
noncomputable def slUnk (sz : Nat) (a : Addr) (len : Nat) (lo hi : Option Value) (H : Hp) (n : Nat) : OR :=
  boundsS len len lo hi fun l h => cond (Nat.beq l 0) (.ok (.slice (some a) h unk) H n)
    (chk (cond (Nat.ble (Nat.succ l) len) (Nat.ble 1 sz) false) (.ok (.slice (some ⟨a.block, Nat.add a.off (Nat.mul l sz), none⟩) (Nat.sub h l) unk) H n))
def isStr : Option TypeDesc → Bool
  | some .string => true
  | _ => false
def onStr (v : Value) (f : ByteArray → OR) : OR := match v with
  | .string s => f s
  | _ => .bad
noncomputable def cSlice (P : Program) (t : TypeId) (x : Operand) (lo hi : Option Operand) : CO :=
  cond (isStr (P.underlying t))
    ⟨fun T H n => onStr (ev T x) fun s => boundsS s.size s.size (lo.map (ev T)) (hi.map (ev T)) fun l h => .ok (.string (s.extract l h)) H n⟩
    (match arrayD (P.underlying t) with
    | some p => coO (sizeT P p.2) fun sz => ⟨fun T H n => onPtr (ev T x) fun a => slKn sz a p.1 p.1 (lo.map (ev T)) (hi.map (ev T)) H n⟩
    | none => coO (sliceD (P.underlying t)) fun e => coO (sizeT P e) fun sz => ⟨fun T H n => onSl (ev T x) fun a len cap =>
        cond (Nat.beq cap unk) (slUnk sz a len (lo.map (ev T)) (hi.map (ev T)) H n) (slKn sz a len cap (lo.map (ev T)) (hi.map (ev T)) H n)⟩)

inductive EqK where | ptr | slice | func | iface | other
def eqK : Option TypeDesc → EqK
  | some (.pointer _) => .ptr
  | some (.slice _) => .slice
  | some (.func _ _ _) => .func
  | some (.interface _) => .iface
  | _ => .other
def eqOp : EqK → Value → Value → Option Bool
  | .ptr, .pointer (some _), .pointer none => some false
  | .ptr, .pointer none, .pointer (some _) => some false
  | .slice, .slice (some _) _ _, .slice none _ _ => some false
  | .slice, .slice none _ _, .slice (some _) _ _ => some false
  | .func, .func _ _ _, .nilFunc => some false
  | .func, .nilFunc, .func _ _ _ => some false
  | .iface, .iface _ _, .nilIface => some false
  | .iface, .nilIface, .iface _ _ => some false
  | _, _, _ => none

noncomputable def plainOp (P : Program) (T : Tm) (H : Hp) (n : Nat) (o : Oper) : OR :=
  match prun P (execOp (ev T) o) with
  | some (.value v) => chk (plain v) (.ok v H n)
  | _ => .bad
noncomputable def fast64 (n : Int) (H : Hp) (k : Nat) (els : OR) : OR := match n with
  | .ofNat m => cond (Nat.ble m 9223372036854775807) (.ok (.int .i64 (.ofNat m)) H k) els
  | .negSucc m => cond (Nat.ble m 9223372036854775807) (.ok (.int .i64 (.negSucc m)) H k) els
noncomputable def evEq (P : Program) (t : TypeId) (op : BinOp) (x y : Value) (H : Hp) (n : Nat) : OR :=
  onO (eqOp (eqK (P.underlying t)) x y) fun b => match op with
    | .eql => .ok (.bool b) H n
    | .neq => .ok (.bool (!b)) H n
    | _ => .bad
noncomputable def evBin (P : Program) (T : Tm) (H : Hp) (n : Nat) (o : Oper) (op : BinOp) (t : TypeId) (x y : Value) : OR :=
  cond (cond (plain x) (plain y) false) (plainOp P T H n o) (evEq P t op x y H n)
noncomputable def onInts (x y : Value) (f : Int → Int → OR) (els : OR) : OR := match x, y with
  | .int .i64 a, .int .i64 b => f a b
  | _, _ => els
noncomputable def cBinOp (P : Program) (o : Oper) (t : TypeId) (x y : Operand) : BinOp → CO
  | .add => ⟨fun T H n => onInts (ev T x) (ev T y) (fun a b => fast64 (a + b) H n (evBin P T H n o .add t (ev T x) (ev T y))) (evBin P T H n o .add t (ev T x) (ev T y))⟩
  | .sub => ⟨fun T H n => onInts (ev T x) (ev T y) (fun a b => fast64 (a - b) H n (evBin P T H n o .sub t (ev T x) (ev T y))) (evBin P T H n o .sub t (ev T x) (ev T y))⟩
  | .mul => ⟨fun T H n => onInts (ev T x) (ev T y) (fun a b => fast64 (a * b) H n (evBin P T H n o .mul t (ev T x) (ev T y))) (evBin P T H n o .mul t (ev T x) (ev T y))⟩
  | .eql => ⟨fun T H n => onInts (ev T x) (ev T y) (fun a b => .ok (.bool (a == b)) H n) (evBin P T H n o .eql t (ev T x) (ev T y))⟩
  | .neq => ⟨fun T H n => onInts (ev T x) (ev T y) (fun a b => .ok (.bool (a != b)) H n) (evBin P T H n o .neq t (ev T x) (ev T y))⟩
  | .lss => ⟨fun T H n => onInts (ev T x) (ev T y) (fun a b => .ok (.bool (decide (a < b))) H n) (evBin P T H n o .lss t (ev T x) (ev T y))⟩
  | .leq => ⟨fun T H n => onInts (ev T x) (ev T y) (fun a b => .ok (.bool (decide (a ≤ b))) H n) (evBin P T H n o .leq t (ev T x) (ev T y))⟩
  | .gtr => ⟨fun T H n => onInts (ev T x) (ev T y) (fun a b => .ok (.bool (decide (a > b))) H n) (evBin P T H n o .gtr t (ev T x) (ev T y))⟩
  | .geq => ⟨fun T H n => onInts (ev T x) (ev T y) (fun a b => .ok (.bool (decide (a ≥ b))) H n) (evBin P T H n o .geq t (ev T x) (ev T y))⟩
  | op => ⟨fun T H n => evBin P T H n o op t (ev T x) (ev T y)⟩

noncomputable def bytesStr (l : List Value) : Option (List UInt8) :=
  List.rec (some []) (fun v _ ih => match v with
    | .int .u8 n => ih.map fun r => UInt8.ofNat n.toNat :: r
    | _ => none) l
def isU8 : Option TypeDesc → Bool
  | some (.int .u8) => true
  | _ => false
def onSl0 (v : Value) (f : Addr → Nat → OR) (els : OR) : OR := match v with
  | .slice (some a) l _ => f a l
  | _ => els
noncomputable def cConvert (P : Program) (o : Oper) (s d : TypeId) (x : Operand) : CO :=
  cond (isStr (P.underlying d))
    (match sliceD (P.underlying s) with
    | some e => coIf (isU8 (P.underlying e)) ⟨fun T H n => onSl0 (ev T x)
        (fun a len => onO (cellsAt H a.block) fun p => onO (cut p.1 a.off len) fun r => onO (bytesStr r) fun bs => .ok (.string ⟨bs.toArray⟩) H n)
        (chk (plain (ev T x)) (plainOp P T H n o))⟩
    | none => ⟨fun T H n => chk (plain (ev T x)) (plainOp P T H n o)⟩)
    ⟨fun T H n => chk (plain (ev T x)) (plainOp P T H n o)⟩
noncomputable def cLen (P : Program) (o : Oper) (t : TypeId) (x : Operand) : CO :=
  match sliceD (P.underlying t) with
  | some _ => ⟨fun T H n => match ev T x with
    | .slice _ k _ => .ok (.int .i64 k) H n
    | _ => .bad⟩
  | none => ⟨fun T H n => chk (plain (ev T x)) (plainOp P T H n o)⟩
noncomputable def allX (T : Tm) (l : List Operand) : Bool := List.rec true (fun x _ ih => cond (plain (ev T x)) ih false) l
noncomputable def cBuiltin (P : Program) (o : Oper) (args : List Operand) (ts : List TypeId) : Builtin → CO
  | .len => match args, ts with
    | [x], [t] => cLen P o t x
    | _, _ => coBad
  | .append => match args, ts with
    | [s, x], [st, xt] => cAppend P st xt s x
    | _, _ => coBad
  | .max | .min => ⟨fun T H n => chk (allX T args) (plainOp P T H n o)⟩
  | _ => coBad

noncomputable def compO (P : Program) (o : Oper) : CO :=
  match o.op with
  | .move x => ⟨fun T H n => .ok (ev T x) H n⟩
  | .assign x => ⟨fun T H n => .ok (ev T x) H n⟩
  | .pick c a b => ⟨fun T H n => onBool (ev T c) fun t => .ok (cond t (ev T a) (ev T b)) H n⟩
  | .alloc e => coO (zerosT P e) fun z => ⟨fun _ H n => newB H n z e⟩
  | .box e x => ⟨fun T H n => newB H n (ev T x).cells.toList e⟩
  | .build t ps => cBuild P t ps.toList
  | .buildSlice t len ps => cBuildSlice P t len ps.toList
  | .load t a => cLoad P t a
  | .store t a x => cStore P t a x
  | .nilCheck x => ⟨fun T H n => onPtr (ev T x) fun a => .ok (.pointer (some a)) H n⟩
  | .makeInterface t x => match eqK (P.underlying t) with
    | .iface => coBad
    | _ => coO (P.underlying t) fun _ => ⟨fun T H n => .ok (.iface t (ev T x)) H n⟩
  | .makeFunc (.func f) first captured => ⟨fun T H n => .ok (.func (.func f) (first.map (ev T)) (captured.map (ev T))) H n⟩
  | .makeSlice t l c => cMakeSlice P t l c
  | .slice t x lo hi none => cSlice P t x lo hi
  | .fieldAddr s x f => cFieldAddr P s x f
  | .field s x f => cField P s x f
  | .indexAddr t x ix => cIndexAddr P t x ix
  | .extract t ix => ⟨fun T H n => onTup (ev T t) fun vs => onO (lget vs ix) fun v => .ok v H n⟩
  | .call { callee := .builtin b, args, argTypes } => cBuiltin P o args.toList argTypes.toList b
  | .convert s d x => cConvert P o s d x
  | .binOp op t x y _ => cBinOp P o t x y op
  | .unOp _ _ x => ⟨fun T H n => chk (plain (ev T x)) (plainOp P T H n o)⟩
  | .index _ x i => ⟨fun T H n => chk (cond (plain (ev T x)) (plain (ev T i)) false) (plainOp P T H n o)⟩
  | _ => coBad

inductive Ex where | normal | exit (id : Nat) | ret | goto (l : Nat)

inductive Task where
  | code (rd : Option Nat) (fn : FuncId) (sz : Nat) (c : Code) (T : Tm)
  | call (f : FuncId) (args : List Value)
  | yield (l : Nat) (args : List Value)

/-- what a task comes to: of a call, the value at 0 -/
inductive R where
  | ok (ex : Ex) (T : Tm) (H : Hp) (n : Nat)
  | bad

noncomputable def put (T : Tm) : Option Tmp → Value → Tm
  | some d, v => tset T d v
  | none, _ => T
noncomputable def ofCall : R → OR
  | .ok _ T H n => .ok (tget T 0) H n
  | .bad => .bad
noncomputable def runCallV (self : Task → Hp → Nat → R) (H : Hp) (n : Nat) (args : List Value) : Value → OR
  | .func (.func g) first cap => ofCall (self (.call g (first.toList ++ args ++ cap.toList)) H n)
  | .func (.yield l) _ _ => ofCall (self (.yield l args) H n)
  | _ => .bad

inductive CK where
  | op (f : Tm → Hp → Nat → OR)
  | call (f : Operand) (args : List Operand)
  | bad
structure CI where
  guard : Option (Tmp × Bool)
  dst : Option Tmp
  k : CK
noncomputable def allOkX (l : List Operand) : Bool := List.rec true (fun x _ ih => cond (okX x) ih false) l
noncomputable def compK (P : Program) (o : Oper) : CK := match o.op with
  | .call { callee := .value f, args, .. } => cond (cond (okX f) (allOkX args.toList) false) (.call f args.toList) .bad
  | op => cond (allOkX op.operands.toList) (match compO P o with | ⟨f⟩ => .op f) .bad
noncomputable def dstOk (sz : Nat) : Option Tmp → Bool
  | some d => Nat.ble (Nat.succ d) sz
  | none => true
noncomputable def compI (P : Program) (sz : Nat) (all : List Oper) (o : Oper) : CI :=
  cond (dstOk sz o.dst)
    (match o.guard with
    | none => ⟨none, o.dst, compK P o⟩
    | some (j, want) => match (lget all j).bind (·.dst) with
      | some t => ⟨some (t, want), o.dst, compK P o⟩
      | none => ⟨none, o.dst, .bad⟩)
    ⟨none, o.dst, .bad⟩
noncomputable def stepK (self : Task → Hp → Nat → R) (T : Tm) (H : Hp) (n : Nat) : CK → OR
  | .op f => f T H n
  | .call f args => runCallV self H n (args.map (ev T)) (ev T f)
  | .bad => .bad
noncomputable def stepI (self : Task → Hp → Nat → R) (T : Tm) (H : Hp) (n : Nat) (c : CI) : OR := match c.guard with
  | none => stepK self T H n c.k
  | some (t, want) => match tget T t with
    | .bool b => cond (cond want b (!b)) (stepK self T H n c.k) (.ok undef H n)
    | _ => .ok undef H n

noncomputable def nextO (d : Option Tmp) (T : Tm) (ih : Tm → Hp → Nat → R) : OR → R
  | .ok v H n => ih (put T d v) H n
  | .bad => .bad
noncomputable def runOps (P : Program) (self : Task → Hp → Nat → R) (sz : Nat) (all : List Oper) (ops : List Oper) : Tm → Hp → Nat → R :=
  List.rec (fun T H n => .ok .normal T H n) (fun o _ ih T H n => match compI P sz all o with
    | c => nextO c.dst T ih (stepI self T H n c)) ops

end Go.Xec
