/-
  THE EXECUTOR, its control: regions that draw their order (in one order of its own, under checks that make every order
  come to the same), blocks, loops, calls, and the range over a function. Definitions alone.
-/
import Derived.Test.YtadaoelabimmkaaGreatDoorXDef
namespace Go.Xec
open Go

/- ## A region that draws its order -/
noncomputable def tb (m i : Nat) : Bool := Nat.beq (Nat.mod (Nat.shiftRight m i) 2) 1
noncomputable def bit (i : Nat) : Nat := Nat.shiftLeft 1 i
noncomputable def sub (a b : Nat) : Bool := Nat.beq (Nat.land a b) a
noncomputable def lnat (l : List Nat) : Nat → Nat := List.rec (fun _ => 0) (fun x _ ih n => Nat.casesOn n x (fun m => ih m)) l
/-- the operations that the edges name, and those that they hang on -/
noncomputable def edgeMask (acc : List Nat) (es : List Edge) : Nat :=
  List.rec 0 (fun e _ ih => cond (Region.binds .any e) (Nat.lor (Nat.lor (bit e.on) (lnat acc e.on)) ih) ih) es
noncomputable def depsL (ops : List Oper) : List Nat → List Nat :=
  List.rec (fun acc => acc) (fun o _ ih acc => ih (acc ++ [edgeMask acc o.after.toList])) ops

def tmpOf : Operand → Option Tmp
  | .tmp t => some t
  | _ => none
/-- the temporaries that an operation looks at -/
noncomputable def looks (all : List Oper) (o : Oper) : List Tmp :=
  (match o.guard with
  | some (j, _) => ((lget all j).bind (·.dst)).toList
  | none => []) ++ o.op.operands.toList.filterMap tmpOf

inductive Kd where | free | load | eff
def kdOf (P : Program) : Op → Kd
  | .load _ _ => .load
  | .store _ _ _ => .eff
  | .call { callee := .value _, .. } => .eff
  | .call { callee := .invoke _ _, .. } => .eff
  | .call { callee := .builtin .append, .. } => .eff
  | .call { callee := .builtin .copy, .. } => .eff
  | .convert s _ _ => match sliceD (P.underlying s) with
    | some _ => .load
    | none => .free
  | _ => .free
def isEff (P : Program) (o : Op) : Bool := match kdOf P o with
  | .eff => true
  | _ => false
def isLoad (P : Program) (o : Op) : Bool := match kdOf P o with
  | .load => true
  | _ => false
noncomputable def maskOf (p : Op → Bool) (ops : List Oper) : Nat → Nat :=
  List.rec (fun _ => 0) (fun o _ ih i => cond (p o.op) (Nat.lor (bit i) (ih (Nat.succ i))) (ih (Nat.succ i))) ops
/-- what any load hangs on, and the loads -/
noncomputable def loadMask (P : Program) (D : List Nat) (ops : List Oper) : Nat → Nat :=
  List.rec (fun _ => 0) (fun o _ ih i => cond (isLoad P o.op) (Nat.lor (Nat.lor (bit i) (lnat D i)) (ih (Nat.succ i))) (ih (Nat.succ i))) ops
/-- those of 0 .. m - 1 that p holds of and that are not done -/
noncomputable def pickM (p : Nat → Bool) (done m : Nat) : List Nat := (List.range m).filter fun i => cond (tb done i) false (p i)
noncomputable def maskL (l : List Nat) : Nat := List.rec 0 (fun i _ ih => Nat.lor (bit i) ih) l
/-- an order: ahead of each effect what it hangs on, and the loads that can come; then the rest -/
noncomputable def orderL (D : List Nat) (E L m : Nat) (effs : List Nat) : Nat → Nat → List Nat :=
  List.rec (fun done _ => pickM (fun _ => true) done m) (fun e _ ih done prev =>
    match pickM (fun i => cond (Nat.beq i e) false (cond (tb (lnat D e) i) true (cond (tb L i) (sub (Nat.land (lnat D i) E) prev) false))) done m with
    | now => now ++ e :: ih (Nat.lor (Nat.lor done (maskL now)) (bit e)) (Nat.lor prev (bit e))) effs

structure PI where
  i : Nat
  D : Nat
  kd : Kd
  c : CI

noncomputable def orderOk (D : List Nat) (m : Nat) (ord : List Nat) : Nat → Bool :=
  List.rec (fun done => Nat.beq done (Nat.sub (bit m) 1)) (fun i _ ih done =>
    cond (cond (Nat.ble (Nat.succ i) m) (cond (tb done i) false (sub (lnat D i) done)) false) (ih (Nat.lor done (bit i))) false) ord
def dstNe : Option Tmp → Option Tmp → Bool
  | some a, some b => !(Nat.beq a b)
  | _, _ => true
noncomputable def inL (t : Nat) (l : List Nat) : Bool := List.rec false (fun x _ ih => cond (Nat.beq x t) true ih) l
noncomputable def dstIn (d : Option Tmp) (l : List Tmp) : Option Tmp := match d with
  | some t => cond (inL t l) (some t) none
  | none => none
noncomputable def pairOk (D : List Nat) (i j : Nat) (di dj : Option Tmp) (li : List Tmp) : Bool :=
  cond (Nat.beq i j) true (cond (dstNe di dj) (match dj with
    | some t => cond (inL t li) (cond (tb (lnat D i) j) true (tb (lnat D j) i)) true
    | none => true) false)
noncomputable def rowOk (D : List Nat) (i : Nat) (di : Option Tmp) (li : List Tmp) (ops : List Oper) : Nat → Bool :=
  List.rec (fun _ => true) (fun o _ ih j => cond (pairOk D i j di o.dst li) (ih (Nat.succ j)) false) ops
noncomputable def pairsOk (D : List Nat) (all : List Oper) (ops : List Oper) : Nat → Bool :=
  List.rec (fun _ => true) (fun o _ ih i => cond (rowOk D i o.dst (looks all o) all 0) (ih (Nat.succ i)) false) ops

noncomputable def itemsL (P : Program) (sz : Nat) (all : List Oper) (D : List Nat) (ord : List Nat) : List PI :=
  List.rec [] (fun i _ ih => match lget all i with
    | some o => ⟨i, lnat D i, kdOf P o.op, compI P sz all o⟩ :: ih
    | none => ih) ord
noncomputable def planWith (P : Program) (sz : Nat) (all : List Oper) (D ord : List Nat) : Option (List PI) :=
  cond (cond (orderOk D all.length ord 0) (pairsOk D all all 0) false) (some (itemsL P sz all D ord)) none
noncomputable def planOf (P : Program) (sz : Nat) (all : List Oper) : Option (List PI) :=
  match depsL all [] with
  | D => match maskOf (isEff P) all 0 with
    | E => planWith P sz all D (orderL D E (loadMask P D all 0) all.length ((List.range all.length).filter (tb E)) 0 0)

def veq0 : Value → Value → Bool
  | .bool a, .bool b => cond a b (!b)
  | .int k a, .int l b => cond (decide (k = l)) (decide (a = b)) false
  | .string a, .string b => decide (a.data.toList = b.data.toList)
  | .pointer none, .pointer none => true
  | .pointer (some ⟨a, i, none⟩), .pointer (some ⟨b, j, none⟩) => cond (Nat.beq a b) (Nat.beq i j) false
  | .slice none a i, .slice none b j => cond (Nat.beq a b) (Nat.beq i j) false
  | .slice (some ⟨a, i, none⟩) l c, .slice (some ⟨b, j, none⟩) m d => cond (cond (Nat.beq a b) (Nat.beq i j) false) (cond (Nat.beq l m) (Nat.beq c d) false) false
  | .nilFunc, .nilFunc => true
  | .nilIface, .nilIface => true
  | _, _ => false
noncomputable def veqL (l : List Value) : List Value → Bool :=
  List.rec (fun m => List.casesOn m true (fun _ _ => false)) (fun x _ ih m => List.casesOn m false (fun y m => cond (veq0 x y) (ih m) false)) l
noncomputable def veq : Value → Value → Bool
  | .agg a, .agg b => veqL a.toList b.toList
  | .func (.func f) a b, .func (.func g) c d => cond (Nat.beq f g) (cond (veqL a.toList c.toList) (veqL b.toList d.toList) false) false
  | .func (.yield f) a b, .func (.yield g) c d => cond (Nat.beq f g) (cond (veqL a.toList c.toList) (veqL b.toList d.toList) false) false
  | a, b => veq0 a b

structure Wt where
  i : Nat
  c : CI
  T : Tm
  v : Value
noncomputable def wtOk (self : Task → Hp → Nat → R) (D : Nat) (H : Hp) (n : Nat) (x : Wt) : Bool :=
  cond (tb D x.i) true (match stepI self x.T H n x.c with
    | .ok v _ _ => veq x.v v
    | .bad => false)
noncomputable def wtsOk (self : Task → Hp → Nat → R) (D : Nat) (H : Hp) (n : Nat) (W : List Wt) : Bool :=
  List.rec true (fun x _ ih => cond (wtOk self D H n x) ih false) W
/-- the heap with what a free operation has laid -/
noncomputable def joinH (H H' : Hp) (n n' : Nat) : Option Hp :=
  cond (Nat.beq n' n) (some H) (cond (Nat.beq n' (Nat.succ n)) ((hget H' n).map fun o => hset H n o) none)

/-- state of a drawing region's run: temporaries, heap, next number; the heap behind the last effect; effects done; blocks' makers done; loads done -/
structure DS where
  T : Tm
  H : Hp
  n : Nat
  K : Hp
  E : Nat
  A : Nat
  W : List Wt
noncomputable def drawFree (x : PI) (s : DS) : OR → Option DS
  | .ok v H' n' => (joinH s.H H' s.n n').map fun H'' => { s with T := put s.T x.c.dst v, H := H'', n := n', A := cond (Nat.beq n' s.n) s.A (Nat.lor s.A (bit x.i)) }
  | .bad => none
noncomputable def drawLoad (x : PI) (s : DS) : OR → Option DS
  | .ok v _ _ => cond (sub s.E x.D) (some { s with T := put s.T x.c.dst v, W := ⟨x.i, x.c, s.T, v⟩ :: s.W }) none
  | .bad => none
noncomputable def drawEff (self : Task → Hp → Nat → R) (x : PI) (s : DS) : OR → Option DS
  | .ok v H' n' => cond (cond (sub s.E x.D) (cond (sub s.A x.D) (wtsOk self x.D H' n' s.W) false) false)
      (some { s with T := put s.T x.c.dst v, H := H', n := n', K := H', E := Nat.lor s.E (bit x.i) }) none
  | .bad => none
noncomputable def drawStep (self : Task → Hp → Nat → R) (x : PI) (s : DS) : Option DS := match x.kd with
  | .free => drawFree x s (stepI self s.T .leaf s.n x.c)
  | .load => drawLoad x s (stepI self s.T s.K s.n x.c)
  | .eff => drawEff self x s (stepI self s.T s.H s.n x.c)
noncomputable def drawL (self : Task → Hp → Nat → R) (l : List PI) : DS → R :=
  List.rec (fun s => .ok .normal s.T s.H s.n) (fun x _ ih s => match drawStep self x s with
    | some s => ih s
    | none => .bad) l
noncomputable def runDraw (self : Task → Hp → Nat → R) (T : Tm) (H : Hp) (n : Nat) : Option (List PI) → R
  | some l => drawL self l ⟨T, H, n, H, 0, 0, []⟩
  | none => .bad

/- ## Calls and code -/
noncomputable def readC (P : Program) (H : Hp) (t : TypeId) (a : Addr) : Option Value :=
  (cellsAt H a.block).bind fun p => cond (isAggD (P.underlying t)) ((sizeT P t).bind fun n => (cut p.1 a.off n).map aggOf) ((P.underlying t).bind fun _ => lget p.1 a.off)
def asPtr : Value → Option Addr
  | .pointer (some a) => some a
  | _ => none
noncomputable def resL (P : Program) (T : Tm) (H : Hp) (l : List ResultVar) : Option (List Value) :=
  List.rec (some []) (fun r _ ih => match r with
    | .tmp t => ih.map fun vs => tget T t :: vs
    | .cell a t => (asPtr (tget T a)).bind fun a => (readC P H t a).bind fun v => ih.map fun vs => v :: vs) l
noncomputable def one (v : Value) : Tm := .node .leaf v .leaf
noncomputable def setParams (sz : Nat) (ts : List Tmp) : List Value → Tm → Option Tm :=
  List.rec (fun vs T => List.casesOn vs (some T) (fun _ _ => none)) (fun t _ ih vs T => List.casesOn vs none (fun v vs => cond (Nat.ble (Nat.succ t) sz) (ih vs (tset T t v)) none)) ts
noncomputable def argsT (vs : List Value) : Nat → Tm → Tm := List.rec (fun _ T => T) (fun v _ ih k T => ih (Nat.succ k) (tset T k v)) vs

noncomputable def seqK (self : Task → Hp → Nat → R) (rd : Option Nat) (fn : FuncId) (sz : Nat) (b : Code) : R → R
  | .ok .normal T H n => self (.code rd fn sz b T) H n
  | r => r
noncomputable def blockK (id : Nat) : R → R
  | .ok (.exit i) T H n => cond (Nat.beq i id) (.ok .normal T H n) (.ok (.exit i) T H n)
  | r => r
noncomputable def condK (self : Task → Hp → Nat → R) (rd : Option Nat) (fn : FuncId) (sz : Nat) (a b : Code) (T : Tm) (H : Hp) (n : Nat) : Value → R
  | .bool t => self (.code rd fn sz (cond t a b) T) H n
  | _ => .bad
noncomputable def retK (H : Hp) (n : Nat) : Option (List Value) → R
  | some [v] => .ok .ret (one v) H n
  | some vs => .ok .ret (one (.tuple vs.toArray)) H n
  | none => .bad
noncomputable def callK (P : Program) (fn : Func) : R → R
  | .ok .normal T H n => retK H n (resL P T H fn.results.toList)
  | .ok .ret T H n => retK H n (resL P T H fn.results.toList)
  | _ => .bad

def loopOf : Option AObj → Option ALoop
  | some (.loop r) => some r
  | _ => none
noncomputable def loopAt (H : Hp) (l : Nat) : Option ALoop := loopOf (hget H l)
def onOR {α : Type} (o : Option α) (f : α → R) : R := match o with
  | some a => f a
  | none => .bad
noncomputable def rangeD (H : Hp) (n : Nat) : Option Nat → Option (Nat × Hp × Nat)
  | some l => (loopAt H l).map fun r => (r.defers, H, n)
  | none => some (n, hset H n .defd, Nat.succ n)
noncomputable def rangeCall (self : Task → Hp → Nat → R) (H : Hp) (n lp : Nat) : Value → R
  | .func (.func g) first cap => self (.call g (first.toList ++ (.func (.yield lp) #[] #[]) :: cap.toList)) H n
  | _ => .bad
noncomputable def rangeJump (self : Task → Hp → Nat → R) (rd : Option Nat) (fn : FuncId) (sz : Nat) (T : Tm) (H : Hp) (n : Nat) : Option Code → R
  | none => .ok .normal T H n
  | some c => self (.code rd fn sz c T) H n
def notBusy : LoopState → Bool
  | .busy => false
  | _ => true
def isReady : LoopState → Bool
  | .ready => true
  | _ => false
noncomputable def rangeEnd (self : Task → Hp → Nat → R) (rd : Option Nat) (fn : FuncId) (sz : Nat) (T : Tm) (lp : Nat) : R → R
  | .ok _ _ H n => onOR (loopAt H lp) fun r => cond (notBusy r.state) (rangeJump self rd fn sz T (hset H lp (.loop { r with state := .exhausted })) n r.pending) .bad
  | .bad => .bad
noncomputable def rangeStep (self : Task → Hp → Nat → R) (rd : Option Nat) (fn : FuncId) (sz : Nat) (T : Tm) (H : Hp) (n : Nat) (f : Operand) (ps : List Tmp) (assign body : Code) : R :=
  cond (okX f) (onOR (rangeD H n rd) fun q => rangeEnd self rd fn sz T q.2.2 (rangeCall self (hset q.2.1 q.2.2 (.loop ⟨.ready, none, fn, T, ps, assign, body, q.1, sz⟩)) (Nat.succ q.2.2) q.2.2 (ev T f))) .bad

noncomputable def roundFin (l : Nat) (H : Hp) (n : Nat) (j : Option Code) : R :=
  onOR (loopAt H l) fun r => .ok .ret (one (.bool j.isNone)) (hset H l (.loop { r with state := cond j.isNone .ready .done, pending := j })) n
noncomputable def roundEnd (l : Nat) : R → R
  | .ok .normal _ H n => roundFin l H n none
  | .ok .ret _ H n => roundFin l H n (some .ret)
  | .ok (.exit id) _ H n => roundFin l H n (some (.exit id))
  | .ok (.goto g) _ H n => roundFin l H n (some (.goto g))
  | .bad => .bad
noncomputable def roundBody (self : Task → Hp → Nat → R) (l : Nat) (fn : FuncId) (sz : Nat) (body : Code) : R → R
  | .ok .normal T H n => onOR (loopAt H l) fun r => cond (isReady r.state) (roundEnd l (self (.code (some l) fn sz body T) (hset H l (.loop { r with state := .busy })) n)) .bad
  | _ => .bad
noncomputable def yieldStep (self : Task → Hp → Nat → R) (l : Nat) (args : List Value) (H : Hp) (n : Nat) : R :=
  onOR (loopAt H l) fun r => onOR (setParams r.sz r.params args r.T) fun T => roundBody self l r.fn r.sz r.body (self (.code (some l) r.fn r.sz r.assign T) H n)

noncomputable def codeStep (P : Program) (self : Task → Hp → Nat → R) (rd : Option Nat) (fn : FuncId) (sz : Nat) (T : Tm) (H : Hp) (n : Nat) (c : Code) : R :=
  match c with
  | .skip => .ok .normal T H n
  | .label _ => .ok .normal T H n
  | .seq a b => seqK self rd fn sz b (self (.code rd fn sz a T) H n)
  | .cond c a b => cond (okX c) (condK self rd fn sz a b T H n (ev T c)) .bad
  | .block id b => blockK id (self (.code rd fn sz b T) H n)
  | .loop b => seqK self rd fn sz (.loop b) (self (.code rd fn sz b T) H n)
  | .exit id => .ok (.exit id) T H n
  | .ret => .ok .ret T H n
  | .region _ ops false => runOps P self sz ops.toList ops.toList T H n
  | .region _ ops true => runDraw self T H n (planOf P sz ops.toList)
  | .rangeFunc f ps assign body => rangeStep self rd fn sz T H n f ps.toList assign body
  | _ => .bad

noncomputable def callStep (P : Program) (self : Task → Hp → Nat → R) (f : FuncId) (args : List Value) (H : Hp) (n : Nat) : R :=
  onOR (P.funcs[f]?) fun fn => onOR fn.body fun c => cond (Nat.ble args.length fn.ntmps) (callK P fn (self (.code none f fn.ntmps c (argsT args 0 .leaf)) H n)) .bad

noncomputable def step (P : Program) (self : Task → Hp → Nat → R) (t : Task) (H : Hp) (n : Nat) : R :=
  match t with
  | .code rd fn sz c T => codeStep P self rd fn sz T H n c
  | .call f args => callStep P self f args H n
  | .yield l args => yieldStep self l args H n

noncomputable def run (P : Program) (k : Nat) : Task → Hp → Nat → R :=
  Nat.rec (fun _ _ _ => .bad) (fun _ ih => step P ih) k
end Go.Xec
