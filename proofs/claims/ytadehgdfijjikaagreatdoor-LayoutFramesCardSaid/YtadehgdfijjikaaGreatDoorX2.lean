/-
  THE EXECUTOR, its relation to the model: when a value, a row of temporaries, a heap of the executor's stands for one of the model's.; THE EXECUTOR: what the model's memory does, step by step, as the executor's heap has it: a new block, a write, a row read.
-/
import Derived.Test.YtadehgdfijjikaaGreatDoorX1
import Derived.CallsIn
import Derived.Laws.Sem
import Derived.Laws.CopyRow
set_option linter.all false
namespace Go.Xec
open Go
section map
variable {α : Type} (d : α)
theorem Tr.get_leaf (n : Nat) : Tr.get d (.leaf : Tr α) n = d:=rfl
theorem Tr.get_node (l r : Tr α) (o : α) (n : Nat) : Tr.get d (.node l o r) n = cond (Nat.beq n 0) o (cond (Nat.beq (n % 2) 1) (Tr.get d l (n / 2)) (Tr.get d r (n / 2 - 1))):=rfl
theorem Tr.set_leaf (f n : Nat) (o : α) : Tr.set d (f + 1) .leaf n o = cond (Nat.beq n 0) (.node .leaf o .leaf) (cond (Nat.beq (n % 2) 1) (.node (Tr.set d f .leaf (n / 2) o) d .leaf) (.node .leaf d (Tr.set d f .leaf (n / 2 - 1) o))):=rfl
theorem Tr.set_node (f n : Nat) (o : α) (l r : Tr α) (x : α) : Tr.set d (f + 1) (.node l x r) n o = cond (Nat.beq n 0) (.node l o r) (cond (Nat.beq (n % 2) 1) (.node (Tr.set d f l (n / 2) o) x r) (.node l x (Tr.set d f r (n / 2 - 1) o))):=rfl
theorem x0J {a b : Nat} (h : a ≠ b) : Nat.beq a b = false:=by
  cases hb : Nat.beq a b
  . rfl
  . exact absurd (Nat.eq_of_beq_eq_true hb) h
theorem x0R {a b : Nat} (h : a = b) : Nat.beq a b = true:=by subst h; exact Nat.beq_refl a
theorem Tr.get_set (o : α) : ∀ (f : Nat) (t : Tr α) (n m : Nat),n < f -> Tr.get d (Tr.set d f t n o) m = if m = n then o else Tr.get d t m:=by
  intro f
  induction f with
  | zero=>intro t n m h; omega
  | succ f ih =>
    intro t n m h
    cases t with
    | leaf =>
      rw [Tr.set_leaf]
      by_cases hn : n = 0
      . subst hn
        simp only [x0R rfl,cond_true,Tr.get_node,Tr.get_leaf]
        by_cases hm : m = 0
        . simp [hm]
        . simp [x0J hm,hm]
      . rw [x0J hn]
        by_cases h1 : n % 2 = 1
        . rw [x0R h1]
          simp only [cond_false,cond_true,Tr.get_node,Tr.get_leaf]
          by_cases hm : m = 0
          . subst hm; simp; intro h0; omega
          . rw [x0J hm]
            by_cases hm1 : m % 2 = 1
            . rw [x0R hm1]
              simp only [cond_false,cond_true]
              rw [ih _ _ _ (by omega)]
              by_cases e : m = n
              . subst e; simp
              . rw [if_neg e,if_neg (by omega),Tr.get_leaf]
            . rw [x0J hm1]
              simp only [cond_false]
              rw [if_neg (by omega)]
        . rw [x0J h1]
          simp only [cond_false,Tr.get_node,Tr.get_leaf]
          by_cases hm : m = 0
          . subst hm; simp; intro h0; omega
          . rw [x0J hm]
            by_cases hm1 : m % 2 = 1
            . rw [x0R hm1]
              simp only [cond_false,cond_true]
              rw [if_neg (by omega)]
            . rw [x0J hm1]
              simp only [cond_false]
              rw [ih _ _ _ (by omega)]
              by_cases e : m = n
              . subst e; simp
              . rw [if_neg e,if_neg (by omega),Tr.get_leaf]
    | node l x r =>
      rw [Tr.set_node]
      by_cases hn : n = 0
      . subst hn
        simp only [x0R rfl,cond_true,Tr.get_node]
        by_cases hm : m = 0
        . simp [hm]
        . simp [x0J hm,hm]
      . rw [x0J hn]
        by_cases h1 : n % 2 = 1
        . rw [x0R h1]
          simp only [cond_false,cond_true,Tr.get_node]
          by_cases hm : m = 0
          . subst hm; simp; intro h0; omega
          . rw [x0J hm]
            by_cases hm1 : m % 2 = 1
            . rw [x0R hm1]
              simp only [cond_false,cond_true]
              rw [ih _ _ _ (by omega)]
              by_cases e : m = n
              . subst e; simp
              . rw [if_neg e,if_neg (by omega)]
            . rw [x0J hm1]
              simp only [cond_false]
              rw [if_neg (by omega)]
        . rw [x0J h1]
          simp only [cond_false,Tr.get_node]
          by_cases hm : m = 0
          . subst hm; simp; intro h0; omega
          . rw [x0J hm]
            by_cases hm1 : m % 2 = 1
            . rw [x0R hm1]
              simp only [cond_false,cond_true]
              rw [if_neg (by omega)]
            . rw [x0J hm1]
              simp only [cond_false]
              rw [ih _ _ _ (by omega)]
              by_cases e : m = n
              . subst e; simp
              . rw [if_neg e,if_neg (by omega)]
end map
theorem x0E (H : Hp) (n m : Nat) (o : AObj) : hget (hset H n o) m = if m = n then some o else hget H m:=Tr.get_set none (some o) (n + 1) H n m (Nat.lt_succ_self n)
theorem x7U (T : Tm) (n m : Nat) (v : Value) : tget (tset T n v) m = if m = n then v else tget T m:=Tr.get_set undef v (n + 1) T n m (Nat.lt_succ_self n)
theorem y0J (n : Nat) : hget .leaf n = none:=rfl
theorem v1S (n : Nat) : tget .leaf n = undef:=rfl
inductive AllR (R : Value -> Value -> Prop) : List Value -> List Value -> Prop
  | nil : AllR R [] []
  | cons {a b : Value} {l m : List Value} (h : R a b) (t : AllR R l m) : AllR R (a :: l) (b :: m)
abbrev Bm:=Nat -> Option (Nat × Nat)
inductive VR (β : Bm) : Value -> Value -> Prop
  | bool (b : Bool) : VR β (.bool b) (.bool b)
  | int (k : IntKind) (n : Int) : VR β (.int k n) (.int k n)
  | float (k : FloatKind) (b : Nat) : VR β (.float k b) (.float k b)
  | complex (k : FloatKind) (a b : Nat) : VR β (.complex k a b) (.complex k a b)
  | string (s : ByteArray) : VR β (.string s) (.string s)
  | nilPtr : VR β (.pointer none) (.pointer none)
  | ptr (b o : Nat) (q : Nat × Nat) (h : β b = some q) : VR β (.pointer (some ⟨b,o,none⟩)) (.pointer (some ⟨q.1,o,none⟩))
  | nilSl (l c : Nat) : VR β (.slice none l c) (.slice none l c)
  | sl (b o : Nat) (q : Nat × Nat) (l k k' : Nat) (h : β b = some q) (hk : (k = k' /\ k ≠ unk) \/ (k = unk /\ l <= k' /\ (o = 0 -> q.2 = k'))) : VR β (.slice (some ⟨b,o,none⟩) l k) (.slice (some ⟨q.1,o,none⟩) l k')
  | nilMap : VR β (.map none) (.map none)
  | nilChan : VR β (.chan none) (.chan none)
  | nilFunc : VR β .nilFunc .nilFunc
  | nilIface : VR β .nilIface .nilIface
  | func (f : FuncId) (a b c d : Array Value) (h : AllR (VR β) a.toList c.toList) (h' : AllR (VR β) b.toList d.toList) : VR β (.func (.func f) a b) (.func (.func f) c d)
  | yield (l : Nat) (q : Nat × Nat) (h : β l = some q) : VR β (.func (.yield l) #[] #[]) (.func (.yield q.1) #[] #[])
  | iface (t : TypeId) (v w : Value) (h : VR β v w) : VR β (.iface t v) (.iface t w)
  | agg (a b : Array Value) (h : AllR (VR β) a.toList b.toList) : VR β (.agg a) (.agg b)
  | tuple (a b : Array Value) (h : AllR (VR β) a.toList b.toList) : VR β (.tuple a) (.tuple b)
theorem VR.mono {β γ : Bm} {v w : Value} (h : VR β v w) (hb : ∀ i c, β i = some c -> γ i = some c) : VR γ v w:=by
  refine VR.rec (motive_1:=fun v w _=>VR γ v w) (motive_2:=fun l m _=>AllR (VR γ) l m) ?_ ?_ ?_ ?_ ?_ ?_ ?_ ?_ ?_ ?_ ?_ ?_ ?_ ?_ ?_ ?_ ?_ ?_ ?_ ?_ h
  case refine_1=>exact fun b=> .bool b
  case refine_2=>exact fun k n=> .int k n
  case refine_3=>exact fun k b=> .float k b
  case refine_4=>exact fun k a b=> .complex k a b
  case refine_5=>exact fun s=> .string s
  case refine_6=>exact .nilPtr
  case refine_7=>exact fun b o q h=> .ptr b o q (hb _ _ h)
  case refine_8=>exact fun l c=> .nilSl l c
  case refine_9=>exact fun b o q l k k' h hk=> .sl b o q l k k' (hb _ _ h) hk
  case refine_10=>exact .nilMap
  case refine_11=>exact .nilChan
  case refine_12=>exact .nilFunc
  case refine_13=>exact .nilIface
  case refine_14=>exact fun f a b c d _ _ h1 h2=> .func f a b c d h1 h2
  case refine_15=>exact fun l q h=> .yield l q (hb _ _ h)
  case refine_16=>exact fun t v w _ h=> .iface t v w h
  case refine_17=>exact fun a b _ h=> .agg a b h
  case refine_18=>exact fun a b _ h=> .tuple a b h
  case refine_19=>exact .nil
  case refine_20=>exact fun _ _ h1 h2=> .cons h1 h2
abbrev VL (β : Bm):=AllR (VR β)
theorem AllR.mono {R S : Value -> Value -> Prop} (h : ∀ a b,R a b -> S a b) : ∀ {l m : List Value}, AllR R l m -> AllR S l m
  | _,_, .nil=> .nil
  | _,_, .cons a b=> .cons (h _ _ a) (b.mono h)
theorem VL.mono {β γ : Bm} {l m : List Value} (h : VL β l m) (hb : ∀ i c, β i = some c -> γ i = some c) : VL γ l m:=AllR.mono (fun _ _ x=>x.mono hb) h
theorem AllR.length {R : Value -> Value -> Prop} : ∀ {l m : List Value}, AllR R l m -> l.length = m.length
  | _,_, .nil=>rfl
  | _,_, .cons _ b=>by simp [b.length]
theorem AllR.append {R : Value -> Value -> Prop} : ∀ {l m l' m' : List Value}, AllR R l m -> AllR R l' m' -> AllR R (l ++ l') (m ++ m')
  | _,_,_,_, .nil,h=>h
  | _,_,_,_, .cons a b,h=> .cons a (b.append h)
theorem AllR.get {R : Value -> Value -> Prop} : ∀ {l m : List Value}, AllR R l m -> ∀ (i : Nat) (v : Value),l[i]? = some v -> ∃ w,m[i]? = some w /\ R v w
  | _,_, .nil,i,v,h=>by simp at h
  | _,_, .cons a b, 0,v,h=>by simp at h; subst h; exact ⟨_,rfl,a⟩
  | _,_, .cons a b,i + 1,v,h=>by simpa using b.get i v (by simpa using h)
theorem lget_eq {α : Type} : ∀ (l : List α) (n : Nat),lget l n = l[n]?
  | [],n=>by simp [lget]
  | x :: l, 0=>rfl
  | x :: l,n + 1=>by
    have:=lget_eq l n
    simp only [List.getElem?_cons_succ]
    exact this
theorem y4M (β : Bm) : VR β undef undef:= .tuple #[] #[] .nil
theorem y9F {β : Bm} : ∀ {v : Value}, x5A v = true -> VR β v v
  | .bool b,_=> .bool b
  | .int k n,_=> .int k n
  | .float k n,_=> .float k n
  | .complex k a b,_=> .complex k a b
  | .string s,_=> .string s
  | .pointer none,_=> .nilPtr
  | .slice none l c,_=> .nilSl l c
  | .map none,_=> .nilMap
  | .chan none,_=> .nilChan
  | .nilFunc,_=> .nilFunc
  | .nilIface,_=> .nilIface
theorem x9C {β : Bm} : ∀ {l : List Value}, all0 l = true -> VL β l l
  | [],_=> .nil
  | v :: l,h=>by
    have h' : cond (x5A v) (all0 l) false = true:=h
    cases hv : x5A v
    . rw [hv] at h'; simp at h'
    . rw [hv] at h'; exact .cons (y9F hv) (x9C h')
theorem x4Z {β : Bm} {v : Value} (h : plain v = true) : VR β v v:=by
  unfold plain at h
  split at h
  . exact .agg _ _ (x9C h)
  . exact .tuple _ _ (x9C h)
  . exact y9F h
theorem z6C {β : Bm} {v w : Value} (h : x5A v = true) (r : VR β v w) : w = v:=by
  cases r <;> first | rfl | simp [x5A] at h
theorem u2T {β : Bm} : ∀ {l m : List Value}, all0 l = true -> VL β l m -> m = l
  | _,_,_, .nil=>rfl
  | v :: l,_,h, .cons a b=>by
    have h' : cond (x5A v) (all0 l) false = true:=h
    cases hv : x5A v
    . rw [hv] at h'; simp at h'
    . rw [hv] at h'; rw [z6C hv a,u2T h' b]
theorem y3R {β : Bm} {v w : Value} (h : plain v = true) (r : VR β v w) : w = v:=by
  cases r with
  | agg a b hl=>exact congrArg Value.agg (Array.ext' (u2T (β := β) h hl))
  | tuple a b hl=>exact congrArg Value.tuple (Array.ext' (u2T (β := β) h hl))
  | _=>exact z6C (β := β) (by simpa [plain] using h) (by first | assumption | (constructor <;> assumption))
theorem y6V {β : Bm} {v w : Value} (h : VR β v w) : VL β v.cells.toList w.cells.toList:=by
  cases h with
  | agg a b hl=>exact hl
  | _=>exact .cons (by first | assumption | (constructor <;> assumption)) .nil
def TR (β : Bm) (T : Tm) (tmps : Array Value) : Prop:= ∀ t,VR β (tget T t) (tmps.getD t undef)
theorem TR.mono {β γ : Bm} {T : Tm} {a : Array Value} (h : TR β T a) (hb : ∀ i c, β i = some c -> γ i = some c) : TR γ T a:=fun t=>(h t).mono hb
theorem u5M (a : Array Value) (d t : Nat) (v : Value) (h : d < a.size) : (a.setIfInBounds d v).getD t undef = if t = d then v else a.getD t undef:=by
  by_cases e : t = d
  . subst e; simp [h]
  . have e' : ¬ d = t:=fun x=>e x.symm
    simp [e,e']
theorem TR.set {β : Bm} {T : Tm} {a : Array Value} (h : TR β T a) {d : Nat} {v w : Value} (hd : d < a.size) (hv : VR β v w) : TR β (tset T d v) (a.setIfInBounds d w):=fun t=>by
  rw [x7U,u5M _ _ _ _ hd]
  split
  . exact hv
  . exact h t
inductive ObR (P : Program) (β : Bm) (m : Nat) : AObj -> Obj -> Prop
  | cells (l l' : List Value) (e : TypeId) (c : Array Value) (rest : List Value) (fz : Nat × Nat) (h : VL β l l') (hc : c.toList = l' ++ rest) (hm : ∀ s,x1G P e = some s -> m * s <= c.size) (hz : fz = (0, 0) \/ c.size <= fz.1) : ObR P β m (.cells l e) (.cells c e fz)
  | loop (r : ALoop) (q : Loop) (x : Nat × Nat) (h1 : q.state = r.state) (h2 : q.pending = r.pending) (h4 : TR β r.T q.tmps) (h5 : q.params.toList = r.params) (h6 : q.assign = r.assign) (h7 : q.body = r.body)
      (h8 : β r.defers = some x) (h8' : x.1 = q.defers) (h9 : q.tmps.size = r.sz) : ObR P β m (.loop r) (.loop q)
  | iter (s : ByteArray) (pos : Nat) : ObR P β m (.iter s pos) (.stringIter s pos)
  | defd (x : Option (List Deferred)) : ObR P β m .defd (.deferred x)
  | dead (o : Obj) : ObR P β m .dead o
theorem ObR.mono {P : Program} {β γ : Bm} {m : Nat} {o : AObj} {q : Obj} (h : ObR P β m o q) (hb : ∀ i c, β i = some c -> γ i = some c) : ObR P γ m o q:=by
  cases h with
  | cells l l' e c rest fz h hc hm hz=>exact .cells l l' e c rest fz (h.mono hb) hc hm hz
  | loop r q x h1 h2 h4 h5 h6 h7 h8 h8' h9=>exact .loop r q x h1 h2 (h4.mono hb) h5 h6 h7 (hb _ _ h8) h8' h9
  | iter s pos=>exact .iter s pos
  | defd x=>exact .defd x
  | dead=>exact .dead _
abbrev Gp:=Nat -> Option AObj
class GT where
  tab : Nat -> Option (Array Value)
variable [GT]
def Glob (w : World) : Prop:= ∀ g cs,GT.tab g = some cs -> ∃ e fz,w.heap[g]? = some (.cells cs e fz)
def Off (β : Bm) (G : Gp) (b : Nat) : Prop:= ∀ i o c,G i = some o -> o ≠ .dead -> β i = some c -> c.1 ≠ b
structure WR (P : Program) (β : Bm) (G : Gp) (w : World) : Prop where
  obj : ∀ i o,G i = some o -> ∃ b q, β i = some b /\ w.heap[b.1]? = some q /\ ObR P β b.2 o q
  inj : ∀ i j b c o p,G i = some o -> G j = some p -> o ≠ .dead -> p ≠ .dead -> β i = some b -> β j = some c -> b.1 = c.1 -> i = j
  glob : Glob w
  off : ∀ g cs,GT.tab g = some cs -> Off β G g
theorem Glob.frame {w w' : World} (h : Glob w) (hf : ∀ g cs,GT.tab g = some cs -> g < w.heap.size -> w'.heap[g]? = w.heap[g]?) : Glob w':=fun g cs hg=>by
  obtain ⟨e,fz,h1⟩:=h g cs hg
  exact ⟨e,fz,by rw [hf g cs hg (Array.getElem?_eq_some_iff.1 h1).1]; exact h1⟩
theorem Glob.lt {w : World} (h : Glob w) {g : Nat} {cs : Array Value} (hg : GT.tab g = some cs) : g < w.heap.size:=by
  obtain ⟨e,fz,h1⟩:=h g cs hg
  exact (Array.getElem?_eq_some_iff.1 h1).1
theorem Glob.congr {w w' : World} (h : Glob w) (e : w'.heap = w.heap) : Glob w':=fun g cs hg=>by rw [e]; exact h g cs hg
structure Ext (P : Program) (β : Bm) (G : Gp) (n : Nat) (w : World) (γ : Bm) (G' : Gp) (n' : Nat) (w' : World) : Prop where
  same : ∀ i,(i < n \/ n' <= i) -> γ i = β i
  wr : WR P γ G' w'
  size : w.heap.size <= w'.heap.size
  frame : ∀ b,b < w.heap.size -> Off β G b -> w'.heap[b]? = w.heap[b]?
  orig : ∀ i o b,G' i = some o -> o ≠ .dead -> γ i = some b -> w.heap.size <= b.1 \/ ∃ j p c,G j = some p /\ p ≠ .dead /\ β j = some c /\ c.1 = b.1
  keep : ∀ i,G i = some .defd -> G' i = some .defd
  kept : ∀ i b,G i = some .defd -> β i = some b -> w'.heap[b.1]? = w.heap[b.1]?
  os : w'.os = w.os
  out : w'.output = w.output
  tape : w'.tape = w.tape
def Fresh (β : Bm) (n n' : Nat) : Prop:= ∀ i,n <= i -> i < n' -> β i = none
section
variable {P : Program}
theorem Ext.le {β γ : Bm} {G G' : Gp} {n n' : Nat} {w w' : World} (h : Ext P β G n w γ G' n' w') (hf : Fresh β n n') : ∀ i c, β i = some c -> γ i = some c:=by
  intro i c hc
  by_cases hi : i < n \/ n' <= i
  . rw [h.same i hi,hc]
  . rw [hf i (by omega) (by omega)] at hc; cases hc
theorem Ext.refl {β : Bm} {G : Gp} {n : Nat} {w : World} (h : WR P β G w) : Ext P β G n w β G n w :=
  ⟨fun _ _=>rfl,h,Nat.le_refl _,fun _ _ _=>rfl,fun i o b h1 h2 h3=> .inr ⟨i,o,b,h1,h2,h3,rfl⟩,fun _ h=>h,fun _ _ _ _=>rfl,rfl,rfl,rfl⟩
theorem Ext.trans {β γ δ : Bm} {G G' G'' : Gp} {n n' n'' : Nat} {w w' w'' : World} (h1 : Ext P β G n w γ G' n' w') (h2 : Ext P γ G' n' w' δ G'' n'' w'') (l1 : n <= n') (l2 : n' <= n'') (hf : Fresh β n n'') :
    Ext P β G n w δ G'' n'' w'':=by
  have e1 : ∀ i c, β i = some c -> γ i = some c:=h1.le fun i a b=>hf i a (by omega)
  refine ⟨fun i hi=> ?_,h2.wr,Nat.le_trans h1.size h2.size,fun b hb ho=> ?_,fun i o b g1 g2 g3=> ?_,fun i g=>h2.keep i (h1.keep i g),fun i b g hb=> ?_,h2.os.trans h1.os,h2.out.trans h1.out,h2.tape.trans h1.tape⟩
  . rw [h2.same i (by omega),h1.same i (by omega)]
  . rw [h2.frame b (by have:=h1.size; omega) ?_,h1.frame b hb ho]
    intro i o c g1 g2 g3 g4
    rcases h1.orig i o c g1 g2 g3 with h | ⟨j,p,d,q1,q2,q3,q4⟩
    . omega
    . exact ho j p d q1 q2 q3 (q4.trans g4)
  . rcases h2.orig i o b g1 g2 g3 with h | ⟨j,p,c,q1,q2,q3,q4⟩
    . exact .inl (Nat.le_trans h1.size h)
    . rcases h1.orig j p c q1 q2 q3 with h | ⟨k,r,d,r1,r2,r3,r4⟩
      . exact .inl (q4 ▸ h)
      . exact .inr ⟨k,r,d,r1,r2,r3,r4.trans q4⟩
  . rw [h2.kept i b (h1.keep i g) (e1 i b hb),h1.kept i b g hb]
theorem WR.congr {β : Bm} {G : Gp} {w w' : World} (h : WR P β G w) (e : w'.heap = w.heap) : WR P β G w' :=
  ⟨fun i o g=>by rw [e]; exact h.obj i o g,h.inj,h.glob.congr e,h.off⟩
theorem Ext.congr {β γ : Bm} {G G' : Gp} {n n' : Nat} {w w' w'' : World} (h : Ext P β G n w γ G' n' w') (e : w''.heap = w'.heap) (e1 : w''.os = w'.os) (e2 : w''.output = w'.output) (e3 : w''.tape = w'.tape) : Ext P β G n w γ G' n' w'' :=
  ⟨h.same,h.wr.congr e,by rw [e]; exact h.size,fun b hb ho=>by rw [e]; exact h.frame b hb ho,h.orig,h.keep,fun i b g hb=>by rw [e]; exact h.kept i b g hb,e1.trans h.os,e2.trans h.out,e3.trans h.tape⟩
theorem Ext.congr0 {β γ : Bm} {G G' : Gp} {n n' : Nat} {w w0 w' : World} (h : Ext P β G n w γ G' n' w') (e : w0.heap = w.heap) (e1 : w0.os = w.os) (e2 : w0.output = w.output) (e3 : w0.tape = w.tape) : Ext P β G n w0 γ G' n' w' :=
  ⟨h.same,h.wr,by rw [e]; exact h.size,fun b hb ho=>by rw [e]; exact h.frame b (by rw [<- e]; exact hb) ho,fun i o b a1 a2 a3=>by rw [e]; exact h.orig i o b a1 a2 a3,h.keep,fun i b g hb=>by rw [e]; exact h.kept i b g hb,h.os.trans e1.symm,h.out.trans e2.symm,h.tape.trans e3.symm⟩
theorem WR.sub {β : Bm} {G K : Gp} {w : World} (h : WR P β K w) (hs : ∀ i o,G i = some o -> K i = some o) : WR P β G w :=
  ⟨fun i o g=>h.obj i o (hs i o g),fun i j b c o p g1 g2=>h.inj i j b c o p (hs _ _ g1) (hs _ _ g2),h.glob,fun g cs hg i o c h1=>h.off g cs hg i o c (hs i o h1)⟩
theorem Ext.beside {β γ : Bm} {G G' K K' : Gp} {n n' : Nat} {w w' : World} (h : Ext P β G n w γ G' n' w') (hf : Fresh β n n') (hK : WR P β K w) (hG : ∀ i o,G i = some o -> K i = some o)
    (hout : ∀ i o,K' i = some o -> G' i = some o \/ (G' i = none /\ G i = none /\ K i = some o))
    (hkeep : ∀ i,K i = some .defd -> K' i = some .defd) :
    Ext P β K n w γ K' n' w':=by
  have e1:=h.le hf
  have off : ∀ i o b,K i = some o -> G i = none -> o ≠ .dead -> β i = some b -> Off β G b.1:=fun i o b g1 g2 g3 g4 j p c q1 q2 q3 q4=>by
    have:=hK.inj i j b c o p g1 (hG j p q1) g3 q2 g4 q3 q4.symm
    subst this
    rw [g2] at q1; cases q1
  have bound : ∀ i o b,K i = some o -> β i = some b -> b.1 < w.heap.size:=fun i o b g1 g2=>by
    obtain ⟨b',q,h1,h2,_⟩:=hK.obj i o g1
    rw [g2] at h1; cases h1
    exact (Array.getElem?_eq_some_iff.1 h2).1
  have back : ∀ i o b,K i = some o -> γ i = some b -> β i = some b:=fun i o b k g=>by
    obtain ⟨b',q,h1,h2,h3⟩:=hK.obj i o k
    have:=e1 _ _ h1
    rw [g] at this; cases this; exact h1
  refine ⟨h.same,⟨fun i o g=> ?_,fun i j b c o p g1 g2 d1 d2 b1 b2 bc=> ?_,h.wr.glob,fun g cs hg i o c q1 q2 q3=> ?_⟩,h.size,fun b hb ho=>h.frame b hb fun i o c g1 g2=>ho i o c (hG i o g1) g2,fun i o b g1 g2 g3=> ?_,hkeep,fun i b g hb=> ?_,h.os,h.out,h.tape⟩
  . rcases hout i o g with g | ⟨g,g0,g'⟩
    . exact h.wr.obj i o g
    . obtain ⟨b,q,h1,h2,h3⟩:=hK.obj i o g'
      by_cases hd : o = .dead
      . subst hd
        have hb:=(Array.getElem?_eq_some_iff.1 h2).1
        have hb' : b.1 < w'.heap.size:=Nat.lt_of_lt_of_le hb h.size
        exact ⟨b,w'.heap[b.1],e1 _ _ h1,Array.getElem?_eq_getElem hb', .dead _⟩
      . refine ⟨b,q,e1 _ _ h1, ?_,h3.mono e1⟩
        rw [h.frame b.1 (Array.getElem?_eq_some_iff.1 h2).1 (off i o b g' g0 hd h1),h2]
  ·
    have mix : ∀ i j b c o p,G' i = some o -> o ≠ .dead -> γ i = some b -> (G' j = none /\ G j = none /\ K j = some p) -> p ≠ .dead -> γ j = some c -> b.1 = c.1 -> False:=by
      intro i j b c o p g d gb ⟨_,k0,k1⟩ d' gc bc
      have hbb:=back j p c k1 gc
      have hlt:=bound j p c k1 hbb
      rcases h.orig i o b g d gb with hh | ⟨x,y,z,q1,q2,q3,q4⟩
      . omega
      . exact off j p c k1 k0 d' hbb x y z q1 q2 q3 (q4.trans bc)
    rcases hout i o g1 with x | x <;> rcases hout j p g2 with y | y
    . exact h.wr.inj i j b c o p x y d1 d2 b1 b2 bc
    . exact (mix i j b c o p x d1 b1 y d2 b2 bc).elim
    . exact (mix j i c b p o y d2 b2 x d1 b1 bc.symm).elim
    . obtain ⟨_,_,x'⟩:=x
      obtain ⟨_,_,y'⟩:=y
      exact hK.inj i j b c o p x' y' d1 d2 (back i o b x' b1) (back j p c y' b2) bc
  . rcases hout i o q1 with x | ⟨_,_,x⟩
    . exact h.wr.off g cs hg i o c x q2 q3
    . exact hK.off g cs hg i o c x q2 (back i o c x q3)
  . rcases hout i o g1 with x | ⟨_,_,x⟩
    . rcases h.orig i o b x g2 g3 with hh | ⟨j,p,c,q1,q2,q3,q4⟩
      . exact .inl hh
      . exact .inr ⟨j,p,c,hG j p q1,q2,q3,q4⟩
    . exact .inr ⟨i,o,b,x,g2,back i o b x g3,rfl⟩
  . cases hg : G i with
    | some o =>
      have:=hG i o hg
      rw [g] at this; cases this
      exact h.kept i b hg hb
    | none=>exact h.frame b.1 (bound i _ b g hb) (off i _ b g hg (by simp) hb)
end
end Go.Xec
namespace Go.Xec
variable [GT]
open Go
theorem y0Z (n : Nat) (x : Value) (l : List Value) : z5M (n + 1) (x :: l) = Option.casesOn (motive:=fun _=>Option (List Value)) (z5M n l) none (fun r=>some (x :: r)):=rfl
theorem z6G (v x : Value) (vs l : List Value) : over (v :: vs) (x :: l) = Option.casesOn (motive:=fun _=>Option (List Value)) (over vs l) none (fun r=>some (v :: r)):=rfl
theorem x8N (x : Value) (l vs : List Value) (k : Nat) : x6V (x :: l) (k + 1) vs = Option.casesOn (motive:=fun _=>Option (List Value)) (x6V l k vs) none (fun r=>some (x :: r)):=rfl
theorem z1U : ∀ (n : Nat) (l r : List Value),z5M n l = some r -> r = l.take n /\ n <= l.length
  | 0,l,r,h=>by cases h; simp
  | n + 1,[],r,h=>by cases h
  | n + 1,x :: l,r,h=>by
    have h':=(y0Z n x l).symm.trans h
    cases e : z5M n l with
    | none=>rw [e] at h'; cases h'
    | some q =>
      rw [e] at h'; cases h'
      obtain ⟨h1,h2⟩:=z1U n l q e
      subst h1
      simp; omega
theorem v6B : ∀ (l : List Value) (k n : Nat) (r : List Value),cut l k n = some r -> r = (l.drop k).take n /\ k + n <= l.length
  | [], 0,n,r,h=>by simpa using z1U n [] r h
  | [],k + 1,n,r,h=>by cases h
  | x :: l, 0,n,r,h=>by simpa using z1U n (x :: l) r h
  | x :: l,k + 1,n,r,h=>by
    obtain ⟨h1,h2⟩:=v6B l k n r h
    refine ⟨by simpa using h1,by simp; omega⟩
theorem u0A : ∀ (vs l r : List Value),over vs l = some r -> r = vs ++ l.drop vs.length /\ vs.length <= l.length
  | [],l,r,h=>by cases h; simp
  | v :: vs,[],r,h=>by cases h
  | v :: vs,x :: l,r,h=>by
    have h':=(z6G v x vs l).symm.trans h
    cases e : over vs l with
    | none=>rw [e] at h'; cases h'
    | some q =>
      rw [e] at h'; cases h'
      obtain ⟨h1,h2⟩:=u0A vs l q e
      subst h1
      simp; omega
theorem u3Y : ∀ (l : List Value) (k : Nat) (vs r : List Value),x6V l k vs = some r -> r = l.take k ++ vs ++ l.drop (k + vs.length) /\ k + vs.length <= l.length
  | [], 0,vs,r,h=>by simpa using u0A vs [] r h
  | [],k + 1,vs,r,h=>by cases h
  | x :: l, 0,vs,r,h=>by simpa using u0A vs (x :: l) r h
  | x :: l,k + 1,vs,r,h=>by
    have h':=(x8N x l vs k).symm.trans h
    cases e : x6V l k vs with
    | none=>rw [e] at h'; cases h'
    | some q =>
      rw [e] at h'; cases h'
      obtain ⟨h1,h2⟩:=u3Y l k vs q e
      subst h1
      refine ⟨?_,by simp; omega⟩
      rw [show k + 1 + vs.length = (k + vs.length) + 1 from by omega]
      simp
theorem AllR.take {R : Value -> Value -> Prop} : ∀ (k : Nat) {l m : List Value}, AllR R l m -> AllR R (l.take k) (m.take k)
  | 0,_,_,_=>by simpa using .nil
  | _ + 1,_,_, .nil=> .nil
  | k + 1,_,_, .cons a b=> .cons a (b.take k)
theorem AllR.drop {R : Value -> Value -> Prop} : ∀ (k : Nat) {l m : List Value}, AllR R l m -> AllR R (l.drop k) (m.drop k)
  | 0,_,_,h=>h
  | _ + 1,_,_, .nil=> .nil
  | k + 1,_,_, .cons _ b=>b.drop k
theorem y7T {β : Bm} : ∀ {l m : List Value}, all1 l = true -> VL β l m -> ∀ v ∈ m,v.oneCell' = true
  | _,_,_, .nil=>by simp
  | v :: l,w :: m,h, .cons a b=>by
    have h' : cond (v6N v) (all1 l) false = true:=h
    cases hv : v6N v with
    | false=>rw [hv] at h'; cases h'
    | true =>
      rw [hv] at h'
      intro x hx
      rcases List.mem_cons.1 hx with rfl | hx
      . cases a <;> first | rfl | cases hv
      . exact y7T h' b x hx
theorem x2R {b : Bool} {x : OR} {v : Value} {H : Hp} {n : Nat} (h : chk b x = .ok v H n) : b = true /\ x = .ok v H n:=by
  cases b
  . cases h
  . exact ⟨rfl,h⟩
theorem x1J {α : Type} {o : Option α} {f : α -> OR} {v : Value} {H : Hp} {n : Nat} (h : onO o f = .ok v H n) : ∃ a,o = some a /\ f a = .ok v H n:=by
  cases o with
  | none=>cases h
  | some a=>exact ⟨a,rfl,h⟩
theorem x3Z {x : Value} {f : Addr -> OR} {v : Value} {H : Hp} {n : Nat} (h : x5Z x f = .ok v H n) : ∃ a,x = .pointer (some a) /\ f a = .ok v H n:=by
  unfold x5Z at h; split at h
  . exact ⟨_,rfl,h⟩
  . cases h
theorem onAgg_ok {x : Value} {f : List Value -> OR} {v : Value} {H : Hp} {n : Nat} (h : onAgg x f = .ok v H n) : ∃ a,x = .agg a /\ f a.toList = .ok v H n:=by
  unfold onAgg at h; split at h
  . exact ⟨_,rfl,h⟩
  . cases h
theorem onTup_ok {x : Value} {f : List Value -> OR} {v : Value} {H : Hp} {n : Nat} (h : v3A x f = .ok v H n) : ∃ a,x = .tuple a /\ f a.toList = .ok v H n:=by
  unfold v3A at h; split at h
  . exact ⟨_,rfl,h⟩
  . cases h
theorem v3C {x : Value} {f : Bool -> OR} {v : Value} {H : Hp} {n : Nat} (h : z6K x f = .ok v H n) : ∃ a,x = .bool a /\ f a = .ok v H n:=by
  unfold z6K at h; split at h
  . exact ⟨_,rfl,h⟩
  . cases h
theorem z2H {x : Value} {f : ByteArray -> OR} {v : Value} {H : Hp} {n : Nat} (h : y8N x f = .ok v H n) : ∃ a,x = .string a /\ f a = .ok v H n:=by
  unfold y8N at h; split at h
  . exact ⟨_,rfl,h⟩
  . cases h
theorem y3U {x : Value} {f : Nat -> OR} {v : Value} {H : Hp} {n : Nat} (h : u0D x f = .ok v H n) : ∃ k m,x = .int k (.ofNat m) /\ f m = .ok v H n:=by
  unfold u0D at h; split at h
  . exact ⟨_,_,rfl,h⟩
  . cases h
theorem z2J {x : Value} {f : Addr -> Nat -> Nat -> OR} {v : Value} {H : Hp} {n : Nat} (h : onSl x f = .ok v H n) : ∃ a l c,x = .slice (some a) l c /\ f a l c = .ok v H n:=by
  unfold onSl at h; split at h
  . exact ⟨_,_,_,rfl,h⟩
  . cases h
theorem x1N {α : Type} {o : Option α} {f : α -> CO} {T : Tm} {H H' : Hp} {n n' : Nat} {v : Value} (h : (coO o f).f T H n = .ok v H' n') : ∃ a,o = some a /\ (f a).f T H n = .ok v H' n':=by
  cases o with
  | none=>cases h
  | some a=>exact ⟨a,rfl,h⟩
theorem x4N {b : Bool} {c : CO} {T : Tm} {H H' : Hp} {n n' : Nat} {v : Value} (h : (coIf b c).f T H n = .ok v H' n') : b = true /\ c.f T H n = .ok v H' n':=by
  cases b
  . cases h
  . exact ⟨rfl,h⟩
theorem x0D {a b : Bool} (h : cond a b false = true) : a = true /\ b = true:=by
  cases a
  . cases h
  . exact ⟨rfl,h⟩
theorem x3V {o : Option AObj} {p : List Value × TypeId} (h : cellsOf o = some p) : o = some (.cells p.1 p.2):=by
  unfold cellsOf at h; split at h
  . cases h; rfl
  . cases h
theorem x1E {a b : Nat} (h : Nat.ble a b = true) : a <= b:=Nat.le_of_ble_eq_true h
theorem x0S {a b : Nat} (h : Nat.beq a b = true) : a = b:=Nat.eq_of_beq_eq_true h
def upd (β : Bm) (n : Nat) (b : Nat × Nat) : Bm:=fun i=>if i = n then some b else β i
theorem u3Q {β : Bm} {n : Nat} {b : Nat × Nat} (h : β n = none) : ∀ i c, β i = some c -> upd β n b i = some c:=fun i c hc=>by
  unfold upd
  split
  . rename_i e; subst e; rw [h] at hc; cases hc
  . exact hc
theorem x1F (β : Bm) (n : Nat) (b : Nat × Nat) : upd β n b n = some b:=by simp [upd]
section
variable {P : Program}
theorem WR.fresh {β : Bm} {G : Gp} {w : World} (h : WR P β G w) {n : Nat} (hf : β n = none) : G n = none:=by
  cases hg : G n with
  | none=>rfl
  | some o=>obtain ⟨b,q,h1,_⟩:=h.obj n o hg; rw [hf] at h1; cases h1
theorem WR.lt {β : Bm} {G : Gp} {w : World} (h : WR P β G w) {i : Nat} {b : Nat × Nat} {o : AObj} (hg : G i = some o) (hb : β i = some b) : b.1 < w.heap.size:=by
  obtain ⟨b',q,h1,h2,_⟩:=h.obj i o hg
  rw [hb] at h1; cases h1
  exact (Array.getElem?_eq_some_iff.1 h2).1
theorem WR.at {β : Bm} {G : Gp} {w : World} (h : WR P β G w) {i : Nat} {b : Nat × Nat} {o : AObj} (hg : G i = some o) (hb : β i = some b) : ∃ q,w.heap[b.1]? = some q /\ ObR P β b.2 o q:=by
  obtain ⟨b',q,h1,h2,h3⟩:=h.obj i o hg
  rw [hb] at h1; cases h1
  exact ⟨q,h2,h3⟩
theorem WR.cells {β : Bm} {H : Hp} {w : World} (h : WR P β (hget H) w) {i : Nat} {b : Nat × Nat} {p : List Value × TypeId} (hc : x0Y H i = some p) (hb : β i = some b) :
    ∃ c l' rest fz,w.heap[b.1]? = some (.cells c p.2 fz) /\ VL β p.1 l' /\ c.toList = l' ++ rest /\ (∀ s,x1G P p.2 = some s -> b.2 * s <= c.size) /\ (fz = (0, 0) \/ c.size <= fz.1):=by
  obtain ⟨q,h1,h2⟩:=h.at (x3V hc) hb
  cases h2 with
  | cells l l' e c rest fz hl hc hm hz=>exact ⟨c,l',rest,fz,h1,hl,hc,hm,hz⟩
theorem Ext.new {β : Bm} {H : Hp} {n : Nat} {w : World} (hW : WR P β (hget H) w) (hf : β n = none) {o : AObj} {q : Obj} {m : Nat} (ho : ObR P β m o q) :
    Ext P β (hget H) n w (upd β n (w.heap.size,m)) (hget (hset H n o)) (n + 1) { w with heap:=w.heap.push q } :=by
  have hn:=hW.fresh hf
  have le:=u3Q (b:=(w.heap.size,m)) hf
  have old : ∀ b,b < w.heap.size -> (w.heap.push q)[b]? = w.heap[b]? :=fun b hb=>by
    rw [Array.getElem?_push_lt hb,Array.getElem?_eq_getElem hb]
  refine ⟨fun i hi=> ?_,⟨fun i p hp=> ?_,fun i j b c p r g1 g2 d1 d2 b1 b2 bc=> ?_,hW.glob.frame fun g _ _ hlt=>old g hlt,fun g cs hg i p c k1 k2 k3=> ?_⟩,by simp,fun b hb _=>old b hb,fun i p b g d hb=> ?_,fun i g=> ?_,fun i b g hb=> ?_,rfl,rfl,rfl⟩
  . have : i ≠ n:=by omega
    simp [upd,this]
  . rw [x0E] at hp
    split at hp
    . rename_i e
      subst e
      cases hp
      exact ⟨(w.heap.size,m),q,x1F _ _ _,by simp,ho.mono le⟩
    . obtain ⟨b,r,h1,h2,h3⟩:=hW.obj i p hp
      exact ⟨b,r,le _ _ h1,by rw [old b.1 (Array.getElem?_eq_some_iff.1 h2).1,h2],h3.mono le⟩
  . rw [x0E] at g1 g2
    by_cases e1 : i = n <;> by_cases e2 : j = n
    . rw [e1,e2]
    . subst e1
      rw [if_neg e2] at g2
      rw [x1F] at b1; cases b1
      have b2' : β j = some c:=by simpa [upd,e2] using b2
      have:=hW.lt g2 b2'
      simp only at bc; omega
    . subst e2
      rw [if_neg e1] at g1
      rw [x1F] at b2; cases b2
      have b1' : β i = some b:=by simpa [upd,e1] using b1
      have:=hW.lt g1 b1'
      simp only at bc; omega
    . rw [if_neg e1] at g1
      rw [if_neg e2] at g2
      exact hW.inj i j b c p r g1 g2 d1 d2 (by simpa [upd,e1] using b1) (by simpa [upd,e2] using b2) bc
  . rw [x0E] at k1
    by_cases e : i = n
    . subst e
      rw [x1F] at k3; cases k3
      have:=hW.glob.lt hg
      simp only; omega
    . rw [if_neg e] at k1
      exact hW.off g cs hg i p c k1 k2 (by simpa [upd,e] using k3)
  . rw [x0E] at g
    by_cases e : i = n
    . subst e
      rw [x1F] at hb; cases hb
      exact .inl (Nat.le_refl _)
    . rw [if_neg e] at g
      exact .inr ⟨i,p,b,g,d,by simpa [upd,e] using hb,rfl⟩
  . rw [x0E,if_neg]
    . exact g
    . intro e; subst e; rw [hn] at g; cases g
  . exact old b.1 (hW.lt g hb)
theorem Ext.turn {β : Bm} {H : Hp} {n : Nat} {w w' : World} (hW : WR P β (hget H) w) {i : Nat} {b : Nat × Nat} {o p : AObj} {q : Obj} (hg : hget H i = some o) (hb : β i = some b) (hlive : o ≠ .dead) (hnd : o ≠ .defd)
    (hs : w'.heap.size = w.heap.size) (hq : w'.heap[b.1]? = some q) (hoth : ∀ c,c ≠ b.1 -> w'.heap[c]? = w.heap[c]?) (hR : ObR P β b.2 p q) (h1 : w'.os = w.os) (h2 : w'.output = w.output) (h3 : w'.tape = w.tape) :
    Ext P β (hget H) n w β (hget (hset H i p)) n w':=by
  refine ⟨fun _ _=>rfl,⟨fun j r g=> ?_,fun j k c d r s g1 g2 d1 d2 b1 b2 bc=> ?_,hW.glob.frame fun g cs hgt _=>hoth g fun e=>hW.off g cs hgt i o b hg hlive hb e.symm,fun g cs hgt j r c k1 k2 k3=> ?_⟩,by omega,fun c hc ho=>hoth c (fun e=>ho i o b hg hlive hb e.symm),fun j r c g d hc=> ?_,fun j g=> ?_,fun j c g hc=> ?_,h1,h2,h3⟩
  . rw [x0E] at g
    split at g
    . rename_i e; subst e; cases g
      exact ⟨b,q,hb,hq,hR⟩
    . rename_i e
      obtain ⟨c,x,k1,k2,k3⟩:=hW.obj j r g
      by_cases hcb : c.1 = b.1
      . by_cases hd : r = .dead
        . subst hd; exact ⟨c,q,k1,by rw [hcb]; exact hq, .dead _⟩
        . exact absurd (hW.inj j i c b r o g hg hd hlive k1 hb hcb) e
      . exact ⟨c,x,k1,by rw [hoth c.1 hcb,k2],k3⟩
  . rw [x0E] at g1 g2
    by_cases e1 : j = i <;> by_cases e2 : k = i
    . rw [e1,e2]
    . subst e1; rw [if_neg e2] at g2
      exact hW.inj j k c d o s hg g2 hlive d2 b1 b2 bc
    . subst e2; rw [if_neg e1] at g1
      exact hW.inj j k c d r o g1 hg d1 hlive b1 b2 bc
    . rw [if_neg e1] at g1; rw [if_neg e2] at g2
      exact hW.inj j k c d r s g1 g2 d1 d2 b1 b2 bc
  . rw [x0E] at k1
    by_cases e : j = i
    . subst e; exact hW.off g cs hgt j o c hg hlive k3
    . rw [if_neg e] at k1; exact hW.off g cs hgt j r c k1 k2 k3
  . rw [x0E] at g
    by_cases e : j = i
    . subst e; exact .inr ⟨j,o,c,hg,hlive,hc,rfl⟩
    . rw [if_neg e] at g; exact .inr ⟨j,r,c,g,d,hc,rfl⟩
  . rw [x0E,if_neg]
    . exact g
    . intro e; subst e; rw [hg] at g; cases g; exact hnd rfl
  . refine hoth c.1 fun e=> ?_
    have:=hW.inj j i c b _ o g hg (by simp) hlive hc hb e
    subst this
    rw [hg] at g; cases g; exact hnd rfl
theorem Ext.move {β : Bm} {H : Hp} {n : Nat} {w w' : World} (hW : WR P β (hget H) w) (hf : β n = none) {i : Nat} {b : Nat × Nat} {o p : AObj} {q : Obj} (hg : hget H i = some o) (hb : β i = some b) (hlive : o ≠ .dead) (hnd : o ≠ .defd)
    (hs : w'.heap.size = w.heap.size) (hq : w'.heap[b.1]? = some q) (hoth : ∀ c,c ≠ b.1 -> w'.heap[c]? = w.heap[c]?) (hR : ObR P β b.2 p q) (h1 : w'.os = w.os) (h2 : w'.output = w.output) (h3 : w'.tape = w.tape) :
    Ext P β (hget H) n w (upd β n b) (hget (hset (hset H i .dead) n p)) (n + 1) w':=by
  have hn:=hW.fresh hf
  have le:=u3Q (b:=b) hf
  have get : ∀ j,hget (hset (hset H i .dead) n p) j = if j = n then some p else if j = i then some .dead else hget H j:=fun j=>by rw [x0E,x0E]
  refine ⟨fun j hj=> ?_,⟨fun j r g=> ?_,fun j k c d r s g1 g2 d1 d2 b1 b2 bc=> ?_,hW.glob.frame fun g cs hgt _=>hoth g fun e=>hW.off g cs hgt i o b hg hlive hb e.symm,fun g cs hgt j r c k1 k2 k3=> ?_⟩,by omega,fun c hc ho=>hoth c (fun e=>ho i o b hg hlive hb e.symm),fun j r c g d hc=> ?_,fun j g=> ?_,fun j c g hc=> ?_,h1,h2,h3⟩
  . have : j ≠ n:=by omega
    simp [upd,this]
  . rw [get] at g
    by_cases e : j = n
    . subst e; rw [if_pos rfl] at g; cases g
      exact ⟨b,q,x1F _ _ _,hq,hR.mono le⟩
    . rw [if_neg e] at g
      by_cases e2 : j = i
      . subst e2; rw [if_pos rfl] at g; cases g
        exact ⟨b,q,le _ _ hb,hq, .dead _⟩
      . rw [if_neg e2] at g
        obtain ⟨c,x,k1,k2,k3⟩:=hW.obj j r g
        by_cases hcb : c.1 = b.1
        . by_cases hd : r = .dead
          . subst hd; exact ⟨c,q,le _ _ k1,by rw [hcb]; exact hq, .dead _⟩
          . exact absurd (hW.inj j i c b r o g hg hd hlive k1 hb hcb) e2
        . exact ⟨c,x,le _ _ k1,by rw [hoth c.1 hcb,k2],k3.mono le⟩
  . have old : ∀ j r, hget (hset (hset H i .dead) n p) j = some r -> r ≠ .dead -> j ≠ n -> hget H j = some r /\ j ≠ i /\ upd β n b j = β j := fun j r g d e => by
      rw [get,if_neg e] at g
      by_cases e2 : j = i
      . rw [if_pos e2] at g; cases g; exact absurd rfl d
      . rw [if_neg e2] at g; exact ⟨g,e2,by simp [upd,e]⟩
    by_cases e1 : j = n <;> by_cases e2 : k = n
    . rw [e1,e2]
    . obtain ⟨x1,x2,x3⟩:=old k s g2 d2 e2
      subst e1
      rw [x1F] at b1; cases b1
      rw [x3] at b2
      exact absurd (hW.inj k i d b s o x1 hg d2 hlive b2 hb bc.symm) x2
    . obtain ⟨x1,x2,x3⟩:=old j r g1 d1 e1
      subst e2
      rw [x1F] at b2; cases b2
      rw [x3] at b1
      exact absurd (hW.inj j i c b r o x1 hg d1 hlive b1 hb bc) x2
    . obtain ⟨x1,_,x3⟩:=old j r g1 d1 e1
      obtain ⟨y1,_,y3⟩:=old k s g2 d2 e2
      rw [x3] at b1; rw [y3] at b2
      exact hW.inj j k c d r s x1 y1 d1 d2 b1 b2 bc
  . rw [get] at k1
    by_cases e : j = n
    . subst e
      rw [x1F] at k3; cases k3
      exact hW.off g cs hgt i o b hg hlive hb
    . rw [if_neg e] at k1
      by_cases e2 : j = i
      . rw [if_pos e2] at k1; cases k1; exact absurd rfl k2
      . rw [if_neg e2] at k1
        exact hW.off g cs hgt j r c k1 k2 (by simpa [upd,e] using k3)
  . rw [get] at g
    by_cases e : j = n
    . subst e
      rw [x1F] at hc; cases hc
      exact .inr ⟨i,o,b,hg,hlive,hb,rfl⟩
    . rw [if_neg e] at g
      by_cases e2 : j = i
      . rw [if_pos e2] at g; cases g; exact absurd rfl d
      . rw [if_neg e2] at g
        exact .inr ⟨j,r,c,g,d,by simpa [upd,e] using hc,rfl⟩
  . rw [get,if_neg,if_neg]
    . exact g
    . intro e; subst e; rw [hg] at g; cases g; exact hnd rfl
    . intro e; subst e; rw [hn] at g; cases g
  . refine hoth c.1 fun e=> ?_
    have:=hW.inj j i c b _ o g hg (by simp) hlive hc hb e
    subst this
    rw [hg] at g; cases g; exact hnd rfl
end
section rows
variable {P : Program} {w : World} {b : Nat} {c : Array Value} {e : TypeId}
theorem x4B (b o k : Nat) : (⟨b,o,none⟩ : Addr).add k = ⟨b,o + k,none⟩:=by unfold Addr.add; split <;> simp_all
theorem u2M {fz : Nat × Nat} (hb : w.heap[b]? = some (.cells c e fz)) (o : Nat) : w.cell? ⟨b,o,none⟩ = c.toList[o]? :=by simp [World.cell?, hb]
theorem x6G {fz : Nat × Nat} (hb : w.heap[b]? = some (.cells c e fz)) (o : Nat) (r : List Value) (k : Nat) (hk : r.length = k) (h : ∀ j v,r[j]? = some v -> c.toList[o + j]? = some v) :
    (loadCells ⟨b,o,none⟩ k).run P w = .ok r.toArray w:=by
  subst hk
  exact run_loadCells_list w _ r fun j v hv=>by rw [x4B,u2M hb]; exact h j v hv
theorem x6F (g o : Nat) (t : TypeId) (fz : Nat × Nat) : ∀ (vs : List Value) (i : Nat) (cur : Array Value) (w : World),w.heap[g]? = some (.cells cur t fz) -> (fz = (0, 0) \/ cur.size <= fz.1) -> o + i + vs.length <= cur.size -> (∀ v ∈ vs,v.oneCell' = true) ->
    (storeCells ⟨g,o,none⟩ vs i).run P w = .ok () (w.setRow g (cur.toList.take (o + i) ++ vs ++ cur.toList.drop (o + i + vs.length)).toArray):=by
  intro vs
  induction vs with
  | nil =>
    intro i cur w hg _ _ _
    rw [show (cur.toList.take (o + i) ++ ([] : List Value) ++ cur.toList.drop (o + i + ([] : List Value).length)).toArray = cur by simp,setRow_self w g cur t fz hg]
    rfl
  | cons v rest ih =>
    intro i cur w hg hz hl h1
    have hi : o + i < cur.size:=by simp at hl; omega
    have hcell : w.cell? ⟨g,o + i,none⟩ = some cur[o + i]:=by simp [World.cell?, hg,hi]
    have hfro : w.frozen? ⟨g,o + i,none⟩ = false:=by
      obtain ⟨lo,hi'⟩:=fz
      simp only [World.frozen?, hg]
      rcases hz with e | e
      . cases e; simp
      . have e : cur.size <= lo:=e
        have : ¬ (lo <= o + i):=by omega
        simp [this]
    have hset : w.setCell ⟨g,o + i,none⟩ v = w.setRow g (cur.setIfInBounds (o + i) v):=setCell_eq_setRow w g (o + i) cur t fz v hg
    show ((store ((⟨g,o,none⟩ : Addr).add i) v).bind fun _=>storeCells ⟨g,o,none⟩ rest (i + 1)).run P w = _
    rw [show (store ((⟨g,o,none⟩ : Addr).add i) v).bind (fun _=>storeCells ⟨g,o,none⟩ rest (i + 1)) = (store ((⟨g,o,none⟩ : Addr).add i) v >>= fun _=>storeCells ⟨g,o,none⟩ rest (i + 1)) from rfl,Sem.run_bind,x4B,run_store P w _ v _ (h1 v (by simp)),hcell]
    simp only [hfro,Bool.false_eq_true,if_false,Result.andThen_ok]
    rw [hset,ih (i + 1) (cur.setIfInBounds (o + i) v) _ (setRow_heap w g cur _ t fz hg) (by simpa using hz) (by simp at hl |-; omega) (fun x hx=>h1 x (by simp [hx])),setRow_setRow]
    congr 3
    have e:=list_seg_step cur.toList (o + i) v rest (by simp at hl |-; omega)
    simpa [Array.toList_setIfInBounds,Nat.add_assoc] using e
theorem part_at {β : Bm} {l l' rest : List Value} (hl : VL β l l') (hc : c.toList = l' ++ rest) {o k : Nat} {r : List Value} (hr : cut l o k = some r) :
    ∃ r',VL β r r' /\ r'.length = k /\ ∀ j v,r'[j]? = some v -> c.toList[o + j]? = some v:=by
  obtain ⟨h1,h2⟩:=v6B l o k r hr
  subst h1
  have hlen:=hl.length
  refine ⟨(l'.drop o).take k,(hl.drop o).take k,by simp; omega,fun j v hv=> ?_⟩
  rw [List.getElem?_take] at hv
  split at hv
  . rw [List.getElem?_drop] at hv
    rw [hc,List.getElem?_append_left (by have:=(List.getElem?_eq_some_iff.1 hv).1; exact this)]
    exact hv
  . cases hv
theorem u6F {β : Bm} {l l' rest : List Value} (hl : VL β l l') (hc : c.toList = l' ++ rest) {o : Nat} {v : Value} (hr : lget l o = some v) : ∃ v',VR β v v' /\ c.toList[o]? = some v':=by
  rw [lget_eq] at hr
  obtain ⟨v',h1,h2⟩:=hl.get o v hr
  refine ⟨v',h2, ?_⟩
  rw [hc,List.getElem?_append_left (List.getElem?_eq_some_iff.1 h1).1]
  exact h1
end rows
theorem z5P {β : Bm} {l l' vs us r : List Value} {k : Nat} (h : x6V l k vs = some r) (hl : VL β l l') (hv : VL β vs us) :
    VL β r (l'.take k ++ us ++ l'.drop (k + us.length)) /\ k + us.length <= l'.length:=by
  obtain ⟨h1,h2⟩:=u3Y l k vs r h
  subst h1
  have e1:=hl.length
  have e2:=hv.length
  refine ⟨?_,by omega⟩
  rw [<- e2]
  exact ((hl.take k).append hv).append (hl.drop _)
end Go.Xec
