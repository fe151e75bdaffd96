/-
  THE EXECUTOR, its relation to the model: when a value, a row of temporaries, a heap of the executor's stands for one of the model's.
-/
import Derived.Test.YtadaoelabimmkaaGreatDoorXRun
import Derived.CallsIn
import Derived.Laws.Sem
namespace Go.Xec
open Go

/- ## The finite map -/
section map
variable {α : Type} (d : α)
theorem Tr.get_leaf (n : Nat) : Tr.get d (.leaf : Tr α) n = d := rfl
theorem Tr.get_node (l r : Tr α) (o : α) (n : Nat) : Tr.get d (.node l o r) n = cond (Nat.beq n 0) o (cond (Nat.beq (n % 2) 1) (Tr.get d l (n / 2)) (Tr.get d r (n / 2 - 1))) := rfl
theorem Tr.set_zero (t : Tr α) (n : Nat) (o : α) : Tr.set d 0 t n o = t := rfl
theorem Tr.set_leaf (f n : Nat) (o : α) : Tr.set d (f + 1) .leaf n o = cond (Nat.beq n 0) (.node .leaf o .leaf) (cond (Nat.beq (n % 2) 1) (.node (Tr.set d f .leaf (n / 2) o) d .leaf) (.node .leaf d (Tr.set d f .leaf (n / 2 - 1) o))) := rfl
theorem Tr.set_node (f n : Nat) (o : α) (l r : Tr α) (x : α) : Tr.set d (f + 1) (.node l x r) n o = cond (Nat.beq n 0) (.node l o r) (cond (Nat.beq (n % 2) 1) (.node (Tr.set d f l (n / 2) o) x r) (.node l x (Tr.set d f r (n / 2 - 1) o))) := rfl
theorem beq_false_of {a b : Nat} (h : a ≠ b) : Nat.beq a b = false := by
  cases hb : Nat.beq a b
  · rfl
  · exact absurd (Nat.eq_of_beq_eq_true hb) h
theorem beq_true_of {a b : Nat} (h : a = b) : Nat.beq a b = true := by subst h; exact Nat.beq_refl a
theorem Tr.get_set (o : α) : ∀ (f : Nat) (t : Tr α) (n m : Nat), n < f → Tr.get d (Tr.set d f t n o) m = if m = n then o else Tr.get d t m := by
  intro f
  induction f with
  | zero => intro t n m h; omega
  | succ f ih =>
    intro t n m h
    cases t with
    | leaf =>
      rw [Tr.set_leaf]
      by_cases hn : n = 0
      · subst hn
        simp only [beq_true_of rfl, cond_true, Tr.get_node, Tr.get_leaf]
        by_cases hm : m = 0
        · simp [hm]
        · simp [beq_false_of hm, hm]
      · rw [beq_false_of hn]
        by_cases h1 : n % 2 = 1
        · rw [beq_true_of h1]
          simp only [cond_false, cond_true, Tr.get_node, Tr.get_leaf]
          by_cases hm : m = 0
          · subst hm; simp; intro h0; omega
          · rw [beq_false_of hm]
            by_cases hm1 : m % 2 = 1
            · rw [beq_true_of hm1]
              simp only [cond_false, cond_true]
              rw [ih _ _ _ (by omega)]
              by_cases e : m = n
              · subst e; simp
              · rw [if_neg e, if_neg (by omega), Tr.get_leaf]
            · rw [beq_false_of hm1]
              simp only [cond_false]
              rw [if_neg (by omega)]
        · rw [beq_false_of h1]
          simp only [cond_false, Tr.get_node, Tr.get_leaf]
          by_cases hm : m = 0
          · subst hm; simp; intro h0; omega
          · rw [beq_false_of hm]
            by_cases hm1 : m % 2 = 1
            · rw [beq_true_of hm1]
              simp only [cond_false, cond_true]
              rw [if_neg (by omega)]
            · rw [beq_false_of hm1]
              simp only [cond_false]
              rw [ih _ _ _ (by omega)]
              by_cases e : m = n
              · subst e; simp
              · rw [if_neg e, if_neg (by omega), Tr.get_leaf]
    | node l x r =>
      rw [Tr.set_node]
      by_cases hn : n = 0
      · subst hn
        simp only [beq_true_of rfl, cond_true, Tr.get_node]
        by_cases hm : m = 0
        · simp [hm]
        · simp [beq_false_of hm, hm]
      · rw [beq_false_of hn]
        by_cases h1 : n % 2 = 1
        · rw [beq_true_of h1]
          simp only [cond_false, cond_true, Tr.get_node]
          by_cases hm : m = 0
          · subst hm; simp; intro h0; omega
          · rw [beq_false_of hm]
            by_cases hm1 : m % 2 = 1
            · rw [beq_true_of hm1]
              simp only [cond_false, cond_true]
              rw [ih _ _ _ (by omega)]
              by_cases e : m = n
              · subst e; simp
              · rw [if_neg e, if_neg (by omega)]
            · rw [beq_false_of hm1]
              simp only [cond_false]
              rw [if_neg (by omega)]
        · rw [beq_false_of h1]
          simp only [cond_false, Tr.get_node]
          by_cases hm : m = 0
          · subst hm; simp; intro h0; omega
          · rw [beq_false_of hm]
            by_cases hm1 : m % 2 = 1
            · rw [beq_true_of hm1]
              simp only [cond_false, cond_true]
              rw [if_neg (by omega)]
            · rw [beq_false_of hm1]
              simp only [cond_false]
              rw [ih _ _ _ (by omega)]
              by_cases e : m = n
              · subst e; simp
              · rw [if_neg e, if_neg (by omega)]
end map
theorem hget_hset (H : Hp) (n m : Nat) (o : AObj) : hget (hset H n o) m = if m = n then some o else hget H m := Tr.get_set none (some o) (n + 1) H n m (Nat.lt_succ_self n)
theorem tget_tset (T : Tm) (n m : Nat) (v : Value) : tget (tset T n v) m = if m = n then v else tget T m := Tr.get_set undef v (n + 1) T n m (Nat.lt_succ_self n)
theorem hget_leaf (n : Nat) : hget .leaf n = none := rfl
theorem tget_leaf (n : Nat) : tget .leaf n = undef := rfl
theorem tget_one (v : Value) : tget (one v) 0 = v := rfl

/- ## Values -/
inductive AllR (R : Value → Value → Prop) : List Value → List Value → Prop
  | nil : AllR R [] []
  | cons {a b : Value} {l m : List Value} (h : R a b) (t : AllR R l m) : AllR R (a :: l) (b :: m)

/-- where a block of the executor's lies in the model's memory, and how many elements an append has made room for in it -/
abbrev Bm := Nat → Option (Nat × Nat)

inductive VR (β : Bm) : Value → Value → Prop
  | bool (b : Bool) : VR β (.bool b) (.bool b)
  | int (k : IntKind) (n : Int) : VR β (.int k n) (.int k n)
  | float (k : FloatKind) (b : Nat) : VR β (.float k b) (.float k b)
  | complex (k : FloatKind) (a b : Nat) : VR β (.complex k a b) (.complex k a b)
  | string (s : ByteArray) : VR β (.string s) (.string s)
  | nilPtr : VR β (.pointer none) (.pointer none)
  | ptr (b o : Nat) (q : Nat × Nat) (h : β b = some q) : VR β (.pointer (some ⟨b, o, none⟩)) (.pointer (some ⟨q.1, o, none⟩))
  | nilSl (l c : Nat) : VR β (.slice none l c) (.slice none l c)
  | sl (b o : Nat) (q : Nat × Nat) (l k k' : Nat) (h : β b = some q) (hk : (k = k' ∧ k ≠ unk) ∨ (k = unk ∧ l ≤ k' ∧ (o = 0 → q.2 = k'))) : VR β (.slice (some ⟨b, o, none⟩) l k) (.slice (some ⟨q.1, o, none⟩) l k')
  | nilMap : VR β (.map none) (.map none)
  | nilChan : VR β (.chan none) (.chan none)
  | nilFunc : VR β .nilFunc .nilFunc
  | nilIface : VR β .nilIface .nilIface
  | func (f : FuncId) (a b c d : Array Value) (h : AllR (VR β) a.toList c.toList) (h' : AllR (VR β) b.toList d.toList) : VR β (.func (.func f) a b) (.func (.func f) c d)
  | yield (l : Nat) (q : Nat × Nat) (h : β l = some q) : VR β (.func (.yield l) #[] #[]) (.func (.yield q.1) #[] #[])
  | iface (t : TypeId) (v w : Value) (h : VR β v w) : VR β (.iface t v) (.iface t w)
  | agg (a b : Array Value) (h : AllR (VR β) a.toList b.toList) : VR β (.agg a) (.agg b)
  | tuple (a b : Array Value) (h : AllR (VR β) a.toList b.toList) : VR β (.tuple a) (.tuple b)

theorem VR.mono {β γ : Bm} {v w : Value} (h : VR β v w) (hb : ∀ i c, β i = some c → γ i = some c) : VR γ v w := by
  refine VR.rec (motive_1 := fun v w _ => VR γ v w) (motive_2 := fun l m _ => AllR (VR γ) l m) ?_ ?_ ?_ ?_ ?_ ?_ ?_ ?_ ?_ ?_ ?_ ?_ ?_ ?_ ?_ ?_ ?_ ?_ ?_ ?_ h
  case refine_1 => exact fun b => .bool b
  case refine_2 => exact fun k n => .int k n
  case refine_3 => exact fun k b => .float k b
  case refine_4 => exact fun k a b => .complex k a b
  case refine_5 => exact fun s => .string s
  case refine_6 => exact .nilPtr
  case refine_7 => exact fun b o q h => .ptr b o q (hb _ _ h)
  case refine_8 => exact fun l c => .nilSl l c
  case refine_9 => exact fun b o q l k k' h hk => .sl b o q l k k' (hb _ _ h) hk
  case refine_10 => exact .nilMap
  case refine_11 => exact .nilChan
  case refine_12 => exact .nilFunc
  case refine_13 => exact .nilIface
  case refine_14 => exact fun f a b c d _ _ h1 h2 => .func f a b c d h1 h2
  case refine_15 => exact fun l q h => .yield l q (hb _ _ h)
  case refine_16 => exact fun t v w _ h => .iface t v w h
  case refine_17 => exact fun a b _ h => .agg a b h
  case refine_18 => exact fun a b _ h => .tuple a b h
  case refine_19 => exact .nil
  case refine_20 => exact fun _ _ h1 h2 => .cons h1 h2

abbrev VL (β : Bm) := AllR (VR β)
theorem AllR.mono {R S : Value → Value → Prop} (h : ∀ a b, R a b → S a b) : ∀ {l m : List Value}, AllR R l m → AllR S l m
  | _, _, .nil => .nil
  | _, _, .cons a b => .cons (h _ _ a) (b.mono h)
theorem VL.mono {β γ : Bm} {l m : List Value} (h : VL β l m) (hb : ∀ i c, β i = some c → γ i = some c) : VL γ l m := AllR.mono (fun _ _ x => x.mono hb) h
theorem AllR.length {R : Value → Value → Prop} : ∀ {l m : List Value}, AllR R l m → l.length = m.length
  | _, _, .nil => rfl
  | _, _, .cons _ b => by simp [b.length]
theorem AllR.append {R : Value → Value → Prop} : ∀ {l m l' m' : List Value}, AllR R l m → AllR R l' m' → AllR R (l ++ l') (m ++ m')
  | _, _, _, _, .nil, h => h
  | _, _, _, _, .cons a b, h => .cons a (b.append h)
theorem AllR.get {R : Value → Value → Prop} : ∀ {l m : List Value}, AllR R l m → ∀ (i : Nat) (v : Value), l[i]? = some v → ∃ w, m[i]? = some w ∧ R v w
  | _, _, .nil, i, v, h => by simp at h
  | _, _, .cons a b, 0, v, h => by simp at h; subst h; exact ⟨_, rfl, a⟩
  | _, _, .cons a b, i + 1, v, h => by simpa using b.get i v (by simpa using h)
theorem lget_eq {α : Type} : ∀ (l : List α) (n : Nat), lget l n = l[n]?
  | [], n => by simp [lget]
  | x :: l, 0 => rfl
  | x :: l, n + 1 => by
    have := lget_eq l n
    simp only [List.getElem?_cons_succ]
    exact this

theorem undef_rel (β : Bm) : VR β undef undef := .tuple #[] #[] .nil

theorem plain0_rel {β : Bm} : ∀ {v : Value}, plain0 v = true → VR β v v
  | .bool b, _ => .bool b
  | .int k n, _ => .int k n
  | .float k n, _ => .float k n
  | .complex k a b, _ => .complex k a b
  | .string s, _ => .string s
  | .pointer none, _ => .nilPtr
  | .slice none l c, _ => .nilSl l c
  | .map none, _ => .nilMap
  | .chan none, _ => .nilChan
  | .nilFunc, _ => .nilFunc
  | .nilIface, _ => .nilIface
theorem all0_rel {β : Bm} : ∀ {l : List Value}, all0 l = true → VL β l l
  | [], _ => .nil
  | v :: l, h => by
    have h' : cond (plain0 v) (all0 l) false = true := h
    cases hv : plain0 v
    · rw [hv] at h'; simp at h'
    · rw [hv] at h'; exact .cons (plain0_rel hv) (all0_rel h')
theorem plain_rel {β : Bm} {v : Value} (h : plain v = true) : VR β v v := by
  unfold plain at h
  split at h
  · exact .agg _ _ (all0_rel h)
  · exact .tuple _ _ (all0_rel h)
  · exact plain0_rel h
theorem plain0_eq {β : Bm} {v w : Value} (h : plain0 v = true) (r : VR β v w) : w = v := by
  cases r <;> first | rfl | simp [plain0] at h
theorem all0_eq {β : Bm} : ∀ {l m : List Value}, all0 l = true → VL β l m → m = l
  | _, _, _, .nil => rfl
  | v :: l, _, h, .cons a b => by
    have h' : cond (plain0 v) (all0 l) false = true := h
    cases hv : plain0 v
    · rw [hv] at h'; simp at h'
    · rw [hv] at h'; rw [plain0_eq hv a, all0_eq h' b]
theorem plain_eq {β : Bm} {v w : Value} (h : plain v = true) (r : VR β v w) : w = v := by
  cases r with
  | agg a b hl => exact congrArg Value.agg (Array.ext' (all0_eq (β := β) h hl))
  | tuple a b hl => exact congrArg Value.tuple (Array.ext' (all0_eq (β := β) h hl))
  | _ => exact plain0_eq (β := β) (by simpa [plain] using h) (by first | assumption | (constructor <;> assumption))

theorem cells_rel {β : Bm} {v w : Value} (h : VR β v w) : VL β v.cells.toList w.cells.toList := by
  cases h with
  | agg a b hl => exact hl
  | _ => exact .cons (by first | assumption | (constructor <;> assumption)) .nil

/- ## Temporaries -/
def TR (β : Bm) (T : Tm) (tmps : Array Value) : Prop := ∀ t, VR β (tget T t) (tmps.getD t undef)
theorem TR.mono {β γ : Bm} {T : Tm} {a : Array Value} (h : TR β T a) (hb : ∀ i c, β i = some c → γ i = some c) : TR γ T a := fun t => (h t).mono hb
theorem getD_set (a : Array Value) (d t : Nat) (v : Value) (h : d < a.size) : (a.setIfInBounds d v).getD t undef = if t = d then v else a.getD t undef := by
  by_cases e : t = d
  · subst e; simp [h]
  · have e' : ¬ d = t := fun x => e x.symm
    simp [e, e']
theorem TR.set {β : Bm} {T : Tm} {a : Array Value} (h : TR β T a) {d : Nat} {v w : Value} (hd : d < a.size) (hv : VR β v w) : TR β (tset T d v) (a.setIfInBounds d w) := fun t => by
  rw [tget_tset, getD_set _ _ _ _ hd]
  split
  · exact hv
  · exact h t

/- ## Heaps -/
inductive ObR (P : Program) (β : Bm) (m : Nat) : AObj → Obj → Prop
  | cells (l l' : List Value) (e : TypeId) (c : Array Value) (rest : List Value) (h : VL β l l') (hc : c.toList = l' ++ rest) (hm : ∀ s, sizeT P e = some s → m * s ≤ c.size) : ObR P β m (.cells l e) (.cells c e (0, 0))
  | loop (r : ALoop) (q : Loop) (x : Nat × Nat) (h1 : q.state = r.state) (h2 : q.pending = r.pending) (h4 : TR β r.T q.tmps) (h5 : q.params.toList = r.params) (h6 : q.assign = r.assign) (h7 : q.body = r.body)
      (h8 : β r.defers = some x) (h8' : x.1 = q.defers) (h9 : q.tmps.size = r.sz) : ObR P β m (.loop r) (.loop q)
  | defd (x : Option (List Deferred)) : ObR P β m .defd (.deferred x)
  | dead (o : Obj) : ObR P β m .dead o
theorem ObR.mono {P : Program} {β γ : Bm} {m : Nat} {o : AObj} {q : Obj} (h : ObR P β m o q) (hb : ∀ i c, β i = some c → γ i = some c) : ObR P γ m o q := by
  cases h with
  | cells l l' e c rest h hc hm => exact .cells l l' e c rest (h.mono hb) hc hm
  | loop r q x h1 h2 h4 h5 h6 h7 h8 h8' h9 => exact .loop r q x h1 h2 (h4.mono hb) h5 h6 h7 (hb _ _ h8) h8' h9
  | defd x => exact .defd x
  | dead => exact .dead _

abbrev Gp := Nat → Option AObj
structure WR (P : Program) (β : Bm) (G : Gp) (w : World) : Prop where
  obj : ∀ i o, G i = some o → ∃ b q, β i = some b ∧ w.heap[b.1]? = some q ∧ ObR P β b.2 o q
  inj : ∀ i j b c o p, G i = some o → G j = some p → o ≠ .dead → p ≠ .dead → β i = some b → β j = some c → b.1 = c.1 → i = j
/-- what lies at b is none of G's -/
def Off (β : Bm) (G : Gp) (b : Nat) : Prop := ∀ i o c, G i = some o → o ≠ .dead → β i = some c → c.1 ≠ b

structure Ext (P : Program) (β : Bm) (G : Gp) (n : Nat) (w : World) (γ : Bm) (G' : Gp) (n' : Nat) (w' : World) : Prop where
  same : ∀ i, (i < n ∨ n' ≤ i) → γ i = β i
  wr : WR P γ G' w'
  size : w.heap.size ≤ w'.heap.size
  frame : ∀ b, b < w.heap.size → Off β G b → w'.heap[b]? = w.heap[b]?
  orig : ∀ i o b, G' i = some o → o ≠ .dead → γ i = some b → w.heap.size ≤ b.1 ∨ ∃ j p c, G j = some p ∧ p ≠ .dead ∧ β j = some c ∧ c.1 = b.1
  keep : ∀ i, G i = some .defd → G' i = some .defd
  kept : ∀ i b, G i = some .defd → β i = some b → w'.heap[b.1]? = w.heap[b.1]?
  os : w'.os = w.os
  out : w'.output = w.output
  tape : w'.tape = w.tape
/-- nothing is numbered from n on, below n' -/
def Fresh (β : Bm) (n n' : Nat) : Prop := ∀ i, n ≤ i → i < n' → β i = none

section
variable {P : Program}
theorem Ext.le {β γ : Bm} {G G' : Gp} {n n' : Nat} {w w' : World} (h : Ext P β G n w γ G' n' w') (hf : Fresh β n n') : ∀ i c, β i = some c → γ i = some c := by
  intro i c hc
  by_cases hi : i < n ∨ n' ≤ i
  · rw [h.same i hi, hc]
  · rw [hf i (by omega) (by omega)] at hc; cases hc

theorem Ext.refl {β : Bm} {G : Gp} {n : Nat} {w : World} (h : WR P β G w) : Ext P β G n w β G n w :=
  ⟨fun _ _ => rfl, h, Nat.le_refl _, fun _ _ _ => rfl, fun i o b h1 h2 h3 => .inr ⟨i, o, b, h1, h2, h3, rfl⟩, fun _ h => h, fun _ _ _ _ => rfl, rfl, rfl, rfl⟩

theorem Ext.trans {β γ δ : Bm} {G G' G'' : Gp} {n n' n'' : Nat} {w w' w'' : World} (h1 : Ext P β G n w γ G' n' w') (h2 : Ext P γ G' n' w' δ G'' n'' w'') (l1 : n ≤ n') (l2 : n' ≤ n'') (hf : Fresh β n n'') :
    Ext P β G n w δ G'' n'' w'' := by
  have e1 : ∀ i c, β i = some c → γ i = some c := h1.le fun i a b => hf i a (by omega)
  refine ⟨fun i hi => ?_, h2.wr, Nat.le_trans h1.size h2.size, fun b hb ho => ?_, fun i o b g1 g2 g3 => ?_, fun i g => h2.keep i (h1.keep i g), fun i b g hb => ?_, h2.os.trans h1.os, h2.out.trans h1.out, h2.tape.trans h1.tape⟩
  · rw [h2.same i (by omega), h1.same i (by omega)]
  · rw [h2.frame b (by have := h1.size; omega) ?_, h1.frame b hb ho]
    intro i o c g1 g2 g3 g4
    rcases h1.orig i o c g1 g2 g3 with h | ⟨j, p, d, q1, q2, q3, q4⟩
    · omega
    · exact ho j p d q1 q2 q3 (q4.trans g4)
  · rcases h2.orig i o b g1 g2 g3 with h | ⟨j, p, c, q1, q2, q3, q4⟩
    · exact .inl (Nat.le_trans h1.size h)
    · rcases h1.orig j p c q1 q2 q3 with h | ⟨k, r, d, r1, r2, r3, r4⟩
      · exact .inl (q4 ▸ h)
      · exact .inr ⟨k, r, d, r1, r2, r3, r4.trans q4⟩
  · rw [h2.kept i b (h1.keep i g) (e1 i b hb), h1.kept i b g hb]

theorem WR.congr {β : Bm} {G : Gp} {w w' : World} (h : WR P β G w) (e : w'.heap = w.heap) : WR P β G w' :=
  ⟨fun i o g => by rw [e]; exact h.obj i o g, h.inj⟩
theorem Ext.congr {β γ : Bm} {G G' : Gp} {n n' : Nat} {w w' w'' : World} (h : Ext P β G n w γ G' n' w') (e : w''.heap = w'.heap) (e1 : w''.os = w'.os) (e2 : w''.output = w'.output) (e3 : w''.tape = w'.tape) : Ext P β G n w γ G' n' w'' :=
  ⟨h.same, h.wr.congr e, by rw [e]; exact h.size, fun b hb ho => by rw [e]; exact h.frame b hb ho, h.orig, h.keep, fun i b g hb => by rw [e]; exact h.kept i b g hb, e1.trans h.os, e2.trans h.out, e3.trans h.tape⟩
theorem Ext.congr0 {β γ : Bm} {G G' : Gp} {n n' : Nat} {w w0 w' : World} (h : Ext P β G n w γ G' n' w') (e : w0.heap = w.heap) (e1 : w0.os = w.os) (e2 : w0.output = w.output) (e3 : w0.tape = w.tape) : Ext P β G n w0 γ G' n' w' :=
  ⟨h.same, h.wr, by rw [e]; exact h.size, fun b hb ho => by rw [e]; exact h.frame b (by rw [← e]; exact hb) ho, fun i o b a1 a2 a3 => by rw [e]; exact h.orig i o b a1 a2 a3, h.keep, fun i b g hb => by rw [e]; exact h.kept i b g hb, h.os.trans e1.symm, h.out.trans e2.symm, h.tape.trans e3.symm⟩
theorem WR.sub {β : Bm} {G K : Gp} {w : World} (h : WR P β K w) (hs : ∀ i o, G i = some o → K i = some o) : WR P β G w :=
  ⟨fun i o g => h.obj i o (hs i o g), fun i j b c o p g1 g2 => h.inj i j b c o p (hs _ _ g1) (hs _ _ g2)⟩

/-- THE FRAME RULE: the same beside what it did not see. -/
theorem Ext.beside {β γ : Bm} {G G' K K' : Gp} {n n' : Nat} {w w' : World} (h : Ext P β G n w γ G' n' w') (hf : Fresh β n n') (hK : WR P β K w) (hG : ∀ i o, G i = some o → K i = some o)
    (hout : ∀ i o, K' i = some o → G' i = some o ∨ (G' i = none ∧ G i = none ∧ K i = some o))
    (hkeep : ∀ i, K i = some .defd → K' i = some .defd) :
    Ext P β K n w γ K' n' w' := by
  have e1 := h.le hf
  have off : ∀ i o b, K i = some o → G i = none → o ≠ .dead → β i = some b → Off β G b.1 := fun i o b g1 g2 g3 g4 j p c q1 q2 q3 q4 => by
    have := hK.inj i j b c o p g1 (hG j p q1) g3 q2 g4 q3 q4.symm
    subst this
    rw [g2] at q1; cases q1
  have bound : ∀ i o b, K i = some o → β i = some b → b.1 < w.heap.size := fun i o b g1 g2 => by
    obtain ⟨b', q, h1, h2, _⟩ := hK.obj i o g1
    rw [g2] at h1; cases h1
    exact (Array.getElem?_eq_some_iff.1 h2).1
  have back : ∀ i o b, K i = some o → γ i = some b → β i = some b := fun i o b k g => by
    obtain ⟨b', q, h1, h2, h3⟩ := hK.obj i o k
    have := e1 _ _ h1
    rw [g] at this; cases this; exact h1
  refine ⟨h.same, ⟨fun i o g => ?_, fun i j b c o p g1 g2 d1 d2 b1 b2 bc => ?_⟩, h.size, fun b hb ho => h.frame b hb fun i o c g1 g2 => ho i o c (hG i o g1) g2, fun i o b g1 g2 g3 => ?_, hkeep, fun i b g hb => ?_, h.os, h.out, h.tape⟩
  · rcases hout i o g with g | ⟨g, g0, g'⟩
    · exact h.wr.obj i o g
    · obtain ⟨b, q, h1, h2, h3⟩ := hK.obj i o g'
      by_cases hd : o = .dead
      · subst hd
        have hb := (Array.getElem?_eq_some_iff.1 h2).1
        have hb' : b.1 < w'.heap.size := Nat.lt_of_lt_of_le hb h.size
        exact ⟨b, w'.heap[b.1], e1 _ _ h1, Array.getElem?_eq_getElem hb', .dead _⟩
      · refine ⟨b, q, e1 _ _ h1, ?_, h3.mono e1⟩
        rw [h.frame b.1 (Array.getElem?_eq_some_iff.1 h2).1 (off i o b g' g0 hd h1), h2]
  · -- no two share
    have mix : ∀ i j b c o p, G' i = some o → o ≠ .dead → γ i = some b → (G' j = none ∧ G j = none ∧ K j = some p) → p ≠ .dead → γ j = some c → b.1 = c.1 → False := by
      intro i j b c o p g d gb ⟨_, k0, k1⟩ d' gc bc
      have hbb := back j p c k1 gc
      have hlt := bound j p c k1 hbb
      rcases h.orig i o b g d gb with hh | ⟨x, y, z, q1, q2, q3, q4⟩
      · omega
      · exact off j p c k1 k0 d' hbb x y z q1 q2 q3 (q4.trans bc)
    rcases hout i o g1 with x | x <;> rcases hout j p g2 with y | y
    · exact h.wr.inj i j b c o p x y d1 d2 b1 b2 bc
    · exact (mix i j b c o p x d1 b1 y d2 b2 bc).elim
    · exact (mix j i c b p o y d2 b2 x d1 b1 bc.symm).elim
    · obtain ⟨_, _, x'⟩ := x
      obtain ⟨_, _, y'⟩ := y
      exact hK.inj i j b c o p x' y' d1 d2 (back i o b x' b1) (back j p c y' b2) bc
  · rcases hout i o g1 with x | ⟨_, _, x⟩
    · rcases h.orig i o b x g2 g3 with hh | ⟨j, p, c, q1, q2, q3, q4⟩
      · exact .inl hh
      · exact .inr ⟨j, p, c, hG j p q1, q2, q3, q4⟩
    · exact .inr ⟨i, o, b, x, g2, back i o b x g3, rfl⟩
  · cases hg : G i with
    | some o =>
      have := hG i o hg
      rw [g] at this; cases this
      exact h.kept i b hg hb
    | none => exact h.frame b.1 (bound i _ b g hb) (off i _ b g hg (by simp) hb)
end
end Go.Xec
