/-
  THE PURE EXECUTOR, its relation to the executor on the abstract heap.; THE PURE EXECUTOR: its operations come to what the executor's come to: plain operations.; THE PURE EXECUTOR: its operations come to what the executor's come to: strings, structs, pointers.; THE PURE EXECUTOR: its operations come to what the executor's come to: each kind of result.; THE PURE EXECUTOR: two structs of cells that can be compared.; THE PURE EXECUTOR: what an operation that lays and looks at nothing comes to.; THE PURE EXECUTOR: what an operation that lays and looks at nothing comes to: all of them.; THE PURE EXE
-/
import Derived.Test.YtadaoelabimmkaaGreatDoorY1
import Derived.Laws.Strings
set_option linter.all false
namespace Go.Yec
open Go Go.Xec
abbrev Mu := Nat → Option (Option Nat × Nat)
section
variable {D : Type}
mutual
inductive Rep (V : D → List (PV D)) (μ : Mu) (H : Hp) (M : Nat → Prop) : PV D → Value → Prop
  | undef (v : Value) : Rep V μ H M .undef v
  | bool (b : Bool) : Rep V μ H M (.bool b) (.bool b)
  | int (k : IntKind) (n : Int) : Rep V μ H M (.int k n) (.int k n)
  | str (b : ByteArray) : Rep V μ H M (.str b.data.toList) (.string b)
  | agg (l : List (PV D)) (a : Array Value) (h : RepL V μ H M l a.toList) : Rep V μ H M (.agg l) (.agg a)
  | aggI (k : IntKind) (l : List Int) (a : Array Value) (h : a.toList = l.map (Value.int k)) : Rep V μ H M (.aggI k l) (.agg a)
  | tup (l : List (PV D)) (a : Array Value) (h : RepL V μ H M l a.toList) : Rep V μ H M (.tup l) (.tuple a)
  | nilp : Rep V μ H M .nilp (.pointer none)
  | nils : Rep V μ H M .nils (.slice none 0 0)
  | nilf : Rep V μ H M .nilf .nilFunc
  | nili : Rep V μ H M .nili .nilIface
  | lptr (i off x len : Nat) (h : μ i = some (some x, len)) : Rep V μ H M (.lptr i off) (.pointer (some ⟨x, off, none⟩))
  | lelt (i : Nat) (ix : Int) (x len : Nat) (h : μ i = some (some x, len)) (h0 : 0 ≤ ix) (h1 : ix.toNat < len) : Rep V μ H M (.lelt i ix) (.pointer (some ⟨x, ix.toNat, none⟩))
  | lsl (i x len c : Nat) (h : μ i = some (some x, len)) (hc : c = unk ∨ c = len) : Rep V μ H M (.lsl i) (.slice (some ⟨x, 0, none⟩) len c)
  | lsln (i : Nat) (h : μ i = some (none, 0)) : Rep V μ H M (.lsl i) (.slice none 0 0)
  | fsl0 (esz : Nat) (f : Nat → PV D) : Rep V μ H M (.fsl esz 0 f) (.slice none 0 0)
  | fsl (esz n : Nat) (f : Nat → PV D) (x off c : Nat) (l : List Value) (e : TypeId) (hx : ¬ M x) (hg : hget H x = some (.cells l e)) (hl : off + n * esz ≤ l.length) (h : ∀ i, i < n → Rep1 V μ H M esz (f i) ((l.drop (off + i * esz)).take esz)) : Rep V μ H M (.fsl esz n f) (.slice (some ⟨x, off, none⟩) n c)
  | fptr (esz : Nat) (v : PV D) (x off : Nat) (l : List Value) (e : TypeId) (hx : ¬ M x) (hg : hget H x = some (.cells l e)) (hl : off + esz ≤ l.length) (h : Rep1 V μ H M esz v ((l.drop off).take esz)) : Rep V μ H M (.fptr v) (.pointer (some ⟨x, off, none⟩))
  | dat (d : D) (a : Array Value) (h : RepL V μ H M (V d) a.toList) : Rep V μ H M (.dat d) (.agg a)
  | fn (f : FuncId) (a b : List (PV D)) (x y : Array Value) (h1 : RepL V μ H M a x.toList) (h2 : RepL V μ H M b y.toList) : Rep V μ H M (.fn f a b) (.func (.func f) x y)
  | opt1 (C : Ch) (v : PV D) (x : Value) (h : Rep V μ H M v x) : Rep V μ H M (.opt C true v) x
  | opt0 (C : Ch) (v : PV D) : Rep V μ H M (.opt C false v) Go.undef
  | nx1 (p c : Int) : Rep V μ H M (.nx true p c) (.tuple #[.bool true, .int .i64 p, .int .i32 c])
  | nx0 (p c : Int) : Rep V μ H M (.nx false p c) (.tuple #[.bool false])
  | celt (i : Nat) (ix : Int) (n : Nat) (x len : Nat) (h : μ i = some (some x, len)) (h0 : 0 ≤ ix) (h1 : ix.toNat < n) : Rep V μ H M (.celt i ix n) (.pointer (some ⟨x, ix.toNat, none⟩))
  | sel (l : List (PV D)) (ix : Int) (v : PV D) (x : Value) (h0 : 0 ≤ ix) (hl : l[ix.toNat]? = some v) (h : Rep V μ H M v x) : Rep V μ H M (.sel l ix) x
inductive RepL (V : D → List (PV D)) (μ : Mu) (H : Hp) (M : Nat → Prop) : List (PV D) → List Value → Prop
  | nil : RepL V μ H M [] []
  | cons (a : PV D) (x : Value) (l : List (PV D)) (m : List Value) (h : Rep V μ H M a x) (t : RepL V μ H M l m) : RepL V μ H M (a :: l) (x :: m)
inductive Rep1 (V : D → List (PV D)) (μ : Mu) (H : Hp) (M : Nat → Prop) : Nat → PV D → List Value → Prop
  | one (v : PV D) (x : Value) (h : Rep V μ H M v x) : Rep1 V μ H M 1 v [x]
  | agg (n : Nat) (l : List (PV D)) (m : List Value) (h : RepL V μ H M l m) : Rep1 V μ H M n (.agg l) m
  | dat (n : Nat) (d : D) (m : List Value) (h : RepL V μ H M (V d) m) : Rep1 V μ H M n (.dat d) m
end
variable {V : D → List (PV D)} {μ μ' : Mu} {H H' : Hp} {M M' : Nat → Prop}
structure Keep (μ : Mu) (H : Hp) (M : Nat → Prop) (μ' : Mu) (H' : Hp) (M' : Nat → Prop) : Prop where
  mu : ∀ i q, μ i = some q → μ' i = some q
  fz : ∀ x o, ¬ M x → hget H x = some o → ¬ M' x ∧ hget H' x = some o
theorem Rep.keep {v : PV D} {x : Value} (h : Rep V μ H M v x) (k : Keep μ H M μ' H' M') : Rep V μ' H' M' v x := by
  refine Rep.rec (motive_1 := fun v x _ => Rep V μ' H' M' v x) (motive_2 := fun l m _ => RepL V μ' H' M' l m) (motive_3 := fun n v m _ => Rep1 V μ' H' M' n v m) ?_ ?_ ?_ ?_ ?_ ?_ ?_ ?_ ?_ ?_ ?_ ?_ ?_ ?_ ?_ ?_ ?_ ?_ ?_ ?_ ?_ ?_ ?_ ?_ ?_ ?_ ?_ ?_ ?_ ?_ ?_ h
  · exact fun v => .undef v
  · exact fun b => .bool b
  · exact fun k n => .int k n
  · exact fun b => .str b
  · exact fun l a _ h => .agg l a h
  · exact fun k l a h => .aggI k l a h
  · exact fun l a _ h => .tup l a h
  · exact .nilp
  · exact .nils
  · exact .nilf
  · exact .nili
  · exact fun i off x len h => .lptr i off x len (k.mu _ _ h)
  · exact fun i ix x len h h0 h1 => .lelt i ix x len (k.mu _ _ h) h0 h1
  · exact fun i x len c h hc => .lsl i x len c (k.mu _ _ h) hc
  · exact fun i h => .lsln i (k.mu _ _ h)
  · exact fun esz f => .fsl0 esz f
  · exact fun esz n f x off c l e hx hg hl _ ih => .fsl esz n f x off c l e (k.fz _ _ hx hg).1 (k.fz _ _ hx hg).2 hl ih
  · exact fun esz v x off l e hx hg hl _ ih => .fptr esz v x off l e (k.fz _ _ hx hg).1 (k.fz _ _ hx hg).2 hl ih
  · exact fun d a _ h => .dat d a h
  · exact fun f a b x y _ _ h1 h2 => .fn f a b x y h1 h2
  · exact fun C v x _ h => .opt1 C v x h
  · exact fun C v => .opt0 C v
  · exact fun p c => .nx1 p c
  · exact fun p c => .nx0 p c
  · exact fun i ix n x len h h0 h1 => .celt i ix n x len (k.mu _ _ h) h0 h1
  · exact fun l ix v x h0 hl _ h => .sel l ix v x h0 hl h
  · exact .nil
  · exact fun a x l m _ _ h t => .cons a x l m h t
  · exact fun v x _ h => .one v x h
  · exact fun n l m _ h => .agg n l m h
  · exact fun n d m _ h => .dat n d m h
theorem RepL.keep {l : List (PV D)} {m : List Value} (h : RepL V μ H M l m) (k : Keep μ H M μ' H' M') : RepL V μ' H' M' l m := by
  induction l generalizing m with
  | nil => cases h; exact .nil
  | cons a l ih => cases h with
    | cons _ x _ m h t => exact .cons a x l m (h.keep k) (ih t)
theorem RepL.length {l : List (PV D)} {m : List Value} (h : RepL V μ H M l m) : l.length = m.length := by
  induction l generalizing m with
  | nil => cases h; rfl
  | cons a l ih => cases h with
    | cons _ x _ m h t => simp [ih t]
theorem RepL.append {l l' : List (PV D)} {m m' : List Value} (h : RepL V μ H M l m) (h' : RepL V μ H M l' m') : RepL V μ H M (l ++ l') (m ++ m') := by
  induction l generalizing m with
  | nil => cases h; exact h'
  | cons a l ih => cases h with
    | cons _ x _ m h t => exact .cons _ _ _ _ h (ih t)
theorem RepL.get {l : List (PV D)} {m : List Value} (h : RepL V μ H M l m) (i : Nat) (v : PV D) (hi : l[i]? = some v) : ∃ x, m[i]? = some x ∧ Rep V μ H M v x := by
  induction l generalizing m i with
  | nil => simp at hi
  | cons a l ih => cases h with
    | cons _ x _ m h t =>
      cases i with
      | zero => simp at hi; subst hi; exact ⟨x, rfl, h⟩
      | succ i => simpa using ih t i (by simpa using hi)
theorem RepL.drop {l : List (PV D)} {m : List Value} (h : RepL V μ H M l m) (i : Nat) : RepL V μ H M (l.drop i) (m.drop i) := by
  induction l generalizing m i with
  | nil => cases h; simpa using .nil
  | cons a l ih => cases h with
    | cons _ x _ m h t =>
      cases i with
      | zero => exact .cons _ _ _ _ h t
      | succ i => simpa using ih t i
theorem RepL.take {l : List (PV D)} {m : List Value} (h : RepL V μ H M l m) (i : Nat) : RepL V μ H M (l.take i) (m.take i) := by
  induction l generalizing m i with
  | nil => cases h; simpa using .nil
  | cons a l ih => cases h with
    | cons _ x _ m h t =>
      cases i with
      | zero => simpa using .nil
      | succ i => simpa using .cons _ _ _ _ h (ih t i)
theorem Rep.int_of {k : IntKind} {n : Int} {x : Value} (h : Rep V μ H M (.int k n) x) : x = .int k n := by cases h; rfl
theorem Rep.bool_of {b : Bool} {x : Value} (h : Rep V μ H M (.bool b) x) : x = .bool b := by cases h; rfl
theorem Rep.str_of {s : List UInt8} {x : Value} (h : Rep V μ H M (.str s) x) : ∃ b : ByteArray, b.data.toList = s ∧ x = .string b := by cases h; exact ⟨_, rfl, rfl⟩
inductive BlkR (V : D → List (PV D)) (μ : Mu) (H : Hp) (M : Nat → Prop) : Option Nat → Nat → Blk D → Prop
  | cells (x len : Nat) (l : List (PV D)) (xl : List Value) (e : TypeId) (h : hget H x = some (.cells xl e)) (hl : RepL V μ H M l xl) : BlkR V μ H M (some x) len (.cells l)
  | rowI (x e : Nat) (k : IntKind) (l : List Int) (h : hget H x = some (.cells (l.map (Value.int k)) e)) : BlkR V μ H M (some x) l.length (.rowI e k l)
  | rowN (e : Nat) (k : IntKind) : BlkR V μ H M none 0 (.rowI e k [])
  | iter (x len : Nat) (s : ByteArray) (p : Nat) (h : hget H x = some (.iter s p)) : BlkR V μ H M (some x) len (.iter s.data.toList (p : Int))
theorem BlkR.keep {ox : Option Nat} {len : Nat} {b : Blk D} (h : BlkR V μ H M ox len b) (k : Keep μ H M μ' H' M') (he : ∀ x, ox = some x → hget H' x = hget H x) : BlkR V μ' H' M' ox len b := by
  cases h with
  | cells x len l xl e h hl => exact .cells x len l xl e (by rw [he x rfl]; exact h) (hl.keep k)
  | rowI x e k l h => exact .rowI x e k l (by rw [he x rfl]; exact h)
  | rowN e k => exact .rowN e k
  | iter x len s p h => exact .iter x len s p (by rw [he x rfl]; exact h)
def MX (X : Nat → Prop) (μ : Mu) (B : Bt D) : Nat → Prop := fun x => X x ∨ ∃ i s b len, bget B i = some (s, b) ∧ μ i = some (some x, len)
structure HR (V : D → List (PV D)) (X : Nat → Prop) (μ : Mu) (B : Bt D) (m : Nat) (H : Hp) (n : Nat) : Prop where
  blk : ∀ i s b, bget B i = some (s, b) → s < m ∧ ∃ ox len, μ i = some (ox, len) ∧ BlkR V μ H (MX X μ B) ox len b
  inj : ∀ i j s s' b b' x a c, bget B i = some (s, b) → bget B j = some (s', b') → μ i = some (some x, a) → μ j = some (some x, c) → i = j
  nx : ∀ i s b x len, bget B i = some (s, b) → μ i = some (some x, len) → ¬ X x
  lt : ∀ i x len, μ i = some (some x, len) → x < n
  lm : ∀ i q, μ i = some q → i < m
  xlt : ∀ x, X x → x < n
  fresh : ∀ x, n ≤ x → hget H x = none
theorem bget_bset (B : Bt D) (i j : Nat) (o : Option (Nat × Blk D)) : bget (bset B i o) j = if j = i then o else bget B j := Tr.get_set none o (i + 1) B i j (Nat.lt_succ_self i)
theorem pget_pset (T : Tt D) (t u : Nat) (v : PV D) : pget (pset T t v) u = if u = t then v else pget T u := Tr.get_set .undef v (t + 1) T t u (Nat.lt_succ_self t)
structure Gr (μ : Mu) (B : Bt D) (m : Nat) (H : Hp) (n : Nat) (μ' : Mu) (B' : Bt D) (m' : Nat) (H' : Hp) (n' : Nat) : Prop where
  le : n ≤ n'
  lem : m ≤ m'
  mu : ∀ i, i < m → μ' i = μ i
  frame : ∀ x, x < n → (∀ i s b len, bget B i = some (s, b) → μ i ≠ some (some x, len)) → hget H' x = hget H x
  live : ∀ i s b, i < m → bget B' i = some (s, b) → ∃ s' b', bget B i = some (s', b')
  new : ∀ i s b x len, m ≤ i → bget B' i = some (s, b) → μ' i = some (some x, len) → n ≤ x ∨ ∃ j s' b' c, bget B j = some (s', b') ∧ μ j = some (some x, c)
  st : ∀ i s b, bget B' i = some (s, b) → s < m → bget B i = some (s, b)
  kept : ∀ i s b x len, i < m → bget B' i = some (s, b) → s < m → μ i = some (some x, len) → hget H' x = hget H x
theorem Gr.refl (μ : Mu) (B : Bt D) (m : Nat) (H : Hp) (n : Nat) : Gr μ B m H n μ B m H n where
  le := Nat.le_refl _
  lem := Nat.le_refl _
  mu _ _ := rfl
  frame _ _ _ := rfl
  live _ s b _ h := ⟨s, b, h⟩
  new i s b x len _ h1 h2 := .inr ⟨i, s, b, len, h1, h2⟩
  st _ _ _ h _ := h
  kept _ _ _ _ _ _ _ _ _ := rfl
variable {X : Nat → Prop} {B B' B'' : Bt D} {m m' m'' n n' n'' : Nat} {μ'' : Mu} {H'' : Hp}
theorem Gr.off (g : Gr μ B m H n μ' B' m' H' n') {x : Nat} (hx : x < n) (h : ∀ i s b len, bget B i = some (s, b) → μ i ≠ some (some x, len)) : ∀ i s b len, bget B' i = some (s, b) → μ' i ≠ some (some x, len) := by
  intro i s b len hb hm
  by_cases hi : i < m
  · obtain ⟨s', b', h1⟩ := g.live i s b hi hb
    exact h i s' b' len h1 (by rw [← g.mu i hi]; exact hm)
  · rcases g.new i s b x len (by omega) hb hm with h1 | ⟨j, s', b', c, h1, h2⟩
    · omega
    · exact h j s' b' c h1 h2
theorem Gr.trans (g : Gr μ B m H n μ' B' m' H' n') (g' : Gr μ' B' m' H' n' μ'' B'' m'' H'' n'') : Gr μ B m H n μ'' B'' m'' H'' n'' where
  le := Nat.le_trans g.le g'.le
  lem := Nat.le_trans g.lem g'.lem
  mu i hi := by rw [g'.mu i (by have := g.lem; omega), g.mu i hi]
  frame x hx h := by rw [g'.frame x (by have := g.le; omega) (g.off hx h), g.frame x hx h]
  live i s b hi hb := by
    obtain ⟨s1, b1, h1⟩ := g'.live i s b (by have := g.lem; omega) hb
    exact g.live i s1 b1 hi h1
  new i s b x len hi hb hm := by
    have key : ∀ j s' b' c, bget B' j = some (s', b') → μ' j = some (some x, c) → n ≤ x ∨ ∃ j s' b' c, bget B j = some (s', b') ∧ μ j = some (some x, c) := fun j s' b' c h1 h2 => by
      by_cases hj : j < m
      · obtain ⟨s2, b2, h3⟩ := g.live j s' b' hj h1
        exact .inr ⟨j, s2, b2, c, h3, by rw [← g.mu j hj]; exact h2⟩
      · exact g.new j s' b' x c (by omega) h1 h2
    by_cases hi' : i < m'
    · obtain ⟨s1, b1, h1⟩ := g'.live i s b hi' hb
      exact key i s1 b1 len h1 (by rw [← g'.mu i hi']; exact hm)
    · rcases g'.new i s b x len (by omega) hb hm with h1 | ⟨j, s', b', c, h1, h2⟩
      · exact .inl (Nat.le_trans g.le h1)
      · exact key j s' b' c h1 h2
  st i s b hb hs := g.st i s b (g'.st i s b hb (by have := g.lem; omega)) hs
  kept i s b x len hi hb hs hm := by
    have hl := g.lem
    rw [g'.kept i s b x len (by omega) hb (by omega) (by rw [g.mu i hi]; exact hm), g.kept i s b x len hi (g'.st i s b hb (by omega)) hs hm]
theorem Gr.keep (g : Gr μ B m H n μ' B' m' H' n') (hr : HR V X μ B m H n) : Keep μ H (MX X μ B) μ' H' (MX X μ' B') where
  mu i q h := by rw [g.mu i (hr.lm i q h)]; exact h
  fz x o hx ho := by
    have hlt : x < n := by
      apply Classical.byContradiction
      intro hn
      rw [hr.fresh x (by omega)] at ho; cases ho
    have hoff : ∀ i s b len, bget B i = some (s, b) → μ i ≠ some (some x, len) := fun i s b len h1 h2 => hx (.inr ⟨i, s, b, len, h1, h2⟩)
    refine ⟨fun hm => ?_, by rw [g.frame x hlt hoff]; exact ho⟩
    rcases hm with h1 | ⟨i, s, b, len, h1, h2⟩
    · exact hx (.inl h1)
    · exact g.off hlt hoff i s b len h1 h2
structure SR (V : D → List (PV D)) (X : Nat → Prop) (μ : Mu) (st : Y D) (T : Tm) (H : Hp) (n : Nat) : Prop where
  hr : HR V X μ st.B st.m H n
  tr : ∀ t, Rep V μ H (MX X μ st.B) (pget st.T t) (tget T t)
theorem pput_get (T : Tt D) (d : Option Tmp) (v : PV D) (t : Nat) : pget (pput T d v) t = if d = some t then v else pget T t := by
  cases d with
  | none => simp [pput]
  | some d =>
    simp only [pput, pget_pset]
    by_cases h : t = d
    · subst h; simp
    · rw [if_neg h, if_neg (fun e => h (by cases e; rfl))]
theorem put_get (T : Tm) (d : Option Tmp) (v : Value) (t : Nat) : tget (put T d v) t = if d = some t then v else tget T t := by
  cases d with
  | none => simp [put]
  | some d =>
    simp only [put, tget_tset]
    by_cases h : t = d
    · subst h; simp
    · rw [if_neg h, if_neg (fun e => h (by cases e; rfl))]
theorem SR.put {st : Y D} {T : Tm} (h : SR V X μ st T H n) (d : Option Tmp) {v : PV D} {x : Value} (hv : Rep V μ H (MX X μ st.B) v x) : SR V X μ ⟨pput st.T d v, st.B, st.m⟩ (Xec.put T d x) H n :=
  ⟨h.hr, fun t => by
    rw [pput_get, put_get]
    split
    · exact hv
    · exact h.tr t⟩
end
end Go.Yec
namespace Go.Yec
open Go Go.Xec
variable [GT]
section
variable {D : Type} {V : D → List (PV D)} {μ : Mu} {H : Hp} {M : Nat → Prop} {P : Program} {o : Oper} {T : Tm} {ρ : Yd → PV D}
def OpdR (V : D → List (PV D)) (μ : Mu) (H : Hp) (M : Nat → Prop) (T : Tm) (ρ : Yd → PV D) : Prop := ∀ (x : Operand) (y : Yd), ydO x = some y → Rep V μ H M (ρ y) (ev T x)
theorem cond_some {α : Type} {b : Bool} {x : Option α} {a : α} (h : cond b x none = some a) : b = true ∧ x = some a := by
  cases b
  · cases h
  · exact ⟨rfl, h⟩
theorem ikeq_ok {a b : IntKind} (h : ikeq a b = true) : a = b := by
  cases a <;> cases b <;> first | rfl | (cases h)
end
end Go.Yec
namespace Go.Yec
open Go Go.Xec
variable [GT]
section
variable {D : Type} {V : D → List (PV D)} {μ : Mu} {H : Hp} {M : Nat → Prop} {P : Program} {o : Oper} {T : Tm} {ρ : Yd → PV D}
end
end Go.Yec
namespace Go.Yec
open Go Go.Xec
variable [GT]
section
variable {D : Type} {V : D → List (PV D)} {μ : Mu} {H : Hp} {M : Nat → Prop} {P : Program} {o : Oper} {T : Tm} {ρ : Yd → PV D}
theorem overP_rel : ∀ {vs l r : List (PV D)} {ws m : List Value}, overP vs l = some r → RepL V μ H M vs ws → RepL V μ H M l m → ∃ s, over ws m = some s ∧ RepL V μ H M r s
  | [], l, r, _, m, h, .nil, hl => by cases h; exact ⟨m, rfl, hl⟩
  | v :: vs, [], r, _, _, h, _, _ => by cases h
  | v :: vs, a :: l, r, _, _, h, .cons _ w _ ws hv hvs, .cons _ x _ m ha hl => by
    have h' : Option.casesOn (motive := fun _ => Option (List (PV D))) (overP vs l) none (fun r => some (v :: r)) = some r := h
    cases e : overP vs l with
    | none => rw [e] at h'; cases h'
    | some q =>
      rw [e] at h'; cases h'
      obtain ⟨s, h1, h2⟩ := overP_rel e hvs hl
      exact ⟨w :: s, by rw [over_cons, h1], .cons _ _ _ _ hv h2⟩
theorem setP_rel : ∀ {l : List (PV D)} (k : Nat) {vs r : List (PV D)} {m ws : List Value}, setP l k vs = some r → RepL V μ H M l m → RepL V μ H M vs ws → ∃ s, setAt m k ws = some s ∧ RepL V μ H M r s
  | [], 0, vs, r, _, ws, h, .nil, hv => overP_rel (l := []) h hv .nil
  | [], k + 1, vs, r, _, _, h, _, _ => by cases h
  | a :: l, 0, vs, r, _, ws, h, .cons _ x _ m ha hl, hv => overP_rel (l := a :: l) h hv (.cons _ _ _ _ ha hl)
  | a :: l, k + 1, vs, r, _, ws, h, .cons _ x _ m ha hl, hv => by
    have h' : Option.casesOn (motive := fun _ => Option (List (PV D))) (setP l k vs) none (fun r => some (a :: r)) = some r := h
    cases e : setP l k vs with
    | none => rw [e] at h'; cases h'
    | some q =>
      rw [e] at h'; cases h'
      obtain ⟨s, h1, h2⟩ := setP_rel k e hl hv
      exact ⟨x :: s, by rw [setAt_succ, h1], .cons _ _ _ _ ha h2⟩
theorem lget_rel {l : List (PV D)} {m : List Value} (h : RepL V μ H M l m) {i : Nat} {v : PV D} (hi : lget l i = some v) : ∃ x, lget m i = some x ∧ Rep V μ H M v x := by
  rw [lget_eq] at hi
  obtain ⟨x, h1, h2⟩ := h.get i v hi
  exact ⟨x, by rw [lget_eq]; exact h1, h2⟩
end
end Go.Yec
namespace Go.Yec
open Go Go.Xec
variable [GT]
section
variable {D : Type} {V : D → List (PV D)} {μ : Mu} {H : Hp} {M : Nat → Prop} {P : Program} {o : Oper} {T : Tm} {ρ : Yd → PV D}
end
end Go.Yec
namespace Go.Yec
open Go Go.Xec
variable [GT]
section
variable {D : Type} {V : D → List (PV D)} {μ : Mu} {H : Hp} {P : Program} {o : Oper} {T : Tm} {ρ : Yd → PV D} {X : Nat → Prop} {B : Bt D} {m n : Nat}
variable (hρ : OpdR V μ H (MX X μ B) T ρ) (hr : HR V X μ B m H n)
include hρ
end
end Go.Yec
namespace Go.Yec
open Go Go.Xec
variable [GT]
theorem lget_eq {α : Type} : ∀ (l : List α) (i : Nat), lget l i = l[i]?
  | [], i => by cases i <;> rfl
  | x :: l, 0 => rfl
  | x :: l, i + 1 => by show lget l i = _; rw [lget_eq]; simp
section
variable {D : Type} {V : D → List (PV D)} {μ : Mu} {H : Hp} {P : Program} {o : Oper} {T : Tm} {ρ : Yd → PV D} {X : Nat → Prop} {B : Bt D} {m n : Nat}
variable (hρ : OpdR V μ H (MX X μ B) T ρ) (hr : HR V X μ B m H n)
include hρ
end
end Go.Yec
namespace Go.Yec
open Go Go.Xec
variable [GT]
section
variable {D : Type} {V : D → List (PV D)} {μ : Mu} {H : Hp} {P : Program} {o : Oper} {T : Tm} {ρ : Yd → PV D} {X : Nat → Prop} {B : Bt D} {m n : Nat}
variable (hρ : OpdR V μ H (MX X μ B) T ρ) (hr : HR V X μ B m H n)
include hρ
include hr
end
end Go.Yec
namespace Go.Yec
open Go Go.Xec
variable [GT]
section
variable {D : Type} {V : D → List (PV D)} {μ : Mu} {H : Hp} {P : Program} {o : Oper} {T : Tm} {ρ : Yd → PV D} {X : Nat → Prop} {B : Bt D} {m n : Nat}
variable (hρ : OpdR V μ H (MX X μ B) T ρ) (hr : HR V X μ B m H n)
include hρ
include hr
end
end Go.Yec
namespace Go.Yec
open Go Go.Xec
variable [GT]
section
variable {D : Type} {V : D → List (PV D)} {μ : Mu} {H : Hp} {P : Program} {o : Oper} {T : Tm} {ρ : Yd → PV D} {X : Nat → Prop} {B : Bt D} {m n : Nat}
theorem HR.cells (hr : HR V X μ B m H n) {i s : Nat} {l : List (PV D)} (hb : bget B i = some (s, .cells l)) : ∃ x len xl e, μ i = some (some x, len) ∧ hget H x = some (.cells xl e) ∧ RepL V μ H (MX X μ B) l xl := by
  obtain ⟨_, ox, len, h1, h2⟩ := hr.blk i s _ hb
  cases h2 with
  | cells x _ _ xl e h hl => exact ⟨x, len, xl, e, h1, h, hl⟩
variable (hρ : OpdR V μ H (MX X μ B) T ρ) (hr : HR V X μ B m H n)
include hρ hr
end
end Go.Yec
namespace Go.Yec
open Go Go.Xec
variable [GT]
section
variable {D : Type} {V : D → List (PV D)} {μ : Mu} {H : Hp} {P : Program} {o : Oper} {T : Tm} {ρ : Yd → PV D} {X : Nat → Prop} {B : Bt D} {m n : Nat}
end
end Go.Yec
namespace Go.Yec
open Go Go.Xec
variable [GT]
section
variable {D : Type} {V : D → List (PV D)} {μ : Mu} {H : Hp} {P : Program} {o : Oper} {T : Tm} {ρ : Yd → PV D} {X : Nat → Prop} {B : Bt D} {m n : Nat}
variable (hρ : OpdR V μ H (MX X μ B) T ρ) (hr : HR V X μ B m H n)
include hρ
end
end Go.Yec
namespace Go.Yec
open Go Go.Xec
variable [GT]
section
variable {D : Type} {V : D → List (PV D)} {μ : Mu} {H : Hp} {P : Program} {o : Oper} {T : Tm} {ρ : Yd → PV D} {X : Nat → Prop} {B : Bt D} {m n : Nat}
variable (hρ : OpdR V μ H (MX X μ B) T ρ) (hr : HR V X μ B m H n)
include hρ hr
end
end Go.Yec
namespace Go.Yec
open Go Go.Xec
variable [GT]
section
variable {D : Type}
structure RegI (T : Tt D) (dn : Dn) : Prop where
  opt : ∀ t C g v, pget T t = .opt C g v → (C, t) ∈ dn ∧ g = gOf T C ∧ C ≠ []
  has : ∀ C t, (C, t) ∈ dn → C ≠ [] → ∃ g v, pget T t = .opt C g v
  cl : ∀ C t, (C, t) ∈ dn → ∀ p, p ∈ C → ∃ C', (C', p.1) ∈ dn
theorem gOf_cons (T : Tt D) (p : Nat × Bool) (C : Ch) : gOf T (p :: C) = cond (gOf T C) (lit T C p) false := rfl
theorem lit_congr {T T' : Tt D} {C : Ch} {p : Nat × Bool} (h : pget T' p.1 = pget T p.1) : lit T' C p = lit T C p := by
  unfold lit; rw [h]
theorem gOf_congr {T T' : Tt D} : ∀ {C : Ch}, (∀ p, p ∈ C → pget T' p.1 = pget T p.1) → gOf T' C = gOf T C
  | [], _ => rfl
  | p :: C, h => by rw [gOf_cons, gOf_cons, gOf_congr fun q hq => h q (by simp [hq]), lit_congr (h p (by simp))]
theorem eqC_cons (p q : Nat × Bool) (l m : Ch) : eqC (p :: l) (q :: m) = cond (cond (Nat.beq p.1 q.1) (cond p.2 q.2 (!q.2)) false) (eqC l m) false := rfl
theorem eqC_ok : ∀ {l m : Ch}, eqC l m = true → l = m
  | [], [], _ => rfl
  | [], _ :: _, h => by cases h
  | _ :: _, [], h => by cases h
  | (a, b) :: l, (c, d) :: m, h => by
    rw [eqC_cons] at h
    obtain ⟨h1, h2⟩ := cond_and h
    obtain ⟨h3, h4⟩ := cond_and h1
    have e3 : a = c := beq_eq h3
    rw [eqC_ok h2, e3]
    have : b = d := by cases b <;> cases d <;> first | rfl | (cases h4)
    rw [this]
theorem hasD_ok {t : Nat} {C : Ch} : ∀ {dn : Dn}, hasD t C dn = true → (C, t) ∈ dn
  | [], h => by cases h
  | q :: dn, h => by
    have h : cond (cond (Nat.beq q.2 t) (eqC q.1 C) false) true (hasD t C dn) = true := h
    cases he : cond (Nat.beq q.2 t) (eqC q.1 C) false with
    | true =>
      obtain ⟨h1, h2⟩ := cond_and he
      have e1 := beq_eq h1
      have e2 := eqC_ok h2
      obtain ⟨a, b⟩ := q
      simp only at e1 e2
      rw [← e1, ← e2]; exact List.mem_cons_self
    | false => rw [he, cond_false] at h; exact List.mem_cons_of_mem _ (hasD_ok h)
theorem dIn_no {t : Nat} : ∀ {dn : Dn}, dIn t dn = false → ∀ C, (C, t) ∉ dn
  | [], _, _ => by simp
  | q :: dn, h, C => by
    have h : cond (Nat.beq q.2 t) true (dIn t dn) = false := h
    cases he : Nat.beq q.2 t with
    | true => rw [he] at h; cases h
    | false =>
      rw [he, cond_false] at h
      intro hm
      rcases List.mem_cons.1 hm with e | hm
      · subst e; simp at he
      · exact dIn_no h C hm
def dnAdd (d : Option Nat) (C : Ch) (dn : Dn) : Dn := match d with
  | some t => (C, t) :: dn
  | none => dn
theorem RegI.set {T : Tt D} {dn : Dn} (h : RegI T dn) {C : Ch} (hC : chFits dn C = true) {d : Option Nat} {w : PV D} (hd : ∀ t, d = some t → dIn t dn = false) (hw : ∀ C' g v, w = .opt C' g v → C' = C ∧ g = gOf T C ∧ C ≠ []) (hw' : C ≠ [] → ∃ g v, w = .opt C g v) :
    RegI (pput T d w) (dnAdd d C dn) := by
  have keep : ∀ C' t, (C', t) ∈ dn → pget (pput T d w) t = pget T t := fun C' t hm => by
    rw [pput_get]
    split
    · rename_i e; exact absurd hm (dIn_no (hd t e) C')
    · rfl
  have cl0 : ∀ p, p ∈ C → ∃ C', (C', p.1) ∈ dn := fun p hp => by
    cases C with
    | nil => cases hp
    | cons q C' =>
      have hm := hasD_ok (show hasD q.1 C' dn = true from hC)
      rcases List.mem_cons.1 hp with rfl | hp
      · exact ⟨C', hm⟩
      · exact h.cl C' q.1 hm p hp
  have gk : ∀ C' t, (C', t) ∈ dn → gOf (pput T d w) C' = gOf T C' := fun C' t hm => gOf_congr fun p hp => by
    obtain ⟨C2, h2⟩ := h.cl C' t hm p hp
    exact keep C2 p.1 h2
  have gC : gOf (pput T d w) C = gOf T C := gOf_congr fun p hp => by
    obtain ⟨C2, h2⟩ := cl0 p hp
    exact keep C2 p.1 h2
  cases d with
  | none => exact h
  | some d =>
    refine ⟨fun t C' g v hp => ?_, fun C' t hm hne => ?_, fun C' t hm p hp => ?_⟩
    · rw [pput_get] at hp
      split at hp
      · rename_i e; cases e
        obtain ⟨rfl, rfl, hne⟩ := hw C' g v hp
        exact ⟨List.mem_cons_self, gC.symm, hne⟩
      · obtain ⟨h1, h2, h3⟩ := h.opt t C' g v hp
        exact ⟨List.mem_cons_of_mem _ h1, by rw [h2, gk C' t h1], h3⟩
    · rcases List.mem_cons.1 hm with e | hm
      · cases e
        obtain ⟨g, v, e⟩ := hw' hne
        exact ⟨g, v, by rw [pput_get, if_pos rfl]; exact e⟩
      · rw [keep C' t hm]; exact h.has C' t hm hne
    · rcases List.mem_cons.1 hm with e | hm
      · cases e
        obtain ⟨C2, h2⟩ := cl0 p hp
        exact ⟨C2, List.mem_cons_of_mem _ h2⟩
      · obtain ⟨C2, h2⟩ := h.cl C' t hm p hp
        exact ⟨C2, List.mem_cons_of_mem _ h2⟩
variable {V : D → List (PV D)} {μ : Mu} {H : Hp} {P : Program} {hk : Hook} {o : Oper} {T : Tm} {X : Nat → Prop} {n : Nat} {st : Y D} {dn : Dn} {C : Ch}
end
end Go.Yec
namespace Go.Yec
open Go Go.Xec
variable [GT]
section
variable {D : Type} {V : D → List (PV D)} {μ : Mu} {H : Hp} {P : Program} {hk : Hook} {o : Oper} {T : Tm} {X : Nat → Prop} {n m : Nat} {st : Y D} {dn : Dn} {C : Ch} {B : Bt D}
theorem Rep.noOpt {M : Nat → Prop} {v : PV D} {x : Value} (h : Rep V μ H M v x) : Rep V μ H M (noOpt v) x := by
  unfold Yec.noOpt
  split
  · exact .undef _
  · exact h
theorem HR.ids (hr : HR V X μ B m H n) {i s : Nat} {b : Blk D} (h : bget B i = some (s, b)) : i < m := by
  obtain ⟨_, ox, len, h1, _⟩ := hr.blk i s b h
  exact hr.lm i _ h1
end
end Go.Yec
namespace Go.Yec
open Go Go.Xec
variable [GT]
section
variable {D : Type} {V : D → List (PV D)} {μ : Mu} {H : Hp} {P : Program} {hk : Hook} {o : Oper} {T : Tm} {X : Nat → Prop} {n m : Nat} {st : Y D} {dn : Dn} {C : Ch} {B : Bt D} {R : Type}
variable {all : List Oper} {sz : Nat}
end
end Go.Yec
namespace Go.Yec
open Go Go.Xec
variable [GT]
section
variable {D : Type} {V : D → List (PV D)} {μ : Mu} {H : Hp} {P : Program} {hk : Hook} {o : Oper} {T : Tm} {X : Nat → Prop} {n m : Nat} {st : Y D} {dn : Dn} {C : Ch} {B : Bt D} {R : Type} {ρ : Yd → PV D}
end
end Go.Yec
namespace Go.Yec
open Go Go.Xec
variable [GT]
section
variable {D : Type} {V : D → List (PV D)} {μ : Mu} {H : Hp} {P : Program} {hk : Hook} {o : Oper} {T : Tm} {X : Nat → Prop} {n m : Nat} {st : Y D} {dn : Dn} {C : Ch} {B : Bt D} {R : Type} {all : List Oper} {sz : Nat}
end
end Go.Yec
namespace Go.Yec
open Go Go.Xec
variable [GT]
section
variable {D : Type} {V : D → List (PV D)} {μ : Mu} {H : Hp} {P : Program} {hk : Hook} {o : Oper} {T : Tm} {X : Nat → Prop} {n m : Nat} {st : Y D} {dn : Dn} {C : Ch} {B : Bt D} {R : Type} {all : List Oper} {sz : Nat} {tbl : Tbl D}
end
end Go.Yec
namespace Go.Yec
open Go Go.Xec
variable [GT]
section
variable {D : Type} {V : D → List (PV D)} {μ : Mu} {H : Hp} {P : Program} {hk : Hook} {o : Oper} {T : Tm} {X : Nat → Prop} {n m : Nat} {st : Y D} {dn : Dn} {C : Ch} {B : Bt D} {R : Type} {all : List Oper} {sz : Nat} {tbl : Tbl D}
def EP (μ : Mu) (B : Bt D) (H : Hp) (src : Option Nat) (x : Wt) : Prop :=
  veq x.v x.v = true ∧ (∀ i, src = some i → ∃ s b, bget B i = some (s, b)) ∧ ∀ (self : Task → Hp → Nat → Xec.R) H2 n2, (∀ i y len, src = some i → μ i = some (some y, len) → hget H2 y = hget H y) → stepI self x.T H2 n2 x.c = .ok x.v H2 n2
inductive WsR (μ : Mu) (B : Bt D) (H : Hp) : Ws → List Wt → Prop
  | nil : WsR μ B H [] []
  | cons (i : Nat) (src : Option Nat) (old : Bool) (x : Wt) (W : Ws) (L : List Wt) (hi : x.i = i) (h : old = false → EP μ B H src x) (t : WsR μ B H W L) : WsR μ B H ((i, src, old) :: W) (x :: L)
theorem WsR.keep {μ' : Mu} {B' : Bt D} {H' : Hp} (hmu : ∀ i s b, bget B i = some (s, b) → μ' i = μ i) (hl : ∀ i s b, bget B i = some (s, b) → ∃ s' b', bget B' i = some (s', b')) (hH : ∀ i s b x len, bget B i = some (s, b) → μ i = some (some x, len) → hget H' x = hget H x) : ∀ {W : Ws} {L : List Wt}, WsR μ B H W L → WsR μ' B' H' W L
  | _, _, .nil => .nil
  | _, _, .cons i src old x W L hi h t => .cons i src old x W L hi (fun ho => by
      obtain ⟨h1, h2, h3⟩ := h ho
      refine ⟨h1, fun j hj => ?_, fun self H2 n2 hs => h3 self H2 n2 fun j y len hj hy => ?_⟩
      · obtain ⟨s, b, hb⟩ := h2 j hj; exact hl j s b hb
      · obtain ⟨s, b, hb⟩ := h2 j hj
        rw [hs j y len hj (by rw [hmu j s b hb]; exact hy), hH j s b y len hb hy]) (t.keep hmu hl hH)
theorem wsTurn_cons (tc : List Nat) (x : Nat × Option Nat × Bool) (W : Ws) : wsTurn tc (x :: W) = (x.1, x.2.1, cond x.2.2 true (touched x.2.1 tc)) :: wsTurn tc W := rfl
theorem WsR.turn {μ' : Mu} {B' : Bt D} {H' : Hp} {tc : List Nat} (hmu : ∀ i s b, bget B i = some (s, b) → μ' i = μ i) (hl : ∀ i s b, bget B i = some (s, b) → inN i tc = false → ∃ s' b', bget B' i = some (s', b')) (hH : ∀ i s b x len, bget B i = some (s, b) → inN i tc = false → μ i = some (some x, len) → hget H' x = hget H x) : ∀ {W : Ws} {L : List Wt}, WsR μ B H W L → WsR μ' B' H' (wsTurn tc W) L
  | _, _, .nil => .nil
  | _, _, .cons i src old x W L hi h t => by
    rw [wsTurn_cons]
    refine .cons i src _ x _ L hi (fun ho => ?_) (t.turn hmu hl hH)
    have hold : old = false := by cases old <;> first | rfl | (cases ho)
    subst hold
    have ho : touched src tc = false := ho
    obtain ⟨h1, h2, h3⟩ := h rfl
    have nt : ∀ j, src = some j → inN j tc = false := fun j hj => by subst hj; exact ho
    refine ⟨h1, fun j hj => ?_, fun self H2 n2 hs => h3 self H2 n2 fun j y len hj hy => ?_⟩
    · obtain ⟨s, b, hb⟩ := h2 j hj; exact hl j s b hb (nt j hj)
    · obtain ⟨s, b, hb⟩ := h2 j hj
      rw [hs j y len hj (by rw [hmu j s b hb]; exact hy), hH j s b y len hb (nt j hj) hy]
variable {s : DS} {W : Ws} {mk E A : Nat} {x : PI}
end
end Go.Yec
