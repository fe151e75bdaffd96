/-
  THE EXECUTOR: what the model's memory does, step by step, as the executor's heap has it: a new block, a write, a row read.
-/
import Derived.Test.YtadaoelabimmkaaGreatDoorXRel
import Derived.Laws.CopyRow
namespace Go.Xec
open Go

/- ## Lists -/
theorem takeN_succ (n : Nat) (x : Value) (l : List Value) : takeN (n + 1) (x :: l) = Option.casesOn (motive := fun _ => Option (List Value)) (takeN n l) none (fun r => some (x :: r)) := rfl
theorem over_cons (v x : Value) (vs l : List Value) : over (v :: vs) (x :: l) = Option.casesOn (motive := fun _ => Option (List Value)) (over vs l) none (fun r => some (v :: r)) := rfl
theorem setAt_succ (x : Value) (l vs : List Value) (k : Nat) : setAt (x :: l) (k + 1) vs = Option.casesOn (motive := fun _ => Option (List Value)) (setAt l k vs) none (fun r => some (x :: r)) := rfl
theorem takeN_eq : ∀ (n : Nat) (l r : List Value), takeN n l = some r → r = l.take n ∧ n ≤ l.length
  | 0, l, r, h => by cases h; simp
  | n + 1, [], r, h => by cases h
  | n + 1, x :: l, r, h => by
    have h' := (takeN_succ n x l).symm.trans h
    cases e : takeN n l with
    | none => rw [e] at h'; cases h'
    | some q =>
      rw [e] at h'; cases h'
      obtain ⟨h1, h2⟩ := takeN_eq n l q e
      subst h1
      simp; omega
theorem cut_eq : ∀ (l : List Value) (k n : Nat) (r : List Value), cut l k n = some r → r = (l.drop k).take n ∧ k + n ≤ l.length
  | [], 0, n, r, h => by simpa using takeN_eq n [] r h
  | [], k + 1, n, r, h => by cases h
  | x :: l, 0, n, r, h => by simpa using takeN_eq n (x :: l) r h
  | x :: l, k + 1, n, r, h => by
    obtain ⟨h1, h2⟩ := cut_eq l k n r h
    refine ⟨by simpa using h1, by simp; omega⟩
theorem over_eq : ∀ (vs l r : List Value), over vs l = some r → r = vs ++ l.drop vs.length ∧ vs.length ≤ l.length
  | [], l, r, h => by cases h; simp
  | v :: vs, [], r, h => by cases h
  | v :: vs, x :: l, r, h => by
    have h' := (over_cons v x vs l).symm.trans h
    cases e : over vs l with
    | none => rw [e] at h'; cases h'
    | some q =>
      rw [e] at h'; cases h'
      obtain ⟨h1, h2⟩ := over_eq vs l q e
      subst h1
      simp; omega
theorem setAt_eq : ∀ (l : List Value) (k : Nat) (vs r : List Value), setAt l k vs = some r → r = l.take k ++ vs ++ l.drop (k + vs.length) ∧ k + vs.length ≤ l.length
  | [], 0, vs, r, h => by simpa using over_eq vs [] r h
  | [], k + 1, vs, r, h => by cases h
  | x :: l, 0, vs, r, h => by simpa using over_eq vs (x :: l) r h
  | x :: l, k + 1, vs, r, h => by
    have h' := (setAt_succ x l vs k).symm.trans h
    cases e : setAt l k vs with
    | none => rw [e] at h'; cases h'
    | some q =>
      rw [e] at h'; cases h'
      obtain ⟨h1, h2⟩ := setAt_eq l k vs q e
      subst h1
      refine ⟨?_, by simp; omega⟩
      rw [show k + 1 + vs.length = (k + vs.length) + 1 from by omega]
      simp
theorem AllR.take {R : Value → Value → Prop} : ∀ (k : Nat) {l m : List Value}, AllR R l m → AllR R (l.take k) (m.take k)
  | 0, _, _, _ => by simpa using .nil
  | _ + 1, _, _, .nil => .nil
  | k + 1, _, _, .cons a b => .cons a (b.take k)
theorem AllR.drop {R : Value → Value → Prop} : ∀ (k : Nat) {l m : List Value}, AllR R l m → AllR R (l.drop k) (m.drop k)
  | 0, _, _, h => h
  | _ + 1, _, _, .nil => .nil
  | k + 1, _, _, .cons _ b => b.drop k
theorem all1_spec {β : Bm} : ∀ {l m : List Value}, all1 l = true → VL β l m → ∀ v ∈ m, v.oneCell' = true
  | _, _, _, .nil => by simp
  | v :: l, w :: m, h, .cons a b => by
    have h' : cond (cell1 v) (all1 l) false = true := h
    cases hv : cell1 v with
    | false => rw [hv] at h'; cases h'
    | true =>
      rw [hv] at h'
      intro x hx
      rcases List.mem_cons.1 hx with rfl | hx
      · cases a <;> first | rfl | cases hv
      · exact all1_spec h' b x hx

/- ## Combinators -/
theorem chk_ok {b : Bool} {x : OR} {v : Value} {H : Hp} {n : Nat} (h : chk b x = .ok v H n) : b = true ∧ x = .ok v H n := by
  cases b
  · cases h
  · exact ⟨rfl, h⟩
theorem onO_ok {α : Type} {o : Option α} {f : α → OR} {v : Value} {H : Hp} {n : Nat} (h : onO o f = .ok v H n) : ∃ a, o = some a ∧ f a = .ok v H n := by
  cases o with
  | none => cases h
  | some a => exact ⟨a, rfl, h⟩
theorem onPtr_ok {x : Value} {f : Addr → OR} {v : Value} {H : Hp} {n : Nat} (h : onPtr x f = .ok v H n) : ∃ a, x = .pointer (some a) ∧ f a = .ok v H n := by
  unfold onPtr at h; split at h
  · exact ⟨_, rfl, h⟩
  · cases h
theorem onAgg_ok {x : Value} {f : List Value → OR} {v : Value} {H : Hp} {n : Nat} (h : onAgg x f = .ok v H n) : ∃ a, x = .agg a ∧ f a.toList = .ok v H n := by
  unfold onAgg at h; split at h
  · exact ⟨_, rfl, h⟩
  · cases h
theorem onTup_ok {x : Value} {f : List Value → OR} {v : Value} {H : Hp} {n : Nat} (h : onTup x f = .ok v H n) : ∃ a, x = .tuple a ∧ f a.toList = .ok v H n := by
  unfold onTup at h; split at h
  · exact ⟨_, rfl, h⟩
  · cases h
theorem onBool_ok {x : Value} {f : Bool → OR} {v : Value} {H : Hp} {n : Nat} (h : onBool x f = .ok v H n) : ∃ a, x = .bool a ∧ f a = .ok v H n := by
  unfold onBool at h; split at h
  · exact ⟨_, rfl, h⟩
  · cases h
theorem onStr_ok {x : Value} {f : ByteArray → OR} {v : Value} {H : Hp} {n : Nat} (h : onStr x f = .ok v H n) : ∃ a, x = .string a ∧ f a = .ok v H n := by
  unfold onStr at h; split at h
  · exact ⟨_, rfl, h⟩
  · cases h
theorem onNat_ok {x : Value} {f : Nat → OR} {v : Value} {H : Hp} {n : Nat} (h : onNat x f = .ok v H n) : ∃ k m, x = .int k (.ofNat m) ∧ f m = .ok v H n := by
  unfold onNat at h; split at h
  · exact ⟨_, _, rfl, h⟩
  · cases h
theorem onSl_ok {x : Value} {f : Addr → Nat → Nat → OR} {v : Value} {H : Hp} {n : Nat} (h : onSl x f = .ok v H n) : ∃ a l c, x = .slice (some a) l c ∧ f a l c = .ok v H n := by
  unfold onSl at h; split at h
  · exact ⟨_, _, _, rfl, h⟩
  · cases h
theorem coO_ok {α : Type} {o : Option α} {f : α → CO} {T : Tm} {H H' : Hp} {n n' : Nat} {v : Value} (h : (coO o f).f T H n = .ok v H' n') : ∃ a, o = some a ∧ (f a).f T H n = .ok v H' n' := by
  cases o with
  | none => cases h
  | some a => exact ⟨a, rfl, h⟩
theorem coIf_ok {b : Bool} {c : CO} {T : Tm} {H H' : Hp} {n n' : Nat} {v : Value} (h : (coIf b c).f T H n = .ok v H' n') : b = true ∧ c.f T H n = .ok v H' n' := by
  cases b
  · cases h
  · exact ⟨rfl, h⟩
theorem cond_and {a b : Bool} (h : cond a b false = true) : a = true ∧ b = true := by
  cases a
  · cases h
  · exact ⟨rfl, h⟩
theorem cellsOf_ok {o : Option AObj} {p : List Value × TypeId} (h : cellsOf o = some p) : o = some (.cells p.1 p.2) := by
  unfold cellsOf at h; split at h
  · cases h; rfl
  · cases h
theorem ble_le {a b : Nat} (h : Nat.ble a b = true) : a ≤ b := Nat.le_of_ble_eq_true h
theorem beq_eq {a b : Nat} (h : Nat.beq a b = true) : a = b := Nat.eq_of_beq_eq_true h

/- ## What is bound where -/
def upd (β : Bm) (n : Nat) (b : Nat × Nat) : Bm := fun i => if i = n then some b else β i
theorem upd_le {β : Bm} {n : Nat} {b : Nat × Nat} (h : β n = none) : ∀ i c, β i = some c → upd β n b i = some c := fun i c hc => by
  unfold upd
  split
  · rename_i e; subst e; rw [h] at hc; cases hc
  · exact hc
theorem upd_self (β : Bm) (n : Nat) (b : Nat × Nat) : upd β n b n = some b := by simp [upd]
section
variable {P : Program}
theorem WR.fresh {β : Bm} {G : Gp} {w : World} (h : WR P β G w) {n : Nat} (hf : β n = none) : G n = none := by
  cases hg : G n with
  | none => rfl
  | some o => obtain ⟨b, q, h1, _⟩ := h.obj n o hg; rw [hf] at h1; cases h1
theorem WR.lt {β : Bm} {G : Gp} {w : World} (h : WR P β G w) {i : Nat} {b : Nat × Nat} {o : AObj} (hg : G i = some o) (hb : β i = some b) : b.1 < w.heap.size := by
  obtain ⟨b', q, h1, h2, _⟩ := h.obj i o hg
  rw [hb] at h1; cases h1
  exact (Array.getElem?_eq_some_iff.1 h2).1
theorem WR.at {β : Bm} {G : Gp} {w : World} (h : WR P β G w) {i : Nat} {b : Nat × Nat} {o : AObj} (hg : G i = some o) (hb : β i = some b) : ∃ q, w.heap[b.1]? = some q ∧ ObR P β b.2 o q := by
  obtain ⟨b', q, h1, h2, h3⟩ := h.obj i o hg
  rw [hb] at h1; cases h1
  exact ⟨q, h2, h3⟩
theorem WR.cells {β : Bm} {H : Hp} {w : World} (h : WR P β (hget H) w) {i : Nat} {b : Nat × Nat} {p : List Value × TypeId} (hc : cellsAt H i = some p) (hb : β i = some b) :
    ∃ c l' rest, w.heap[b.1]? = some (.cells c p.2 (0, 0)) ∧ VL β p.1 l' ∧ c.toList = l' ++ rest ∧ ∀ s, sizeT P p.2 = some s → b.2 * s ≤ c.size := by
  obtain ⟨q, h1, h2⟩ := h.at (cellsOf_ok hc) hb
  cases h2 with
  | cells l l' e c rest hl hc hm => exact ⟨c, l', rest, h1, hl, hc, hm⟩

/-- A NEW BLOCK. -/
theorem Ext.new {β : Bm} {H : Hp} {n : Nat} {w : World} (hW : WR P β (hget H) w) (hf : β n = none) {o : AObj} {q : Obj} {m : Nat} (ho : ObR P β m o q) :
    Ext P β (hget H) n w (upd β n (w.heap.size, m)) (hget (hset H n o)) (n + 1) { w with heap := w.heap.push q } := by
  have hn := hW.fresh hf
  have le := upd_le (b := (w.heap.size, m)) hf
  have old : ∀ b, b < w.heap.size → (w.heap.push q)[b]? = w.heap[b]? := fun b hb => by
    rw [Array.getElem?_push_lt hb, Array.getElem?_eq_getElem hb]
  refine ⟨fun i hi => ?_, ⟨fun i p hp => ?_, fun i j b c p r g1 g2 d1 d2 b1 b2 bc => ?_⟩, by simp, fun b hb _ => old b hb, fun i p b g d hb => ?_, fun i g => ?_, fun i b g hb => ?_, rfl, rfl, rfl⟩
  · have : i ≠ n := by omega
    simp [upd, this]
  · rw [hget_hset] at hp
    split at hp
    · rename_i e
      subst e
      cases hp
      exact ⟨(w.heap.size, m), q, upd_self _ _ _, by simp, ho.mono le⟩
    · obtain ⟨b, r, h1, h2, h3⟩ := hW.obj i p hp
      exact ⟨b, r, le _ _ h1, by rw [old b.1 (Array.getElem?_eq_some_iff.1 h2).1, h2], h3.mono le⟩
  · rw [hget_hset] at g1 g2
    by_cases e1 : i = n <;> by_cases e2 : j = n
    · rw [e1, e2]
    · subst e1
      rw [if_neg e2] at g2
      rw [upd_self] at b1; cases b1
      have b2' : β j = some c := by simpa [upd, e2] using b2
      have := hW.lt g2 b2'
      simp only at bc; omega
    · subst e2
      rw [if_neg e1] at g1
      rw [upd_self] at b2; cases b2
      have b1' : β i = some b := by simpa [upd, e1] using b1
      have := hW.lt g1 b1'
      simp only at bc; omega
    · rw [if_neg e1] at g1
      rw [if_neg e2] at g2
      exact hW.inj i j b c p r g1 g2 d1 d2 (by simpa [upd, e1] using b1) (by simpa [upd, e2] using b2) bc
  · rw [hget_hset] at g
    by_cases e : i = n
    · subst e
      rw [upd_self] at hb; cases hb
      exact .inl (Nat.le_refl _)
    · rw [if_neg e] at g
      exact .inr ⟨i, p, b, g, d, by simpa [upd, e] using hb, rfl⟩
  · rw [hget_hset, if_neg]
    · exact g
    · intro e; subst e; rw [hn] at g; cases g
  · exact old b.1 (hW.lt g hb)

/-- A BLOCK THAT IS THERE, TURNED. -/
theorem Ext.turn {β : Bm} {H : Hp} {n : Nat} {w w' : World} (hW : WR P β (hget H) w) {i : Nat} {b : Nat × Nat} {o p : AObj} {q : Obj} (hg : hget H i = some o) (hb : β i = some b) (hlive : o ≠ .dead) (hnd : o ≠ .defd)
    (hs : w'.heap.size = w.heap.size) (hq : w'.heap[b.1]? = some q) (hoth : ∀ c, c ≠ b.1 → w'.heap[c]? = w.heap[c]?) (hR : ObR P β b.2 p q) (h1 : w'.os = w.os) (h2 : w'.output = w.output) (h3 : w'.tape = w.tape) :
    Ext P β (hget H) n w β (hget (hset H i p)) n w' := by
  refine ⟨fun _ _ => rfl, ⟨fun j r g => ?_, fun j k c d r s g1 g2 d1 d2 b1 b2 bc => ?_⟩, by omega, fun c hc ho => hoth c (fun e => ho i o b hg hlive hb e.symm), fun j r c g d hc => ?_, fun j g => ?_, fun j c g hc => ?_, h1, h2, h3⟩
  · rw [hget_hset] at g
    split at g
    · rename_i e; subst e; cases g
      exact ⟨b, q, hb, hq, hR⟩
    · rename_i e
      obtain ⟨c, x, k1, k2, k3⟩ := hW.obj j r g
      by_cases hcb : c.1 = b.1
      · by_cases hd : r = .dead
        · subst hd; exact ⟨c, q, k1, by rw [hcb]; exact hq, .dead _⟩
        · exact absurd (hW.inj j i c b r o g hg hd hlive k1 hb hcb) e
      · exact ⟨c, x, k1, by rw [hoth c.1 hcb, k2], k3⟩
  · rw [hget_hset] at g1 g2
    by_cases e1 : j = i <;> by_cases e2 : k = i
    · rw [e1, e2]
    · subst e1; rw [if_neg e2] at g2
      exact hW.inj j k c d o s hg g2 hlive d2 b1 b2 bc
    · subst e2; rw [if_neg e1] at g1
      exact hW.inj j k c d r o g1 hg d1 hlive b1 b2 bc
    · rw [if_neg e1] at g1; rw [if_neg e2] at g2
      exact hW.inj j k c d r s g1 g2 d1 d2 b1 b2 bc
  · rw [hget_hset] at g
    by_cases e : j = i
    · subst e; exact .inr ⟨j, o, c, hg, hlive, hc, rfl⟩
    · rw [if_neg e] at g; exact .inr ⟨j, r, c, g, d, hc, rfl⟩
  · rw [hget_hset, if_neg]
    · exact g
    · intro e; subst e; rw [hg] at g; cases g; exact hnd rfl
  · refine hoth c.1 fun e => ?_
    have := hW.inj j i c b _ o g hg (by simp) hlive hc hb e
    subst this
    rw [hg] at g; cases g; exact hnd rfl

/-- AN APPEND IN PLACE: the block goes over to a new number. -/
theorem Ext.move {β : Bm} {H : Hp} {n : Nat} {w w' : World} (hW : WR P β (hget H) w) (hf : β n = none) {i : Nat} {b : Nat × Nat} {o p : AObj} {q : Obj} (hg : hget H i = some o) (hb : β i = some b) (hlive : o ≠ .dead) (hnd : o ≠ .defd)
    (hs : w'.heap.size = w.heap.size) (hq : w'.heap[b.1]? = some q) (hoth : ∀ c, c ≠ b.1 → w'.heap[c]? = w.heap[c]?) (hR : ObR P β b.2 p q) (h1 : w'.os = w.os) (h2 : w'.output = w.output) (h3 : w'.tape = w.tape) :
    Ext P β (hget H) n w (upd β n b) (hget (hset (hset H i .dead) n p)) (n + 1) w' := by
  have hn := hW.fresh hf
  have le := upd_le (b := b) hf
  have get : ∀ j, hget (hset (hset H i .dead) n p) j = if j = n then some p else if j = i then some .dead else hget H j := fun j => by rw [hget_hset, hget_hset]
  refine ⟨fun j hj => ?_, ⟨fun j r g => ?_, fun j k c d r s g1 g2 d1 d2 b1 b2 bc => ?_⟩, by omega, fun c hc ho => hoth c (fun e => ho i o b hg hlive hb e.symm), fun j r c g d hc => ?_, fun j g => ?_, fun j c g hc => ?_, h1, h2, h3⟩
  · have : j ≠ n := by omega
    simp [upd, this]
  · rw [get] at g
    by_cases e : j = n
    · subst e; rw [if_pos rfl] at g; cases g
      exact ⟨b, q, upd_self _ _ _, hq, hR.mono le⟩
    · rw [if_neg e] at g
      by_cases e2 : j = i
      · subst e2; rw [if_pos rfl] at g; cases g
        exact ⟨b, q, le _ _ hb, hq, .dead _⟩
      · rw [if_neg e2] at g
        obtain ⟨c, x, k1, k2, k3⟩ := hW.obj j r g
        by_cases hcb : c.1 = b.1
        · by_cases hd : r = .dead
          · subst hd; exact ⟨c, q, le _ _ k1, by rw [hcb]; exact hq, .dead _⟩
          · exact absurd (hW.inj j i c b r o g hg hd hlive k1 hb hcb) e2
        · exact ⟨c, x, le _ _ k1, by rw [hoth c.1 hcb, k2], k3.mono le⟩
  · have old : ∀ j r, hget (hset (hset H i .dead) n p) j = some r → r ≠ .dead → j ≠ n → hget H j = some r ∧ j ≠ i ∧ upd β n b j = β j := fun j r g d e => by
      rw [get, if_neg e] at g
      by_cases e2 : j = i
      · rw [if_pos e2] at g; cases g; exact absurd rfl d
      · rw [if_neg e2] at g; exact ⟨g, e2, by simp [upd, e]⟩
    by_cases e1 : j = n <;> by_cases e2 : k = n
    · rw [e1, e2]
    · obtain ⟨x1, x2, x3⟩ := old k s g2 d2 e2
      subst e1
      rw [upd_self] at b1; cases b1
      rw [x3] at b2
      exact absurd (hW.inj k i d b s o x1 hg d2 hlive b2 hb bc.symm) x2
    · obtain ⟨x1, x2, x3⟩ := old j r g1 d1 e1
      subst e2
      rw [upd_self] at b2; cases b2
      rw [x3] at b1
      exact absurd (hW.inj j i c b r o x1 hg d1 hlive b1 hb bc) x2
    · obtain ⟨x1, _, x3⟩ := old j r g1 d1 e1
      obtain ⟨y1, _, y3⟩ := old k s g2 d2 e2
      rw [x3] at b1; rw [y3] at b2
      exact hW.inj j k c d r s x1 y1 d1 d2 b1 b2 bc
  · rw [get] at g
    by_cases e : j = n
    · subst e
      rw [upd_self] at hc; cases hc
      exact .inr ⟨i, o, b, hg, hlive, hb, rfl⟩
    · rw [if_neg e] at g
      by_cases e2 : j = i
      · rw [if_pos e2] at g; cases g; exact absurd rfl d
      · rw [if_neg e2] at g
        exact .inr ⟨j, r, c, g, d, by simpa [upd, e] using hc, rfl⟩
  · rw [get, if_neg, if_neg]
    · exact g
    · intro e; subst e; rw [hg] at g; cases g; exact hnd rfl
    · intro e; subst e; rw [hn] at g; cases g
  · refine hoth c.1 fun e => ?_
    have := hW.inj j i c b _ o g hg (by simp) hlive hc hb e
    subst this
    rw [hg] at g; cases g; exact hnd rfl
end

/- ## Rows of cells, as the model reads and writes them -/
section rows
variable {P : Program} {w : World} {b : Nat} {c : Array Value} {e : TypeId}
theorem add_none (b o k : Nat) : (⟨b, o, none⟩ : Addr).add k = ⟨b, o + k, none⟩ := by unfold Addr.add; split <;> simp_all
theorem cell_at (hb : w.heap[b]? = some (.cells c e (0, 0))) (o : Nat) : w.cell? ⟨b, o, none⟩ = c.toList[o]? := by simp [World.cell?, hb]
theorem run_cells (hb : w.heap[b]? = some (.cells c e (0, 0))) (o : Nat) (r : List Value) (k : Nat) (hk : r.length = k) (h : ∀ j v, r[j]? = some v → c.toList[o + j]? = some v) :
    (loadCells ⟨b, o, none⟩ k).run P w = .ok r.toArray w := by
  subst hk
  exact run_loadCells_list w _ r fun j v hv => by rw [add_none, cell_at hb]; exact h j v hv
/-- a part of a row reads as the executor's part stands for -/
theorem part_at {β : Bm} {l l' rest : List Value} (hl : VL β l l') (hc : c.toList = l' ++ rest) {o k : Nat} {r : List Value} (hr : cut l o k = some r) :
    ∃ r', VL β r r' ∧ r'.length = k ∧ ∀ j v, r'[j]? = some v → c.toList[o + j]? = some v := by
  obtain ⟨h1, h2⟩ := cut_eq l o k r hr
  subst h1
  have hlen := hl.length
  refine ⟨(l'.drop o).take k, (hl.drop o).take k, by simp; omega, fun j v hv => ?_⟩
  rw [List.getElem?_take] at hv
  split at hv
  · rw [List.getElem?_drop] at hv
    rw [hc, List.getElem?_append_left (by have := (List.getElem?_eq_some_iff.1 hv).1; exact this)]
    exact hv
  · cases hv
theorem cell_rel {β : Bm} {l l' rest : List Value} (hl : VL β l l') (hc : c.toList = l' ++ rest) {o : Nat} {v : Value} (hr : lget l o = some v) : ∃ v', VR β v v' ∧ c.toList[o]? = some v' := by
  rw [lget_eq] at hr
  obtain ⟨v', h1, h2⟩ := hl.get o v hr
  refine ⟨v', h2, ?_⟩
  rw [hc, List.getElem?_append_left (List.getElem?_eq_some_iff.1 h1).1]
  exact h1
end rows
theorem setAt_rel {β : Bm} {l l' vs us r : List Value} {k : Nat} (h : setAt l k vs = some r) (hl : VL β l l') (hv : VL β vs us) :
    VL β r (l'.take k ++ us ++ l'.drop (k + us.length)) ∧ k + us.length ≤ l'.length := by
  obtain ⟨h1, h2⟩ := setAt_eq l k vs r h
  subst h1
  have e1 := hl.length
  have e2 := hv.length
  refine ⟨?_, by omega⟩
  rw [← e2]
  exact ((hl.take k).append hv).append (hl.drop _)
end Go.Xec
