/-
  THE EXECUTOR: a region that draws its order comes, in every order, to what the executor's one order comes to.
-/
import Derived.Test.YtadaoelabimmkaaGreatDoorXPlan
namespace Go.Xec
open Go
section
variable {P : Program} {self : Task → Hp → Nat → R}

/- ## One step of the executor's run -/
theorem drawFree_ok {x : PI} {s s' : DS} {r : OR} (h : drawFree x s r = some s') : ∃ v H1 n1, r = .ok v H1 n1 ∧ ((n1 = s.n ∧ s'.H = s.H) ∨ (n1 = s.n + 1 ∧ ∃ o, hget H1 s.n = some o ∧ s'.H = hset s.H s.n o)) ∧ s'.T = put s.T x.c.dst v ∧ s'.n = n1 ∧ s'.K = s.K ∧ s'.E = s.E ∧ s'.A = cond (Nat.beq n1 s.n) s.A (Nat.lor s.A (bit x.i)) ∧ s'.W = s.W := by
  cases r with
  | bad => cases h
  | ok v H1 n1 =>
    have h : (joinH s.H H1 s.n n1).map (fun H'' => ({ s with T := put s.T x.c.dst v, H := H'', n := n1, A := cond (Nat.beq n1 s.n) s.A (Nat.lor s.A (bit x.i)) } : DS)) = some s' := h
    cases hj : joinH s.H H1 s.n n1 with
    | none => rw [hj] at h; cases h
    | some H2 =>
      rw [hj] at h; cases h
      refine ⟨v, H1, n1, rfl, ?_, rfl, rfl, rfl, rfl, rfl, rfl⟩
      unfold joinH at hj
      cases hb : Nat.beq n1 s.n with
      | true => rw [hb, cond_true] at hj; cases hj; exact .inl ⟨beq_eq hb, rfl⟩
      | false =>
        rw [hb, cond_false] at hj
        cases hb2 : Nat.beq n1 (Nat.succ s.n) with
        | false => rw [hb2] at hj; cases hj
        | true =>
          rw [hb2, cond_true] at hj
          cases ho : hget H1 s.n with
          | none => rw [ho] at hj; cases hj
          | some o => rw [ho] at hj; cases hj; exact .inr ⟨beq_eq hb2, o, rfl, rfl⟩
theorem drawLoad_ok {x : PI} {s s' : DS} {r : OR} (h : drawLoad x s r = some s') : ∃ v H1 n1, r = .ok v H1 n1 ∧ sub s.E x.D = true ∧ s'.T = put s.T x.c.dst v ∧ s'.H = s.H ∧ s'.n = s.n ∧ s'.K = s.K ∧ s'.E = s.E ∧ s'.A = s.A ∧ s'.W = ⟨x.i, x.c, s.T, v⟩ :: s.W := by
  cases r with
  | bad => cases h
  | ok v H1 n1 =>
    have h : cond (sub s.E x.D) (some ({ s with T := put s.T x.c.dst v, W := ⟨x.i, x.c, s.T, v⟩ :: s.W } : DS)) none = some s' := h
    cases hb : sub s.E x.D with
    | false => rw [hb] at h; cases h
    | true => rw [hb] at h; cases h; exact ⟨v, H1, n1, rfl, rfl, rfl, rfl, rfl, rfl, rfl, rfl, rfl⟩
theorem drawEff_ok {x : PI} {s s' : DS} {r : OR} (h : drawEff self x s r = some s') : ∃ v H1 n1, r = .ok v H1 n1 ∧ sub s.E x.D = true ∧ sub s.A x.D = true ∧ wtsOk self x.D H1 n1 s.W = true ∧ s'.T = put s.T x.c.dst v ∧ s'.H = H1 ∧ s'.n = n1 ∧ s'.K = H1 ∧ s'.E = Nat.lor s.E (bit x.i) ∧ s'.A = s.A ∧ s'.W = s.W := by
  cases r with
  | bad => cases h
  | ok v H1 n1 =>
    have h : cond (cond (sub s.E x.D) (cond (sub s.A x.D) (wtsOk self x.D H1 n1 s.W) false) false) (some ({ s with T := put s.T x.c.dst v, H := H1, n := n1, K := H1, E := Nat.lor s.E (bit x.i) } : DS)) none = some s' := h
    cases hb : cond (sub s.E x.D) (cond (sub s.A x.D) (wtsOk self x.D H1 n1 s.W) false) false with
    | false => rw [hb] at h; cases h
    | true =>
      rw [hb] at h; cases h
      obtain ⟨b1, b2⟩ := cond_and hb
      obtain ⟨b3, b4⟩ := cond_and b2
      exact ⟨v, H1, n1, rfl, b1, b3, b4, rfl, rfl, rfl, rfl, rfl, rfl, rfl⟩

/-- what an item's operation comes to -/
noncomputable def itemR (self : Task → Hp → Nat → R) (x : PI) (s : DS) : OR := match x.kd with
  | .free => stepI self s.T .leaf s.n x.c
  | .load => stepI self s.T s.K s.n x.c
  | .eff => stepI self s.T s.H s.n x.c
def valR : OR → Value
  | .ok v _ _ => v
  | .bad => undef

/-- The executor's run of a drawing region, state by state. -/
structure DRun (P : Program) (sf : Task → Hp → Nat → R) (sz : Nat) (all : List Oper) (L : List PI) (st : Nat → DS) : Prop where
  plan : Plan P sz all L
  step : ∀ (p : Nat) (x : PI), L[p]? = some x → drawStep sf x (st p) = some (st (p + 1))
  e0 : (st 0).E = 0
  a0 : (st 0).A = 0
  k0 : (st 0).K = (st 0).H
theorem drawL_cons (x : PI) (l : List PI) (s : DS) : drawL self (x :: l) s = (match drawStep self x s with | some s => drawL self l s | none => .bad) := rfl
theorem drawL_run : ∀ (l : List PI) (s : DS) (ex : Ex) (T' : Tm) (H' : Hp) (n' : Nat), drawL self l s = .ok ex T' H' n' → ∃ st : Nat → DS, st 0 = s ∧ (∀ (p : Nat) (x : PI), l[p]? = some x → drawStep self x (st p) = some (st (p + 1))) ∧ ex = .normal ∧ T' = (st l.length).T ∧ H' = (st l.length).H ∧ n' = (st l.length).n
  | [], s, ex, T', H', n', h => by cases h; exact ⟨fun _ => s, rfl, fun p x hx => by simp at hx, rfl, rfl, rfl, rfl⟩
  | x :: l, s, ex, T', H', n', h => by
    rw [drawL_cons] at h
    cases hs : drawStep self x s with
    | none => rw [hs] at h; cases h
    | some s1 =>
      rw [hs] at h
      obtain ⟨st, h1, h2, h3, h4, h5, h6⟩ := drawL_run l s1 ex T' H' n' h
      refine ⟨fun p => match p with | 0 => s | p + 1 => st p, rfl, fun p y hy => ?_, h3, h4, h5, h6⟩
      cases p with
      | zero => simp at hy; subst hy; simp only [h1]; exact hs
      | succ p => exact h2 p y (by simpa using hy)

section
variable {sz : Nat} {all : List Oper} {L : List PI} {st : Nat → DS}
/-- the three kinds of steps, told -/
structure FreeS (sf : Task → Hp → Nat → R) (x : PI) (s s' : DS) (v : Value) (H1 : Hp) : Prop where
  run : stepI sf s.T .leaf s.n x.c = .ok v H1 s'.n
  heap : (s'.n = s.n ∧ s'.H = s.H) ∨ (s'.n = s.n + 1 ∧ ∃ o, hget H1 s.n = some o ∧ s'.H = hset s.H s.n o)
  K : s'.K = s.K
  E : s'.E = s.E
  A : s'.A = cond (Nat.beq s'.n s.n) s.A (Nat.lor s.A (bit x.i))
  W : s'.W = s.W
structure LoadS (sf : Task → Hp → Nat → R) (x : PI) (s s' : DS) (v : Value) : Prop where
  run : ∃ H1 n1, stepI sf s.T s.K s.n x.c = .ok v H1 n1
  dep : sub s.E x.D = true
  H : s'.H = s.H
  n : s'.n = s.n
  K : s'.K = s.K
  E : s'.E = s.E
  A : s'.A = s.A
  W : s'.W = ⟨x.i, x.c, s.T, v⟩ :: s.W
structure EffS (sf : Task → Hp → Nat → R) (x : PI) (s s' : DS) (v : Value) : Prop where
  run : stepI sf s.T s.H s.n x.c = .ok v s'.H s'.n
  dep : sub s.E x.D = true
  depA : sub s.A x.D = true
  wts : wtsOk sf x.D s'.H s'.n s.W = true
  K : s'.K = s'.H
  E : s'.E = Nat.lor s.E (bit x.i)
  A : s'.A = s.A
  W : s'.W = s.W
theorem DRun.free (d : DRun P self sz all L st) {p : Nat} {x : PI} (hx : L[p]? = some x) (hk : x.kd = .free) : ∃ v H1, FreeS self x (st p) (st (p + 1)) v H1 ∧ (st (p + 1)).T = put (st p).T x.c.dst v ∧ valR (itemR self x (st p)) = v := by
  have h := d.step p x hx
  unfold drawStep at h
  rw [hk] at h
  obtain ⟨v, H1, n1, h1, h2, h3, rfl, h5, h6, h7, h8⟩ := drawFree_ok h
  exact ⟨v, H1, ⟨h1, h2, h5, h6, h7, h8⟩, h3, by unfold itemR; rw [hk]; simp only [h1]; rfl⟩
theorem DRun.load (d : DRun P self sz all L st) {p : Nat} {x : PI} (hx : L[p]? = some x) (hk : x.kd = .load) : ∃ v, LoadS self x (st p) (st (p + 1)) v ∧ (st (p + 1)).T = put (st p).T x.c.dst v ∧ valR (itemR self x (st p)) = v := by
  have h := d.step p x hx
  unfold drawStep at h
  rw [hk] at h
  obtain ⟨v, H1, n1, h1, h2, h3, h4, h5, h6, h7, h8, h9⟩ := drawLoad_ok h
  exact ⟨v, ⟨⟨H1, n1, h1⟩, h2, h4, h5, h6, h7, h8, h9⟩, h3, by unfold itemR; rw [hk]; simp only [h1]; rfl⟩
theorem DRun.eff (d : DRun P self sz all L st) {p : Nat} {x : PI} (hx : L[p]? = some x) (hk : x.kd = .eff) : ∃ v, EffS self x (st p) (st (p + 1)) v ∧ (st (p + 1)).T = put (st p).T x.c.dst v ∧ valR (itemR self x (st p)) = v := by
  have h := d.step p x hx
  unfold drawStep at h
  rw [hk] at h
  obtain ⟨v, H1, n1, h1, h2, h3, h4, h5, rfl, rfl, h8, h9, h10, h11⟩ := drawEff_ok h
  exact ⟨v, ⟨h1, h2, h3, h4, h8, h9, h10, h11⟩, h5, by unfold itemR; rw [hk]; simp only [h1]; rfl⟩
/-- every item's step writes its value -/
theorem DRun.val (d : DRun P self sz all L st) {p : Nat} {x : PI} (hx : L[p]? = some x) : (st (p + 1)).T = put (st p).T x.c.dst (valR (itemR self x (st p))) := by
  cases hk : x.kd with
  | free => obtain ⟨v, H1, _, h2, h3⟩ := d.free hx hk; rw [h3]; exact h2
  | load => obtain ⟨v, _, h2, h3⟩ := d.load hx hk; rw [h3]; exact h2
  | eff => obtain ⟨v, _, h2, h3⟩ := d.eff hx hk; rw [h3]; exact h2
end
end
end Go.Xec
