/-
  THE EXECUTOR: a region that draws its order: facts of the executor's own run.
-/
import Derived.Test.YtadaoelabimmkaaGreatDoorXDraw
namespace Go.Xec
open Go
section
variable {P : Program} {self : Task → Hp → Nat → R}

/- ## A load leaves the heap -/
theorem plainOp_keep {T : Tm} {H H' : Hp} {n n' : Nat} {o : Oper} {v : Value} (h : plainOp P T H n o = .ok v H' n') : H' = H ∧ n' = n := by
  unfold plainOp at h
  split at h
  · obtain ⟨_, h2⟩ := chk_ok h; cases h2; exact ⟨rfl, rfl⟩
  · cases h
theorem compO_keep {o : Oper} {T : Tm} {H H' : Hp} {n n' : Nat} {v : Value} (hk : kdOf P o.op = .load) (h : (compO P o).f T H n = .ok v H' n') : H' = H ∧ n' = n := by
  unfold kdOf at hk
  split at hk <;> first | (cases hk; done) | skip
  · rename_i t a ho
    unfold compO at h
    rw [ho] at h
    unfold cLoad at h
    simp only at h
    cases hb : isAggD (P.underlying t) with
    | true =>
      rw [hb, cond_true] at h
      obtain ⟨_, _, h2⟩ := coO_ok h
      obtain ⟨_, _, h3⟩ := onPtr_ok h2
      obtain ⟨_, _, h4⟩ := onO_ok h3
      obtain ⟨_, _, h5⟩ := onO_ok h4
      cases h5; exact ⟨rfl, rfl⟩
    | false =>
      rw [hb, cond_false] at h
      obtain ⟨_, _, h2⟩ := coO_ok h
      obtain ⟨_, _, h3⟩ := onPtr_ok h2
      obtain ⟨_, _, h4⟩ := onO_ok h3
      obtain ⟨_, _, h5⟩ := onO_ok h4
      cases h5; exact ⟨rfl, rfl⟩
  · rename_i s d x ho
    unfold compO at h
    rw [ho] at h
    unfold cConvert at h
    simp only at h
    cases hb : isStr (P.underlying d) with
    | false =>
      rw [hb, cond_false] at h
      exact plainOp_keep (chk_ok h).2
    | true =>
      rw [hb, cond_true] at h
      split at h
      · obtain ⟨_, h2⟩ := coIf_ok h
        simp only at h2
        unfold onSl0 at h2
        split at h2
        · obtain ⟨_, _, h4⟩ := onO_ok h2
          obtain ⟨_, _, h5⟩ := onO_ok h4
          obtain ⟨_, _, h6⟩ := onO_ok h5
          cases h6; exact ⟨rfl, rfl⟩
        · exact plainOp_keep (chk_ok h2).2
      · exact plainOp_keep (chk_ok h).2
theorem load_keep {sz : Nat} {all : List Oper} {o : Oper} {T : Tm} {H H' : Hp} {n n' : Nat} {v : Value} (hk : kdOf P o.op = .load) (h : stepI self T H n (compI P sz all o) = .ok v H' n') : H' = H ∧ n' = n := by
  have hK : ∀ {v : Value} {H' : Hp} {n' : Nat}, stepK self T H n (compK P o) = .ok v H' n' → H' = H ∧ n' = n := fun {v H' n'} h => by
    unfold compK at h
    split at h
    · rename_i f args ts ho
      rw [ho] at hk; cases hk
    · cases hc : allOkX o.op.operands.toList with
      | false => rw [hc] at h; cases h
      | true => rw [hc, cond_true] at h; exact compO_keep hk h
  unfold compI at h
  cases hd : dstOk sz o.dst with
  | false => rw [hd] at h; cases h
  | true =>
    rw [hd, cond_true] at h
    split at h
    · exact hK h
    · split at h
      · rename_i j want _ _ t ht
        have h : (match tget T t with | .bool b => cond (cond want b (!b)) (stepK self T H n (compK P o)) (.ok undef H n) | _ => .ok undef H n) = .ok v H' n' := h
        split at h
        · rename_i b _
          cases hc : cond want b (!b) with
          | true => rw [hc, cond_true] at h; exact hK h
          | false => rw [hc, cond_false] at h; cases h; exact ⟨rfl, rfl⟩
        · cases h; exact ⟨rfl, rfl⟩
      · cases h

/- ## What is told equal is equal -/
theorem veq0_eq {a b : Value} (h : veq0 a b = true) : a = b := by
  unfold veq0 at h
  split at h
  · rename_i x y; cases x <;> cases y <;> first | rfl | cases h
  · obtain ⟨h1, h2⟩ := cond_and h
    rw [of_decide_eq_true h1, of_decide_eq_true h2]
  · rename_i x y
    have := of_decide_eq_true h
    rw [show x = y from by cases x; cases y; simp at this; exact congrArg _ this]
  · rfl
  · obtain ⟨h1, h2⟩ := cond_and h
    rw [beq_eq h1, beq_eq h2]
  · obtain ⟨h1, h2⟩ := cond_and h
    rw [beq_eq h1, beq_eq h2]
  · obtain ⟨h1, h2⟩ := cond_and h
    obtain ⟨h3, h4⟩ := cond_and h1
    obtain ⟨h5, h6⟩ := cond_and h2
    rw [beq_eq h3, beq_eq h4, beq_eq h5, beq_eq h6]
  · rfl
  · rfl
  · cases h
theorem veqL_eq : ∀ {l m : List Value}, veqL l m = true → l = m
  | [], [], _ => rfl
  | [], _ :: _, h => by cases h
  | _ :: _, [], h => by cases h
  | x :: l, y :: m, h => by
    have h : cond (veq0 x y) (veqL l m) false = true := h
    obtain ⟨h1, h2⟩ := cond_and h
    rw [veq0_eq h1, veqL_eq h2]
theorem veq_eq {a b : Value} (h : veq a b = true) : a = b := by
  unfold veq at h
  split at h
  · rename_i x y; rw [show x = y from Array.ext' (veqL_eq h)]
  · rename_i f x y g c d
    obtain ⟨h1, h2⟩ := cond_and h
    obtain ⟨h3, h4⟩ := cond_and h2
    rw [beq_eq h1, show x = c from Array.ext' (veqL_eq h3), show y = d from Array.ext' (veqL_eq h4)]
  · rename_i f x y g c d
    obtain ⟨h1, h2⟩ := cond_and h
    obtain ⟨h3, h4⟩ := cond_and h2
    rw [beq_eq h1, show x = c from Array.ext' (veqL_eq h3), show y = d from Array.ext' (veqL_eq h4)]
  · exact veq0_eq h

/- ## The states -/
section
variable {sz : Nat} {all : List Oper} {L : List PI} {st : Nat → DS}
/-- each step: no number is taken back, what was none stays none elsewhere -/
theorem DRun.mono1 (d : DRun P self sz all L st) (hN : NamesOk P) (hself : ∀ t H n, TaskS P t H n (self t H n)) {p : Nat} {x : PI} (hx : L[p]? = some x) : NoneOut (st p).H (st p).n (st (p + 1)).H (st (p + 1)).n := by
  cases hk : x.kd with
  | free =>
    obtain ⟨v, H1, f, _, _⟩ := d.free hx hk
    rcases f.heap with ⟨h1, h2⟩ | ⟨h1, o, h2, h3⟩
    · rw [h1, h2]; exact NoneOut.refl _ _
    · rw [h1, h3]; exact ⟨by omega, fun i hi h0 => by rw [hget_hset, if_neg (by omega)]; exact h0⟩
  | load =>
    obtain ⟨v, f, _, _⟩ := d.load hx hk
    rw [f.H, f.n]; exact NoneOut.refl _ _
  | eff =>
    obtain ⟨v, f, _, _⟩ := d.eff hx hk
    obtain ⟨o, ho, _, hc⟩ := d.plan.item p x hx
    have h := f.run
    rw [hc] at h
    exact (stepI_sound hN hself h).1.1
theorem DRun.mono (d : DRun P self sz all L st) (hN : NamesOk P) (hself : ∀ t H n, TaskS P t H n (self t H n)) {p : Nat} : ∀ {q : Nat}, p ≤ q → q ≤ L.length → NoneOut (st p).H (st p).n (st q).H (st q).n
  | 0, h1, h2 => by
    have : p = 0 := by omega
    subst this; exact NoneOut.refl _ _
  | q + 1, h1, h2 => by
    rcases Nat.lt_or_ge q p with h | h
    · have : p = q + 1 := by omega
      subst this; exact NoneOut.refl _ _
    · exact (d.mono hN hself h (by omega)).trans (d.mono1 hN hself (List.getElem?_eq_getElem (by omega)))
/-- the effects that are done -/
theorem DRun.effs (d : DRun P self sz all L st) : ∀ (p : Nat), p ≤ L.length → ∀ (q : Nat) (y : PI), L[q]? = some y → y.kd = .eff → q < p → tb (st p).E y.i = true
  | 0, _, _, _, _, _, h => by omega
  | p + 1, hp, q, y, hy, hk, h => by
    have hx : L[p]? = some L[p] := List.getElem?_eq_getElem (by omega)
    have old : q < p → tb (st p).E y.i = true := fun h => d.effs p (by omega) q y hy hk h
    by_cases hq : q = p
    · subst hq
      rw [hy] at hx; cases hx
      obtain ⟨v, f, _, _⟩ := d.eff hy hk
      rw [f.E, tb_or, tb_bit]; simp
    · have old := old (by omega)
      cases hkx : L[p].kd with
      | free => obtain ⟨v, H1, f, _, _⟩ := d.free hx hkx; rw [f.E]; exact old
      | load => obtain ⟨v, f, _, _⟩ := d.load hx hkx; rw [f.E]; exact old
      | eff => obtain ⟨v, f, _, _⟩ := d.eff hx hkx; rw [f.E, tb_or, old]; rfl
/-- the makers of blocks that are done -/
theorem DRun.makers (d : DRun P self sz all L st) : ∀ (p : Nat), p ≤ L.length → ∀ (q : Nat) (y : PI), L[q]? = some y → y.kd = .free → (st (q + 1)).n = (st q).n + 1 → q < p → tb (st p).A y.i = true
  | 0, _, _, _, _, _, _, h => by omega
  | p + 1, hp, q, y, hy, hk, ha, h => by
    have hx : L[p]? = some L[p] := List.getElem?_eq_getElem (by omega)
    by_cases hq : q = p
    · subst hq
      rw [hy] at hx; cases hx
      obtain ⟨v, H1, f, _, _⟩ := d.free hy hk
      rw [f.A, ha, beq_false_of (by omega), cond_false, tb_or, tb_bit]; simp
    · have old := d.makers p (by omega) q y hy hk ha (by omega)
      cases hkx : L[p].kd with
      | free =>
        obtain ⟨v, H1, f, _, _⟩ := d.free hx hkx
        rw [f.A]
        cases Nat.beq (st (p + 1)).n (st p).n
        · rw [cond_false, tb_or, old]; rfl
        · exact old
      | load => obtain ⟨v, f, _, _⟩ := d.load hx hkx; rw [f.A]; exact old
      | eff => obtain ⟨v, f, _, _⟩ := d.eff hx hkx; rw [f.A]; exact old
/-- the loads that are done -/
theorem DRun.loads (d : DRun P self sz all L st) : ∀ (p : Nat), p ≤ L.length → ∀ (q : Nat) (y : PI), L[q]? = some y → y.kd = .load → q < p → (⟨y.i, y.c, (st q).T, valR (itemR self y (st q))⟩ : Wt) ∈ (st p).W
  | 0, _, _, _, _, _, h => by omega
  | p + 1, hp, q, y, hy, hk, h => by
    have hx : L[p]? = some L[p] := List.getElem?_eq_getElem (by omega)
    by_cases hq : q = p
    · subst hq
      obtain ⟨v, f, _, hv⟩ := d.load hy hk
      rw [f.W, hv]; simp
    · have old := d.loads p (by omega) q y hy hk (by omega)
      cases hkx : L[p].kd with
      | free => obtain ⟨v, H1, f, _, _⟩ := d.free hx hkx; rw [f.W]; exact old
      | load => obtain ⟨v, f, _, _⟩ := d.load hx hkx; rw [f.W]; exact List.mem_cons_of_mem _ old
      | eff => obtain ⟨v, f, _, _⟩ := d.eff hx hkx; rw [f.W]; exact old
theorem wtsOk_mem {D : Nat} {H : Hp} {n : Nat} : ∀ {W : List Wt} {x : Wt}, wtsOk self D H n W = true → x ∈ W → wtOk self D H n x = true
  | y :: W, x, h, hx => by
    have h : cond (wtOk self D H n y) (wtsOk self D H n W) false = true := h
    obtain ⟨h1, h2⟩ := cond_and h
    rcases List.mem_cons.1 hx with rfl | hx
    · exact h1
    · exact wtsOk_mem h2 hx

def IsCut (L : List PI) (c : Nat) : Prop := c = 0 ∨ ∃ q y, c = q + 1 ∧ L[q]? = some y ∧ y.kd = .eff
def Calm (L : List PI) (c p : Nat) : Prop := ∀ q y, c ≤ q → q < p → L[q]? = some y → y.kd ≠ .eff
/-- the heap behind the last effect -/
theorem DRun.behind (d : DRun P self sz all L st) {c : Nat} (hc : IsCut L c) : ∀ (p : Nat), c ≤ p → p ≤ L.length → Calm L c p → (st p).K = (st c).H := by
  intro p
  induction p with
  | zero =>
    intro h1 h2 h3
    have : c = 0 := by omega
    subst this; exact d.k0
  | succ p ih =>
    intro h1 h2 h3
    have hx : L[p]? = some L[p] := List.getElem?_eq_getElem (by omega)
    rcases Nat.lt_or_ge p c with h | h
    · have : c = p + 1 := by omega
      subst this
      rcases hc with hc | ⟨q, y, e, hy, hk⟩
      · omega
      · have : q = p := by omega
        subst this
        obtain ⟨v, f, _, _⟩ := d.eff hy hk
        exact f.K
    · have ih := ih h (by omega) fun q y a b => h3 q y a (by omega)
      cases hk : L[p].kd with
      | free => obtain ⟨v, H1, f, _, _⟩ := d.free hx hk; rw [f.K]; exact ih
      | load => obtain ⟨v, f, _, _⟩ := d.load hx hk; rw [f.K]; exact ih
      | eff => exact absurd hk (h3 p _ h (by omega) hx)
/-- without an effect the heap only grows -/
theorem DRun.grow (d : DRun P self sz all L st) (hN : NamesOk P) (hself : ∀ t H n, TaskS P t H n (self t H n)) (h0 : ∀ i, (st 0).n ≤ i → i < (st L.length).n → hget (st 0).H i = none) {c : Nat} : ∀ (p : Nat), c ≤ p → p ≤ L.length → Calm L c p → ∀ i o, hget (st c).H i = some o → hget (st p).H i = some o := by
  intro p
  induction p with
  | zero =>
    intro h1 h2 h3 i o h
    have : c = 0 := by omega
    subst this; exact h
  | succ p ih =>
    intro h1 h2 h3 i o h
    rcases Nat.lt_or_ge p c with hpc | hpc
    · have : c = p + 1 := by omega
      subst this; exact h
    · have hx : L[p]? = some L[p] := List.getElem?_eq_getElem (by omega)
      have ih := ih hpc (by omega) (fun q y a b => h3 q y a (by omega)) i o h
      cases hk : L[p].kd with
      | free =>
        obtain ⟨v, H1, f, _, _⟩ := d.free hx hk
        rcases f.heap with ⟨_, h5⟩ | ⟨h4, o', _, h5⟩
        · rw [h5]; exact ih
        · rw [h5, hget_hset]
          split
          · rename_i e
            subst e
            have m0 := d.mono hN hself (Nat.zero_le p) (by omega)
            have m1 := d.mono hN hself (show p + 1 ≤ L.length by omega) (Nat.le_refl _)
            rw [m0.2 _ (.inr (Nat.le_refl _)) (h0 _ m0.1 (by have := m1.1; omega))] at ih
            cases ih
          · exact ih
      | load => obtain ⟨v, f, _, _⟩ := d.load hx hk; rw [f.H]; exact ih
      | eff => exact absurd hk (h3 p _ hpc (by omega) hx)
/-- and what is new was made there -/
theorem DRun.grown (d : DRun P self sz all L st) {c : Nat} : ∀ (p : Nat), c ≤ p → p ≤ L.length → Calm L c p → ∀ i o, hget (st p).H i = some o → hget (st c).H i = some o ∨ ∃ q y, c ≤ q ∧ q < p ∧ L[q]? = some y ∧ y.kd = .free ∧ (st (q + 1)).n = (st q).n + 1 ∧ i = (st q).n ∧ hget (st (q + 1)).H i = some o := by
  intro p
  induction p with
  | zero =>
    intro h1 h2 h3 i o h
    have : c = 0 := by omega
    subst this; exact .inl h
  | succ p ih =>
    intro h1 h2 h3 i o h
    rcases Nat.lt_or_ge p c with hpc | hpc
    · have : c = p + 1 := by omega
      subst this; exact .inl h
    · have hx : L[p]? = some L[p] := List.getElem?_eq_getElem (by omega)
      have ih : hget (st p).H i = some o → _ := ih hpc (by omega) (fun q y a b => h3 q y a (by omega)) i o
      have next : hget (st p).H i = some o → hget (st c).H i = some o ∨ ∃ q y, c ≤ q ∧ q < p + 1 ∧ L[q]? = some y ∧ y.kd = .free ∧ (st (q + 1)).n = (st q).n + 1 ∧ i = (st q).n ∧ hget (st (q + 1)).H i = some o := fun h => by
        rcases ih h with h | ⟨q, y, a1, a2, a3⟩
        · exact .inl h
        · exact .inr ⟨q, y, a1, by omega, a3⟩
      cases hk : L[p].kd with
      | free =>
        obtain ⟨v, H1, f, _, _⟩ := d.free hx hk
        rcases f.heap with ⟨_, h5⟩ | ⟨h4, o', _, h5⟩
        · rw [h5] at h; exact next h
        · by_cases e : i = (st p).n
          · exact .inr ⟨p, _, hpc, by omega, hx, hk, h4, e, h⟩
          · rw [h5, hget_hset, if_neg e] at h; exact next h
      | load => obtain ⟨v, f, _, _⟩ := d.load hx hk; rw [f.H] at h; exact next h
      | eff => exact absurd hk (h3 p _ hpc (by omega) hx)

/- ## The temporaries -/
theorem DRun.dst (d : DRun P self sz all L st) (hN : NamesOk P) (hself : ∀ t H n, TaskS P t H n (self t H n)) {p : Nat} {x : PI} {o : Oper} (hx : L[p]? = some x) (ho : all[x.i]? = some o) : x.c.dst = o.dst ∧ ∀ t, o.dst = some t → t < sz := by
  obtain ⟨o', ho', _, hc⟩ := d.plan.item p x hx
  rw [ho] at ho'; cases ho'
  cases hk : x.kd with
  | free => obtain ⟨v, H1, f, _, _⟩ := d.free hx hk; have h := f.run; rw [hc] at h ⊢; exact (stepI_sound hN hself h).2
  | load => obtain ⟨v, f, _, _⟩ := d.load hx hk; obtain ⟨_, _, h⟩ := f.run; rw [hc] at h ⊢; exact (stepI_sound hN hself h).2
  | eff => obtain ⟨v, f, _, _⟩ := d.eff hx hk; have h := f.run; rw [hc] at h ⊢; exact (stepI_sound hN hself h).2
theorem tget_put (T : Tm) (d : Option Tmp) (v : Value) (t : Nat) : tget (put T d v) t = if d = some t then v else tget T t := by
  cases d with
  | none => simp [put]
  | some e =>
    simp only [put, tget_tset, Option.some.injEq]
    by_cases h : t = e
    · simp [h]
    · rw [if_neg h, if_neg (fun x => h x.symm)]
/-- who writes a temporary -/
def Writes (L : List PI) (all : List Oper) (t : Tmp) (q : Nat) (y : PI) : Prop := L[q]? = some y ∧ ∃ o, all[y.i]? = some o ∧ o.dst = some t
theorem Writes.uniq (pl : Plan P sz all L) {t : Tmp} {p q : Nat} {x y : PI} (h1 : Writes L all t p x) (h2 : Writes L all t q y) : p = q ∧ x = y := by
  obtain ⟨a1, o1, a2, a3⟩ := h1
  obtain ⟨b1, o2, b2, b3⟩ := h2
  by_cases e : p = q
  · subst e; rw [a1] at b1; cases b1; exact ⟨rfl, rfl⟩
  · exact absurd a3 (pl.dsts p q x y o1 o2 t a1 b1 a2 b2 e b3)
theorem DRun.tmp (d : DRun P self sz all L st) (hN : NamesOk P) (hself : ∀ t H n, TaskS P t H n (self t H n)) (t : Tmp) : ∀ (p : Nat), p ≤ L.length → ((∃ q y, q < p ∧ Writes L all t q y ∧ tget (st p).T t = valR (itemR self y (st q))) ∨ ((∀ q y, q < p → ¬ Writes L all t q y) ∧ tget (st p).T t = tget (st 0).T t))
  | 0, _ => .inr ⟨fun q y h => by omega, rfl⟩
  | p + 1, hp => by
    have hx : L[p]? = some L[p] := List.getElem?_eq_getElem (by omega)
    obtain ⟨o, ho, _, _⟩ := d.plan.item p _ hx
    obtain ⟨hd, _⟩ := d.dst hN hself hx ho
    have hv := d.val hx
    rw [hv, tget_put, hd]
    by_cases e : o.dst = some t
    · rw [if_pos e]
      exact .inl ⟨p, _, by omega, ⟨hx, o, ho, e⟩, rfl⟩
    · rw [if_neg e]
      rcases d.tmp hN hself t p (by omega) with ⟨q, y, h1, h2, h3⟩ | ⟨h1, h2⟩
      · exact .inl ⟨q, y, by omega, h2, h3⟩
      · refine .inr ⟨fun q y hq hw => ?_, h2⟩
        by_cases hqp : q = p
        · subst hqp
          obtain ⟨w1, o', w2, w3⟩ := hw
          rw [hx] at w1; cases w1
          rw [ho] at w2; cases w2
          exact e w3
        · exact h1 q y (by omega) hw
end
end
end Go.Xec
