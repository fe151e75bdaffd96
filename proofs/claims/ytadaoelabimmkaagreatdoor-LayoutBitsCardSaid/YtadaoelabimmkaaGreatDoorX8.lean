/-
  THE EXECUTOR: a region that draws its order: facts of the executor's own run.; THE EXECUTOR: a region that draws its order: in every order to the same.
-/
import Derived.Test.YtadaoelabimmkaaGreatDoorX7
set_option linter.all false
namespace Go.Xec
open Go
variable [GT]
section
variable {P : Program} {self : Task → Hp → Nat → R}
theorem plainOp_keep {T : Tm} {H H' : Hp} {n n' : Nat} {o : Oper} {v : Value} (h : plainOp P T H n o = .ok v H' n') : H' = H ∧ n' = n := by
 unfold plainOp at h
 split at h
 ·obtain ⟨_, h2⟩ := chk_ok h; cases h2; exact ⟨rfl, rfl⟩
 ·cases h
theorem compO_keep {o : Oper} {T : Tm} {H H' : Hp} {n n' : Nat} {v : Value} (hk : kdOf P o.op = .load) (h : (compO P o).f T H n = .ok v H' n') : H' = H ∧ n' = n := by
 unfold kdOf at hk
 split at hk <;> first | (cases hk; done) | skip
 ·rename_i t a ho
  unfold compO at h
  rw [ho] at h
  unfold cLoad at h
  simp only at h
  cases hb : isAggD (P.underlying t) with
  | true =>
   rw [hb, cond_true] at h
   obtain ⟨_, _, h2⟩ := coO_ok h
   obtain ⟨_, _, h3⟩ := onPtr_ok h2
   obtain ⟨_, _, h4⟩ := onO_ok h3
   obtain ⟨_, _, h5⟩ := onO_ok h4
   cases h5; exact ⟨rfl, rfl⟩
  | false =>
   rw [hb, cond_false] at h
   obtain ⟨_, _, h2⟩ := coO_ok h
   obtain ⟨_, _, h3⟩ := onPtr_ok h2
   obtain ⟨_, _, h4⟩ := onO_ok h3
   obtain ⟨_, _, h5⟩ := onO_ok h4
   cases h5; exact ⟨rfl, rfl⟩
 ·rename_i s d x ho
  unfold compO at h
  rw [ho] at h
  unfold cConvert at h
  simp only at h
  cases hb : isStr (P.underlying d) with
  | false =>
   rw [hb, cond_false] at h
   split at h
   ·unfold cToBytes at h
    obtain ⟨_, h2⟩ := coIf_ok h
    cases hs : isStr (P.underlying s) with
    | true =>
     exfalso
     rw [isStr_ok hs] at hk
     cases hk
    | false =>
     rw [hs, cond_false] at h2
     obtain ⟨_, h3⟩ := coIf_ok h2
     obtain ⟨_, _, _, _, h4⟩ := onSl_ok h3
     obtain ⟨_, _, h5⟩ := onO_ok h4
     cases h5; exact ⟨rfl, rfl⟩
   ·exact plainOp_keep (chk_ok h).2
  | true =>
   rw [hb, cond_true] at h
   split at h
   ·obtain ⟨_, h2⟩ := coIf_ok h
    simp only at h2
    unfold onSl0 at h2
    split at h2
    ·obtain ⟨_, _, h4⟩ := onO_ok h2
     obtain ⟨_, _, h5⟩ := onO_ok h4
     obtain ⟨_, _, h6⟩ := onO_ok h5
     cases h6; exact ⟨rfl, rfl⟩
    ·exact plainOp_keep (chk_ok h2).2
   ·exact plainOp_keep (chk_ok h).2
theorem load_keep {sz : Nat} {all : List Oper} {o : Oper} {T : Tm} {H H' : Hp} {n n' : Nat} {v : Value} (hk : kdOf P o.op = .load) (h : stepI self T H n (compI P sz all o) = .ok v H' n') : H' = H ∧ n' = n := by
 have hK : ∀ {v : Value} {H' : Hp} {n' : Nat}, stepK self T H n (compK P o) = .ok v H' n' → H' = H ∧ n' = n := fun {v H' n'} h => by
  unfold compK at h
  split at h
  ·rename_i f args ts ho
   rw [ho] at hk; cases hk
  ·cases hc : allOkX o.op.operands.toList with
   | false => rw [hc] at h; cases h
   | true => rw [hc, cond_true] at h; exact compO_keep hk h
 unfold compI at h
 cases hd : dstOk sz o.dst with
 | false => rw [hd] at h; cases h
 | true =>
  rw [hd, cond_true] at h
  split at h
  ·exact hK h
  ·split at h
   ·rename_i j want _ _ t ht
    have h : (match tget T t with | .bool b => cond (cond want b (!b)) (stepK self T H n (compK P o)) (.ok undef H n) | _ => .ok undef H n) = .ok v H' n' := h
    split at h
    ·rename_i b _
     cases hc : cond want b (!b) with
     | true => rw [hc, cond_true] at h; exact hK h
     | false => rw [hc, cond_false] at h; cases h; exact ⟨rfl, rfl⟩
    ·cases h; exact ⟨rfl, rfl⟩
   ·cases h
theorem veq0_eq {a b : Value} (h : veq0 a b = true) : a = b := by
 unfold veq0 at h
 split at h
 ·rename_i x y; cases x <;> cases y <;> first | rfl | cases h
 ·obtain ⟨h1, h2⟩ := cond_and h
  rw [of_decide_eq_true h1, of_decide_eq_true h2]
 ·rename_i x y
  have := of_decide_eq_true h
  rw [show x = y from by cases x; cases y; simp at this; exact congrArg _ this]
 ·rfl
 ·obtain ⟨h1, h2⟩ := cond_and h
  rw [beq_eq h1, beq_eq h2]
 ·obtain ⟨h1, h2⟩ := cond_and h
  rw [beq_eq h1, beq_eq h2]
 ·obtain ⟨h1, h2⟩ := cond_and h
  obtain ⟨h3, h4⟩ := cond_and h1
  obtain ⟨h5, h6⟩ := cond_and h2
  rw [beq_eq h3, beq_eq h4, beq_eq h5, beq_eq h6]
 ·rfl
 ·rfl
 ·cases h
theorem veqL_eq : ∀ {l m : List Value}, veqL l m = true → l = m
 | [], [], _ => rfl
 | [], _ :: _, h => by cases h
 | _ :: _, [], h => by cases h
 | x :: l, y :: m, h => by
  have h : cond (veq0 x y) (veqL l m) false = true := h
  obtain ⟨h1, h2⟩ := cond_and h
  rw [veq0_eq h1, veqL_eq h2]
theorem veq_eq {a b : Value} (h : veq a b = true) : a = b := by
 unfold veq at h
 split at h
 ·rename_i x y; rw [show x = y from Array.ext' (veqL_eq h)]
 ·rename_i f x y g c d
  obtain ⟨h1, h2⟩ := cond_and h
  obtain ⟨h3, h4⟩ := cond_and h2
  rw [beq_eq h1, show x = c from Array.ext' (veqL_eq h3), show y = d from Array.ext' (veqL_eq h4)]
 ·rename_i f x y g c d
  obtain ⟨h1, h2⟩ := cond_and h
  obtain ⟨h3, h4⟩ := cond_and h2
  rw [beq_eq h1, show x = c from Array.ext' (veqL_eq h3), show y = d from Array.ext' (veqL_eq h4)]
 ·rename_i x y; rw [show x = y from Array.ext' (veqL_eq h)]
 ·exact veq0_eq h
section
variable {sz : Nat} {all : List Oper} {L : List PI} {st : Nat → DS}
theorem DRun.mono1 (d : DRun P self sz all L st) (hN : NamesOk P) (hself : ∀ t H n, TaskS P t H n (self t H n)) {p : Nat} {x : PI} (hx : L[p]? = some x) : NoneOut (st p).H (st p).n (st (p + 1)).H (st (p + 1)).n := by
 cases hk : x.kd with
 | free =>
  obtain ⟨v, H1, f, _, _⟩ := d.free hx hk
  rcases f.heap with ⟨h1, h2⟩ | ⟨h1, o, h2, h3⟩
  ·rw [h1, h2]; exact NoneOut.refl _ _
  ·rw [h1, h3]; exact ⟨by omega, fun i hi h0 => by rw [hget_hset, if_neg (by omega)]; exact h0⟩
 | load =>
  obtain ⟨v, f, _, _⟩ := d.load hx hk
  rw [f.H, f.n]; exact NoneOut.refl _ _
 | eff =>
  obtain ⟨v, f, _, _⟩ := d.eff hx hk
  obtain ⟨o, ho, _, hc⟩ := d.plan.item p x hx
  have h := f.run
  rw [hc] at h
  exact (stepI_sound hN hself h).1.1
theorem DRun.mono (d : DRun P self sz all L st) (hN : NamesOk P) (hself : ∀ t H n, TaskS P t H n (self t H n)) {p : Nat} : ∀ {q : Nat}, p ≤ q → q ≤ L.length → NoneOut (st p).H (st p).n (st q).H (st q).n
 | 0, h1, h2 => by
  have : p = 0 := by omega
  subst this; exact NoneOut.refl _ _
 | q + 1, h1, h2 => by
  rcases Nat.lt_or_ge q p with h | h
  ·have : p = q + 1 := by omega
   subst this; exact NoneOut.refl _ _
  ·exact (d.mono hN hself h (by omega)).trans (d.mono1 hN hself (List.getElem?_eq_getElem (by omega)))
theorem DRun.effs (d : DRun P self sz all L st) : ∀ (p : Nat), p ≤ L.length → ∀ (q : Nat) (y : PI), L[q]? = some y → y.kd = .eff → q < p → tb (st p).E y.i = true
 | 0, _, _, _, _, _, h => by omega
 | p + 1, hp, q, y, hy, hk, h => by
  have hx : L[p]? = some L[p] := List.getElem?_eq_getElem (by omega)
  have old : q < p → tb (st p).E y.i = true := fun h => d.effs p (by omega) q y hy hk h
  by_cases hq : q = p
  ·subst hq
   rw [hy] at hx; cases hx
   obtain ⟨v, f, _, _⟩ := d.eff hy hk
   rw [f.E, tb_or, tb_bit]; simp
  ·have old := old (by omega)
   cases hkx : L[p].kd with
   | free => obtain ⟨v, H1, f, _, _⟩ := d.free hx hkx; rw [f.E]; exact old
   | load => obtain ⟨v, f, _, _⟩ := d.load hx hkx; rw [f.E]; exact old
   | eff => obtain ⟨v, f, _, _⟩ := d.eff hx hkx; rw [f.E, tb_or, old]; rfl
theorem DRun.makers (d : DRun P self sz all L st) : ∀ (p : Nat), p ≤ L.length → ∀ (q : Nat) (y : PI), L[q]? = some y → y.kd = .free → (st (q + 1)).n = (st q).n + 1 → q < p → tb (st p).A y.i = true
 | 0, _, _, _, _, _, _, h => by omega
 | p + 1, hp, q, y, hy, hk, ha, h => by
  have hx : L[p]? = some L[p] := List.getElem?_eq_getElem (by omega)
  by_cases hq : q = p
  ·subst hq
   rw [hy] at hx; cases hx
   obtain ⟨v, H1, f, _, _⟩ := d.free hy hk
   rw [f.A, ha, beq_false_of (by omega), cond_false, tb_or, tb_bit]; simp
  ·have old := d.makers p (by omega) q y hy hk ha (by omega)
   cases hkx : L[p].kd with
   | free =>
    obtain ⟨v, H1, f, _, _⟩ := d.free hx hkx
    rw [f.A]
    cases Nat.beq (st (p + 1)).n (st p).n
    ·rw [cond_false, tb_or, old]; rfl
    ·exact old
   | load => obtain ⟨v, f, _, _⟩ := d.load hx hkx; rw [f.A]; exact old
   | eff => obtain ⟨v, f, _, _⟩ := d.eff hx hkx; rw [f.A]; exact old
theorem DRun.loads (d : DRun P self sz all L st) : ∀ (p : Nat), p ≤ L.length → ∀ (q : Nat) (y : PI), L[q]? = some y → y.kd = .load → q < p → (⟨y.i, y.c, (st q).T, valR (itemR self y (st q))⟩ : Wt) ∈ (st p).W
 | 0, _, _, _, _, _, h => by omega
 | p + 1, hp, q, y, hy, hk, h => by
  have hx : L[p]? = some L[p] := List.getElem?_eq_getElem (by omega)
  by_cases hq : q = p
  ·subst hq
   obtain ⟨v, f, _, hv⟩ := d.load hy hk
   rw [f.W, hv]; simp
  ·have old := d.loads p (by omega) q y hy hk (by omega)
   cases hkx : L[p].kd with
   | free => obtain ⟨v, H1, f, _, _⟩ := d.free hx hkx; rw [f.W]; exact old
   | load => obtain ⟨v, f, _, _⟩ := d.load hx hkx; rw [f.W]; exact List.mem_cons_of_mem _ old
   | eff => obtain ⟨v, f, _, _⟩ := d.eff hx hkx; rw [f.W]; exact old
theorem wtsOk_mem {D : Nat} {H : Hp} {n : Nat} : ∀ {W : List Wt} {x : Wt}, wtsOk self D H n W = true → x ∈ W → wtOk self D H n x = true
 | y :: W, x, h, hx => by
  have h : cond (wtOk self D H n y) (wtsOk self D H n W) false = true := h
  obtain ⟨h1, h2⟩ := cond_and h
  rcases List.mem_cons.1 hx with rfl | hx
  ·exact h1
  ·exact wtsOk_mem h2 hx
def IsCut (L : List PI) (c : Nat) : Prop := c = 0 ∨ ∃ q y, c = q + 1 ∧ L[q]? = some y ∧ y.kd = .eff
def Calm (L : List PI) (c p : Nat) : Prop := ∀ q y, c ≤ q → q < p → L[q]? = some y → y.kd ≠ .eff
theorem DRun.behind (d : DRun P self sz all L st) {c : Nat} (hc : IsCut L c) : ∀ (p : Nat), c ≤ p → p ≤ L.length → Calm L c p → (st p).K = (st c).H := by
 intro p
 induction p with
 | zero =>
  intro h1 h2 h3
  have : c = 0 := by omega
  subst this; exact d.k0
 | succ p ih =>
  intro h1 h2 h3
  have hx : L[p]? = some L[p] := List.getElem?_eq_getElem (by omega)
  rcases Nat.lt_or_ge p c with h | h
  ·have : c = p + 1 := by omega
   subst this
   rcases hc with hc | ⟨q, y, e, hy, hk⟩
   ·omega
   ·have : q = p := by omega
    subst this
    obtain ⟨v, f, _, _⟩ := d.eff hy hk
    exact f.K
  ·have ih := ih h (by omega) fun q y a b => h3 q y a (by omega)
   cases hk : L[p].kd with
   | free => obtain ⟨v, H1, f, _, _⟩ := d.free hx hk; rw [f.K]; exact ih
   | load => obtain ⟨v, f, _, _⟩ := d.load hx hk; rw [f.K]; exact ih
   | eff => exact absurd hk (h3 p _ h (by omega) hx)
theorem DRun.grow (d : DRun P self sz all L st) (hN : NamesOk P) (hself : ∀ t H n, TaskS P t H n (self t H n)) (h0 : ∀ i, (st 0).n ≤ i → i < (st L.length).n → hget (st 0).H i = none) {c : Nat} : ∀ (p : Nat), c ≤ p → p ≤ L.length → Calm L c p → ∀ i o, hget (st c).H i = some o → hget (st p).H i = some o := by
 intro p
 induction p with
 | zero =>
  intro h1 h2 h3 i o h
  have : c = 0 := by omega
  subst this; exact h
 | succ p ih =>
  intro h1 h2 h3 i o h
  rcases Nat.lt_or_ge p c with hpc | hpc
  ·have : c = p + 1 := by omega
   subst this; exact h
  ·have hx : L[p]? = some L[p] := List.getElem?_eq_getElem (by omega)
   have ih := ih hpc (by omega) (fun q y a b => h3 q y a (by omega)) i o h
   cases hk : L[p].kd with
   | free =>
    obtain ⟨v, H1, f, _, _⟩ := d.free hx hk
    rcases f.heap with ⟨_, h5⟩ | ⟨h4, o', _, h5⟩
    ·rw [h5]; exact ih
    ·rw [h5, hget_hset]
     split
     ·rename_i e
      subst e
      have m0 := d.mono hN hself (Nat.zero_le p) (by omega)
      have m1 := d.mono hN hself (show p + 1 ≤ L.length by omega) (Nat.le_refl _)
      rw [m0.2 _ (.inr (Nat.le_refl _)) (h0 _ m0.1 (by have := m1.1; omega))] at ih
      cases ih
     ·exact ih
   | load => obtain ⟨v, f, _, _⟩ := d.load hx hk; rw [f.H]; exact ih
   | eff => exact absurd hk (h3 p _ hpc (by omega) hx)
theorem DRun.grown (d : DRun P self sz all L st) {c : Nat} : ∀ (p : Nat), c ≤ p → p ≤ L.length → Calm L c p → ∀ i o, hget (st p).H i = some o → hget (st c).H i = some o ∨ ∃ q y, c ≤ q ∧ q < p ∧ L[q]? = some y ∧ y.kd = .free ∧ (st (q + 1)).n = (st q).n + 1 ∧ i = (st q).n ∧ hget (st (q + 1)).H i = some o := by
 intro p
 induction p with
 | zero =>
  intro h1 h2 h3 i o h
  have : c = 0 := by omega
  subst this; exact .inl h
 | succ p ih =>
  intro h1 h2 h3 i o h
  rcases Nat.lt_or_ge p c with hpc | hpc
  ·have : c = p + 1 := by omega
   subst this; exact .inl h
  ·have hx : L[p]? = some L[p] := List.getElem?_eq_getElem (by omega)
   have ih : hget (st p).H i = some o → _ := ih hpc (by omega) (fun q y a b => h3 q y a (by omega)) i o
   have next : hget (st p).H i = some o → hget (st c).H i = some o ∨ ∃ q y, c ≤ q ∧ q < p + 1 ∧ L[q]? = some y ∧ y.kd = .free ∧ (st (q + 1)).n = (st q).n + 1 ∧ i = (st q).n ∧ hget (st (q + 1)).H i = some o := fun h => by
    rcases ih h with h | ⟨q, y, a1, a2, a3⟩
    ·exact .inl h
    ·exact .inr ⟨q, y, a1, by omega, a3⟩
   cases hk : L[p].kd with
   | free =>
    obtain ⟨v, H1, f, _, _⟩ := d.free hx hk
    rcases f.heap with ⟨_, h5⟩ | ⟨h4, o', _, h5⟩
    ·rw [h5] at h; exact next h
    ·by_cases e : i = (st p).n
     ·exact .inr ⟨p, _, hpc, by omega, hx, hk, h4, e, h⟩
     ·rw [h5, hget_hset, if_neg e] at h; exact next h
   | load => obtain ⟨v, f, _, _⟩ := d.load hx hk; rw [f.H] at h; exact next h
   | eff => exact absurd hk (h3 p _ hpc (by omega) hx)
theorem DRun.dst (d : DRun P self sz all L st) (hN : NamesOk P) (hself : ∀ t H n, TaskS P t H n (self t H n)) {p : Nat} {x : PI} {o : Oper} (hx : L[p]? = some x) (ho : all[x.i]? = some o) : x.c.dst = o.dst ∧ ∀ t, o.dst = some t → t < sz := by
 obtain ⟨o', ho', _, hc⟩ := d.plan.item p x hx
 rw [ho] at ho'; cases ho'
 cases hk : x.kd with
 | free => obtain ⟨v, H1, f, _, _⟩ := d.free hx hk; have h := f.run; rw [hc] at h ⊢; exact (stepI_sound hN hself h).2
 | load => obtain ⟨v, f, _, _⟩ := d.load hx hk; obtain ⟨_, _, h⟩ := f.run; rw [hc] at h ⊢; exact (stepI_sound hN hself h).2
 | eff => obtain ⟨v, f, _, _⟩ := d.eff hx hk; have h := f.run; rw [hc] at h ⊢; exact (stepI_sound hN hself h).2
theorem tget_put (T : Tm) (d : Option Tmp) (v : Value) (t : Nat) : tget (put T d v) t = if d = some t then v else tget T t := by
 cases d with
 | none => simp [put]
 | some e =>
  simp only [put, tget_tset, Option.some.injEq]
  by_cases h : t = e
  ·simp [h]
  ·rw [if_neg h, if_neg (fun x => h x.symm)]
def Writes (L : List PI) (all : List Oper) (t : Tmp) (q : Nat) (y : PI) : Prop := L[q]? = some y ∧ ∃ o, all[y.i]? = some o ∧ o.dst = some t
theorem Writes.uniq (pl : Plan P sz all L) {t : Tmp} {p q : Nat} {x y : PI} (h1 : Writes L all t p x) (h2 : Writes L all t q y) : p = q ∧ x = y := by
 obtain ⟨a1, o1, a2, a3⟩ := h1
 obtain ⟨b1, o2, b2, b3⟩ := h2
 by_cases e : p = q
 ·subst e; rw [a1] at b1; cases b1; exact ⟨rfl, rfl⟩
 ·exact absurd a3 (pl.dsts p q x y o1 o2 t a1 b1 a2 b2 e b3)
theorem DRun.tmp (d : DRun P self sz all L st) (hN : NamesOk P) (hself : ∀ t H n, TaskS P t H n (self t H n)) (t : Tmp) : ∀ (p : Nat), p ≤ L.length → ((∃ q y, q < p ∧ Writes L all t q y ∧ tget (st p).T t = valR (itemR self y (st q))) ∨ ((∀ q y, q < p → ¬ Writes L all t q y) ∧ tget (st p).T t = tget (st 0).T t))
 | 0, _ => .inr ⟨fun q y h => by omega, rfl⟩
 | p + 1, hp => by
  have hx : L[p]? = some L[p] := List.getElem?_eq_getElem (by omega)
  obtain ⟨o, ho, _, _⟩ := d.plan.item p _ hx
  obtain ⟨hd, _⟩ := d.dst hN hself hx ho
  have hv := d.val hx
  rw [hv, tget_put, hd]
  by_cases e : o.dst = some t
  ·rw [if_pos e]
   exact .inl ⟨p, _, by omega, ⟨hx, o, ho, e⟩, rfl⟩
  ·rw [if_neg e]
   rcases d.tmp hN hself t p (by omega) with ⟨q, y, h1, h2, h3⟩ | ⟨h1, h2⟩
   ·exact .inl ⟨q, y, by omega, h2, h3⟩
   ·refine .inr ⟨fun q y hq hw => ?_, h2⟩
    by_cases hqp : q = p
    ·subst hqp
     obtain ⟨w1, o', w2, w3⟩ := hw
     rw [hx] at w1; cases w1
     rw [ho] at w2; cases w2
     exact e w3
    ·exact h1 q y (by omega) hw
end
end
end Go.Xec
namespace Go.Xec
open Go
variable [GT]
section
variable {P : Program} {self : Task → Hp → Nat → R}
theorem Ext.within {β γ δ : Bm} {G G' G'' : Gp} {n n' m m' : Nat} {w w' w'' : World} (h1 : Ext P β G n w γ G' n' w') (h2 : Ext P γ G' m w' δ G'' m' w'') (hl : ∀ i, i < n ∨ n' ≤ i → i < m ∨ m' ≤ i) (hf : Fresh β n n') :
  Ext P β G n w δ G'' n' w'' := by
 have e1 := h1.le hf
 refine ⟨fun i hi => ?_, h2.wr, Nat.le_trans h1.size h2.size, fun b hb ho => ?_, fun i o b g1 g2 g3 => ?_, fun i g => h2.keep i (h1.keep i g), fun i b g hb => ?_, h2.os.trans h1.os, h2.out.trans h1.out, h2.tape.trans h1.tape⟩
 ·rw [h2.same i (hl i hi), h1.same i hi]
 ·rw [h2.frame b (by have := h1.size; omega) ?_, h1.frame b hb ho]
  intro i o c g1 g2 g3 g4
  rcases h1.orig i o c g1 g2 g3 with h | ⟨j, p, d, q1, q2, q3, q4⟩
  ·omega
  ·exact ho j p d q1 q2 q3 (q4.trans g4)
 ·rcases h2.orig i o b g1 g2 g3 with h | ⟨j, p, c, q1, q2, q3, q4⟩
  ·exact .inl (Nat.le_trans h1.size h)
  ·rcases h1.orig j p c q1 q2 q3 with h | ⟨k, r, d, r1, r2, r3, r4⟩
   ·exact .inl (q4 ▸ h)
   ·exact .inr ⟨k, r, d, r1, r2, r3, r4.trans q4⟩
 ·rw [h2.kept i b (h1.keep i g) (e1 i b hb), h1.kept i b g hb]
theorem hget_nil : hget .leaf = fun _ => none := rfl
theorem WR.lay {β : Bm} {G : Gp} {w : World} (h : WR P β G w) {i : Nat} {o : AObj} (hi : G i = some o) : β i ≠ none := fun e => by
 obtain ⟨b, q, h1, _⟩ := h.obj i o hi
 rw [e] at h1; cases h1
section
variable {sz : Nat} {all : List Oper} {L : List PI} {st : Nat → DS}
def TV (self : Task → Hp → Nat → R) (L : List PI) (all : List Oper) (st : Nat → DS) (S : Nat → Prop) (t : Tmp) (v : Value) : Prop :=
 (∃ q y, Writes L all t q y ∧ S y.i ∧ v = valR (itemR self y (st q))) ∨ ((∀ q y, Writes L all t q y → ¬ S y.i) ∧ v = tget (st 0).T t)
def Maker (L : List PI) (st : Nat → DS) (q : Nat) (y : PI) : Prop := L[q]? = some y ∧ y.kd = .free ∧ (st (q + 1)).n = (st q).n + 1
structure Inv (P : Program) (sf : Task → Hp → Nat → R) (sz : Nat) (all : List Oper) (L : List PI) (st : Nat → DS) (β0 : Bm) (w0 : World) (ds : List Deferred) (S : Nat → Prop) (a : Act) (w : World) (β : Bm) (G : Gp) (c : Nat) : Prop where
 clo : Closed all S
 cle : c ≤ L.length
 cut : IsCut L c
 effs : ∀ q y, L[q]? = some y → y.kd = .eff → (S y.i ↔ q < c)
 inG : ∀ i o, hget (st c).H i = some o → G i = some o
 outG : ∀ i o, G i = some o → hget (st c).H i = some o ∨ (hget (st c).H i = none ∧ ∃ q y, c ≤ q ∧ Maker L st q y ∧ S y.i ∧ i = (st q).n)
 newG : ∀ q y, c ≤ q → Maker L st q y → S y.i → G (st q).n = hget (st (q + 1)).H (st q).n
 tmp : ∀ t v, TV sf L all st S t v → VR β v (a.tmps.getD t undef)
 size : a.tmps.size = sz
 dfr : a.defers = ds
 ext : Ext P β0 (hget (st 0).H) (st 0).n w0 β G (st L.length).n w
 fresh : ∀ q y, L[q]? = some y → ¬ S y.i → Fresh β (st q).n (st (q + 1)).n
structure Hyp (P : Program) (sf : Task → Hp → Nat → R) (sz : Nat) (all : List Oper) (L : List PI) (st : Nat → DS) (β0 : Bm) : Prop where
 run : DRun P sf sz all L st
 names : NamesOk P
 sound : ∀ t H n, TaskS P t H n (sf t H n)
 none0 : ∀ i, (st 0).n ≤ i → i < (st L.length).n → hget (st 0).H i = none
 free0 : Fresh β0 (st 0).n (st L.length).n
variable {β0 : Bm} {w0 : World} {ds : List Deferred}
theorem Hyp.le (h : Hyp P self sz all L st β0) {p q : Nat} (hpq : p ≤ q) (hq : q ≤ L.length) : (st p).n ≤ (st q).n := (h.run.mono h.names h.sound hpq hq).1
theorem Hyp.none (h : Hyp P self sz all L st β0) {p : Nat} (hp : p ≤ L.length) {i : Nat} (h1 : (st p).n ≤ i) (h2 : i < (st L.length).n) : hget (st p).H i = none := by
 have m := h.run.mono h.names h.sound (Nat.zero_le p) hp
 exact m.2 i (.inr h1) (h.none0 i (by have := m.1; omega) h2)
theorem len_of {p : Nat} {x : PI} (hx : L[p]? = some x) : p < L.length := (List.getElem?_eq_some_iff.1 hx).1
theorem Hyp.apart (h : Hyp P self sz all L st β0) {p q : Nat} {x y : PI} (hx : L[p]? = some x) (hy : L[q]? = some y) (hne : q ≠ p) {i : Nat} (h1 : (st q).n ≤ i) (h2 : i < (st (q + 1)).n) : i < (st p).n ∨ (st (p + 1)).n ≤ i := by
 have := len_of hx
 have := len_of hy
 rcases Nat.lt_or_ge q p with hl | hl
 ·have := h.le (show q + 1 ≤ p from hl) (by omega); omega
 ·have := h.le (show p + 1 ≤ q by omega) (by omega); omega
section
variable {S : Nat → Prop} {a : Act} {w : World} {β : Bm} {G : Gp} {c : Nat}
theorem Inv.looked (v : Inv P self sz all L st β0 w0 ds S a w β G c) (h : Hyp P self sz all L st β0) {p : Nat} {x : PI} {o : Oper} (hx : L[p]? = some x) (ho : all[x.i]? = some o) (hS : ¬ S x.i) (he : ∀ e ∈ o.after.toList, Region.binds .any e = true → S e.on)
  {t : Tmp} (ht : t ∈ looks all o) : VR β (tget (st p).T t) (a.tmps.getD t undef) := by
 refine v.tmp t _ ?_
 have pl := h.run.plan
 have key : ∀ q y, Writes L all t q y → (q < p → S y.i) ∧ (S y.i → q < p) := fun q y hw => by
  obtain ⟨b1, oy, b2, b3⟩ := hw
  by_cases hqp : q = p
  ·subst hqp
   rw [hx] at b1; cases b1
   exact ⟨fun h => by omega, fun h => absurd h hS⟩
  ·rcases pl.looked p q x y o oy t hx b1 ho b2 (fun e => hqp e.symm) b3 ht with hd | hd
   ·refine ⟨fun _ => pl.hang p x o S hx ho v.clo he _ hd, fun _ => ?_⟩
    obtain ⟨q', y', c1, c2, c3⟩ := pl.ahead p x _ hx hd
    have := pl.uniq q q' y y' b1 c2 c3.symm
    omega
   ·obtain ⟨q', y', c1, c2, c3⟩ := pl.ahead q y _ b1 hd
    have := pl.uniq p q' x y' hx c2 c3.symm
    refine ⟨fun hl => by omega, fun hs => absurd (pl.hang q y oy S b1 b2 v.clo (v.clo _ _ b2 hs) _ hd) hS⟩
 rcases h.run.tmp h.names h.sound t p (Nat.le_of_lt (len_of hx)) with ⟨q, y, a1, a2, a3⟩ | ⟨a1, a2⟩
 ·exact .inl ⟨q, y, a2, (key q y a2).1 a1, a3⟩
 ·exact .inr ⟨fun q y hw hs => a1 q y ((key q y hw).2 hs) hw, a2⟩
theorem Inv.tmp' (v : Inv P self sz all L st β0 w0 ds S a w β G c) (h : Hyp P self sz all L st β0) {p : Nat} {x : PI} {o : Oper} (hx : L[p]? = some x) (ho : all[x.i]? = some o) {γ : Bm} {cv : Value} (hv : VR γ (valR (itemR self x (st p))) cv) (hle : ∀ i c, β i = some c → γ i = some c)
  (t : Tmp) (u : Value) (hu : TV self L all st (fun i => S i ∨ i = x.i) t u) : VR γ u ((a.put o.dst cv).tmps.getD t undef) := by
 have pl := h.run.plan
 have hdst := (h.run.dst h.names h.sound hx ho).2
 have eq : (a.put o.dst cv).tmps.getD t undef = if o.dst = some t then cv else a.tmps.getD t undef := by
  cases hd : o.dst with
  | none => simp [Act.put]
  | some d =>
   simp only [Act.put, Option.some.injEq]
   rw [getD_set _ _ _ _ (by rw [v.size]; exact hdst d hd)]
   by_cases e : t = d
   ·simp [e]
   ·rw [if_neg e, if_neg (fun x => e x.symm)]
 rw [eq]
 by_cases e : o.dst = some t
 ·rw [if_pos e]
  have hw : Writes L all t p x := ⟨hx, o, ho, e⟩
  rcases hu with ⟨q, y, h1, _, rfl⟩ | ⟨h1, _⟩
  ·obtain ⟨rfl, rfl⟩ := hw.uniq pl h1
   exact hv
  ·exact absurd (.inr rfl) (h1 p x hw)
 ·rw [if_neg e]
  refine (v.tmp t u ?_).mono hle
  rcases hu with ⟨q, y, h1, h2 | h2, rfl⟩ | ⟨h1, rfl⟩
  ·exact .inl ⟨q, y, h1, h2, rfl⟩
  ·obtain ⟨b1, oy, b2, b3⟩ := h1
   have : oy = o := by rw [h2, ho] at b2; exact (Option.some.inj b2).symm
   subst this
   exact absurd b3 e
  ·exact .inr ⟨fun q y hw hs => h1 q y hw (.inl hs), rfl⟩
theorem Inv.clo' (v : Inv P self sz all L st β0 w0 ds S a w β G c) {x : PI} {o : Oper} (ho : all[x.i]? = some o) (he : ∀ e ∈ o.after.toList, Region.binds .any e = true → S e.on) : Closed all (fun i => S i ∨ i = x.i) := by
 intro i o' ho' hi e hm hb
 rcases hi with hi | rfl
 ·exact .inl (v.clo i o' ho' hi e hm hb)
 ·rw [ho] at ho'; cases ho'
  exact .inl (he e hm hb)
theorem size_put (a : Act) (d : Option Tmp) (v : Value) : (a.put d v).tmps.size = a.tmps.size ∧ (a.put d v).defers = a.defers := by
 cases d <;> simp [Act.put]
theorem Inv.made (v : Inv P self sz all L st β0 w0 ds S a w β G c) (h : Hyp P self sz all L st β0) {q : Nat} {y : PI} (hm : Maker L st q y) (hq : q < c) : S y.i := by
 rcases v.cut with rfl | ⟨e, z, rfl, hz, hk⟩
 ·omega
 ·have hne : q ≠ e := fun x => by
   subst x
   obtain ⟨m1, m2, _⟩ := hm
   rw [hz] at m1; cases m1
   rw [hk] at m2; cases m2
  obtain ⟨u, f, _, _⟩ := h.run.eff hz hk
  have hA := h.run.makers e (Nat.le_of_lt (len_of hz)) q y hm.1 hm.2.1 hm.2.2 (by omega)
  obtain ⟨oz, hoz, _, _⟩ := h.run.plan.item e z hz
  have hSz : S z.i := (v.effs e z hz hk).2 (by omega)
  exact h.run.plan.hang e z oz S hz hoz v.clo (v.clo _ _ hoz hSz) _ (sub_tb f.depA hA)
theorem Inv.free (v : Inv P self sz all L st β0 w0 ds S a w β G c) (h : Hyp P self sz all L st β0) {p : Nat} {x : PI} {o : Oper} (hx : L[p]? = some x) (ho : all[x.i]? = some o) (hk : x.kd = .free) (hS : ¬ S x.i) (he : ∀ e ∈ o.after.toList, Region.binds .any e = true → S e.on)
  {ops : Array Oper} (hall : ops.toList = all) {ro : Option Nat} {Q : Exit → Act → World → Prop} {K : Act → World → Prop}
  (hK : ∀ a' w' β' G' c', Inv P self sz all L st β0 w0 ds (fun i => S i ∨ i = x.i) a' w' β' G' c' → K a' w') : wpOpIn (fen ro) 0 P ops Q x.i K a w := by
 obtain ⟨u, H1, f, _, hval⟩ := h.run.free hx hk
 obtain ⟨o', ho', _, hc⟩ := h.run.plan.item p x hx
 rw [ho] at ho'; cases ho'
 have hrun := f.run
 rw [hc] at hrun
 obtain ⟨⟨s1, s2⟩, _, _⟩ := stepI_sound h.names h.sound hrun
 have hfr := v.fresh p x hx hS
 refine s2 β w a ro K Q ops x.i hall (by rw [← Array.getElem?_toList, hall]; exact ho) (fun t ht => v.looked h hx ho hS he ht) (v.ext.wr.sub fun i o e => by rw [hget_nil] at e; cases e) hfr fun γ cv w' hv hE => hK _ _ γ (fun i => if (st p).n ≤ i ∧ i < (st (p + 1)).n then hget H1 i else G i) c ?_
 have hp := len_of hx
 have lenle : (st (p + 1)).n ≤ (st L.length).n := h.le hp (Nat.le_refl _)
 have zle : (st 0).n ≤ (st p).n := h.le (Nat.zero_le p) (Nat.le_of_lt hp)
 have hle := hE.le hfr
 have noG : ∀ i o, (st p).n ≤ i ∧ i < (st (p + 1)).n → G i = some o → False := fun i o hi hg => v.ext.wr.lay hg (hfr i hi.1 hi.2)
 have outN : ∀ i, ¬ ((st p).n ≤ i ∧ i < (st (p + 1)).n) → hget H1 i = none := fun i hi => s1.2 i (by omega) (by rw [hget_nil])
 have hb := hE.beside hfr v.ext.wr (fun i o e => by rw [hget_nil] at e; cases e) (K' := fun i => if (st p).n ≤ i ∧ i < (st (p + 1)).n then hget H1 i else G i) (fun i o e => by
  by_cases hi : (st p).n ≤ i ∧ i < (st (p + 1)).n
  ·simp only [if_pos hi] at e; exact .inl e
  ·simp only [if_neg hi] at e; exact .inr ⟨outN i hi, by rw [hget_nil], e⟩) (fun i e => by
  by_cases hi : (st p).n ≤ i ∧ i < (st (p + 1)).n
  ·exact (noG i _ hi e).elim
  ·simp only [if_neg hi]; exact e)
 have hnew : ∀ (i : Nat), (st p).n ≤ i ∧ i < (st (p + 1)).n → hget H1 i = hget (st (p + 1)).H i := fun i hi => by
  rcases f.heap with ⟨h1, _⟩ | ⟨h1, o', h2, h3⟩
  ·omega
  ·have : i = (st p).n := by omega
   subst this
   rw [h3, hget_hset, if_pos rfl, h2]
 have hSi : ∀ q y, L[q]? = some y → (S y.i ∨ y.i = x.i) → q ≠ p → S y.i := fun q y hy hs hne => by
  rcases hs with hs | hs
  ·exact hs
  ·exact absurd (h.run.plan.uniq q p y x hy hx hs) hne
 refine ⟨v.clo' ho he, v.cle, v.cut, fun q y hy hky => ?_, fun i o e => ?_, fun i o e => ?_, fun q y hq hm hs => ?_, v.tmp' h hx ho (by rw [hval]; exact hv) hle, (size_put a _ _).1.trans v.size, (size_put a _ _).2.trans v.dfr, v.ext.within hb (fun i hi => by omega) h.free0, fun q y hy hns => ?_⟩
 ·rw [← v.effs q y hy hky]
  refine ⟨fun hs => hSi q y hy hs fun e => ?_, .inl⟩
  subst e
  rw [hx] at hy; cases hy
  rw [hk] at hky; cases hky
 ·by_cases hi : (st p).n ≤ i ∧ i < (st (p + 1)).n
  ·exact (noG i o hi (v.inG i o e)).elim
  ·simp only [if_neg hi]; exact v.inG i o e
 ·by_cases hi : (st p).n ≤ i ∧ i < (st (p + 1)).n
  ·refine .inr ⟨?_, p, x, ?_, ?_⟩
   ·cases hg : hget (st c).H i with
    | none => rfl
    | some o' => exact (noG i o' hi (v.inG i o' hg)).elim
   ·have hm : Maker L st p x := ⟨hx, hk, by rcases f.heap with ⟨h1, _⟩ | ⟨h1, _⟩ <;> omega⟩
    rcases Nat.lt_or_ge p c with hl | hl
    ·exact absurd (v.made h hm hl) hS
    ·exact hl
   ·rcases f.heap with ⟨h1, _⟩ | ⟨h1, _⟩
    ·omega
    ·exact ⟨⟨hx, hk, h1⟩, .inr rfl, by omega⟩
  ·simp only [if_neg hi] at e
   rcases v.outG i o e with h1 | ⟨h1, q, y, h2, h3, h4, h5⟩
   ·exact .inl h1
   ·exact .inr ⟨h1, q, y, h2, h3, .inl h4, h5⟩
 ·by_cases hqp : q = p
  ·subst hqp
   have := hm.2.2
   rw [if_pos (by omega)]
   exact hnew _ (by omega)
  ·have := h.apart hx hm.1 hqp (i := (st q).n) (Nat.le_refl _) (by have := hm.2.2; omega)
   rw [if_neg (by omega)]
   exact v.newG q y hq hm (hSi q y hm.1 hs hqp)
 ·have hqp : q ≠ p := fun e => hns (by subst e; rw [hx] at hy; cases hy; exact .inr rfl)
  intro i h1 h2
  rw [hE.same i (h.apart hx hy hqp h1 h2)]
  exact v.fresh q y hy (fun hs => hns (.inl hs)) i h1 h2
theorem Inv.load (v : Inv P self sz all L st β0 w0 ds S a w β G c) (h : Hyp P self sz all L st β0) {p : Nat} {x : PI} {o : Oper} (hx : L[p]? = some x) (ho : all[x.i]? = some o) (hk : x.kd = .load) (hS : ¬ S x.i) (he : ∀ e ∈ o.after.toList, Region.binds .any e = true → S e.on)
  {ops : Array Oper} (hall : ops.toList = all) {ro : Option Nat} {Q : Exit → Act → World → Prop} {K : Act → World → Prop}
  (hK : ∀ a' w' β' G' c', Inv P self sz all L st β0 w0 ds (fun i => S i ∨ i = x.i) a' w' β' G' c' → K a' w') : wpOpIn (fen ro) 0 P ops Q x.i K a w := by
 obtain ⟨u, f, _, hval⟩ := h.run.load hx hk
 obtain ⟨o', ho', hkd, hc⟩ := h.run.plan.item p x hx
 rw [ho] at ho'; cases ho'
 have hp := len_of hx
 have ahead : ∀ q y, L[q]? = some y → y.kd = .eff → q < p → q < c := fun q y hy hky hq => by
  have := h.run.effs p (Nat.le_of_lt hp) q y hy hky hq
  exact (v.effs q y hy hky).1 (h.run.plan.hang p x o S hx ho v.clo he _ (sub_tb f.dep this))
 have now : ∃ m H1 n1, stepI self (st p).T (st c).H m x.c = .ok u H1 n1 := by
  rcases Nat.lt_or_ge p c with hl | hl
  ·rcases v.cut with rfl | ⟨e, z, rfl, hz, hkz⟩
   ·omega
   ·have hne : p ≠ e := fun y => by
     subst y
     rw [hz] at hx; cases hx
     rw [hkz] at hk; cases hk
    obtain ⟨uz, fz, _, _⟩ := h.run.eff hz hkz
    have hw := h.run.loads e (Nat.le_of_lt (len_of hz)) p x hx hk (by omega)
    have hw := wtsOk_mem fz.wts hw
    unfold wtOk at hw
    obtain ⟨oz, hoz, _, _⟩ := h.run.plan.item e z hz
    have hSz : S z.i := (v.effs e z hz hkz).2 (by omega)
    cases hb : tb z.D x.i with
    | true => exact absurd (h.run.plan.hang e z oz S hz hoz v.clo (v.clo _ _ hoz hSz) _ hb) hS
    | false =>
     simp only [hb, cond_false] at hw
     split at hw
     ·rename_i v' H' n' hs
      refine ⟨(st (e + 1)).n, H', n', ?_⟩
      rw [hs, ← veq_eq hw, hval]
     ·cases hw
  ·have calm : Calm L c p := fun q y h1 h2 hy hky => by have := ahead q y hy hky h2; omega
   have := h.run.behind v.cut p hl (Nat.le_of_lt hp) calm
   obtain ⟨H1, n1, hr⟩ := f.run
   rw [this] at hr
   exact ⟨_, H1, n1, hr⟩
 obtain ⟨m, H1, n1, hrun⟩ := now
 rw [hc] at hrun
 obtain ⟨e1, e2⟩ := load_keep (by rw [← hkd]; exact hk) hrun
 subst e1; subst e2
 obtain ⟨⟨s1, s2⟩, _, _⟩ := stepI_sound h.names h.sound hrun
 have hfr : Fresh β n1 n1 := fun i a b => by omega
 refine s2 β w a ro K Q ops x.i hall (by rw [← Array.getElem?_toList, hall]; exact ho) (fun t ht => v.looked h hx ho hS he ht) (v.ext.wr.sub v.inG) hfr fun γ cv w' hv hE => hK _ _ γ G c ?_
 have hle := hE.le hfr
 have hb := hE.beside hfr v.ext.wr v.inG (K' := G) (fun i o e => by
  cases hg : hget (st c).H i with
  | some o' => have := v.inG i o' hg; rw [e] at this; cases this; exact .inl rfl
  | none => exact .inr ⟨rfl, rfl, e⟩) (fun i e => e)
 have hSi : ∀ (q : Nat) (y : PI), L[q]? = some y → (S y.i ∨ y.i = x.i) → y.kd ≠ .load → S y.i := fun q y hy hs hne => by
  rcases hs with hs | hs
  ·exact hs
  ·have := h.run.plan.uniq q p y x hy hx hs
   subst this
   rw [hx] at hy; cases hy
   exact absurd hk hne
 refine ⟨v.clo' ho he, v.cle, v.cut, fun q y hy hky => ?_, v.inG, fun i o e => ?_, fun q y hq hm hs => ?_, v.tmp' h hx ho (by rw [hval]; exact hv) hle, (size_put a _ _).1.trans v.size, (size_put a _ _).2.trans v.dfr, v.ext.within hb (fun i hi => by omega) h.free0, fun q y hy hns => ?_⟩
 ·rw [← v.effs q y hy hky]
  exact ⟨fun hs => hSi q y hy hs (by rw [hky]; simp), .inl⟩
 ·rcases v.outG i o e with h1 | ⟨h1, q, y, h2, h3, h4, h5⟩
  ·exact .inl h1
  ·exact .inr ⟨h1, q, y, h2, h3, .inl h4, h5⟩
 ·exact v.newG q y hq hm (hSi q y hm.1 hs (by rw [hm.2.1]; simp))
 ·intro i h1 h2
  rw [hE.same i (by omega)]
  exact v.fresh q y hy (fun hs => hns (.inl hs)) i h1 h2
theorem Inv.eff (v : Inv P self sz all L st β0 w0 ds S a w β G c) (h : Hyp P self sz all L st β0) {p : Nat} {x : PI} {o : Oper} (hx : L[p]? = some x) (ho : all[x.i]? = some o) (hk : x.kd = .eff) (hS : ¬ S x.i) (he : ∀ e ∈ o.after.toList, Region.binds .any e = true → S e.on)
  {ops : Array Oper} (hall : ops.toList = all) {ro : Option Nat} {Q : Exit → Act → World → Prop} {K : Act → World → Prop}
  (hK : ∀ a' w' β' G' c', Inv P self sz all L st β0 w0 ds (fun i => S i ∨ i = x.i) a' w' β' G' c' → K a' w') : wpOpIn (fen ro) 0 P ops Q x.i K a w := by
 obtain ⟨u, f, _, hval⟩ := h.run.eff hx hk
 obtain ⟨o', ho', hkd, hc⟩ := h.run.plan.item p x hx
 rw [ho] at ho'; cases ho'
 have hp := len_of hx
 have hpc : c ≤ p := by
  rcases Nat.lt_or_ge p c with hl | hl
  ·exact absurd ((v.effs p x hx hk).2 hl) hS
  ·exact hl
 have ahead : ∀ q y, L[q]? = some y → y.kd = .eff → q < p → S y.i := fun q y hy hky hq =>
  h.run.plan.hang p x o S hx ho v.clo he _ (sub_tb f.dep (h.run.effs p (Nat.le_of_lt hp) q y hy hky hq))
 have calm : Calm L c p := fun q y h1 h2 hy hky => by have := (v.effs q y hy hky).1 (ahead q y hy hky h2); omega
 have made : ∀ q y, Maker L st q y → q < p → S y.i := fun q y hm hq =>
  h.run.plan.hang p x o S hx ho v.clo he _ (sub_tb f.depA (h.run.makers p (Nat.le_of_lt hp) q y hm.1 hm.2.1 hm.2.2 hq))
 have subH : ∀ i o, hget (st p).H i = some o → G i = some o := fun i o e => by
  rcases h.run.grown p hpc (Nat.le_of_lt hp) calm i o e with h1 | ⟨q, y, h1, h2, h3, h4, h5, rfl, h7⟩
  ·exact v.inG i o h1
  ·rw [v.newG q y h1 ⟨h3, h4, h5⟩ (made q y ⟨h3, h4, h5⟩ h2)]; exact h7
 have grow : ∀ i o, hget (st c).H i = some o → hget (st p).H i = some o := h.run.grow h.names h.sound h.none0 p hpc (Nat.le_of_lt hp) calm
 have hrun := f.run
 rw [hc] at hrun
 obtain ⟨⟨s1, s2⟩, _, _⟩ := stepI_sound h.names h.sound hrun
 have hfr := v.fresh p x hx hS
 refine s2 β w a ro K Q ops x.i hall (by rw [← Array.getElem?_toList, hall]; exact ho) (fun t ht => v.looked h hx ho hS he ht) (v.ext.wr.sub subH) hfr fun γ cv w' hv hE => hK _ _ γ (fun i => match hget (st (p + 1)).H i with | some o => some o | none => match hget (st p).H i with | some _ => none | none => G i) (p + 1) ?_
 have lenle : (st (p + 1)).n ≤ (st L.length).n := h.le hp (Nat.le_refl _)
 have zle : (st 0).n ≤ (st p).n := h.le (Nat.zero_le p) (Nat.le_of_lt hp)
 have hle := hE.le hfr
 have hb := hE.beside hfr v.ext.wr subH (K' := fun i => match hget (st (p + 1)).H i with | some o => some o | none => match hget (st p).H i with | some _ => none | none => G i) (fun i o e => by
  cases h1 : hget (st (p + 1)).H i with
  | some o' => simp only [h1] at e; exact .inl e
  | none =>
   cases h2 : hget (st p).H i with
   | some o' => simp only [h1, h2] at e; cases e
   | none => simp only [h1, h2] at e; exact .inr ⟨rfl, rfl, e⟩) (fun i e => by
  cases h2 : hget (st p).H i with
  | some o' =>
   have := subH i o' h2
   rw [e] at this; cases this
   rw [hE.keep i h2]
  | none =>
   cases h1 : hget (st (p + 1)).H i with
   | none => exact e
   | some o' =>
    by_cases hi : (st p).n ≤ i ∧ i < (st (p + 1)).n
    ·exact absurd (hfr i hi.1 hi.2) (v.ext.wr.lay e)
    ·rw [s1.2 i (by omega) h2] at h1; cases h1)
 have hSi : ∀ q y, L[q]? = some y → (S y.i ∨ y.i = x.i) → q ≠ p → S y.i := fun q y hy hs hne => by
  rcases hs with hs | hs
  ·exact hs
  ·exact absurd (h.run.plan.uniq q p y x hy hx hs) hne
 refine ⟨v.clo' ho he, hp, .inr ⟨p, x, rfl, hx, hk⟩, fun q y hy hky => ⟨fun hs => ?_, fun hq => ?_⟩, fun i o e => ?_, fun i o e => ?_, fun q y hq hm hs => ?_, v.tmp' h hx ho (by rw [hval]; exact hv) hle, (size_put a _ _).1.trans v.size, (size_put a _ _).2.trans v.dfr, v.ext.within hb (fun i hi => by omega) h.free0, fun q y hy hns => ?_⟩
 ·by_cases e : q = p
  ·omega
  ·have := (v.effs q y hy hky).1 (hSi q y hy hs e); omega
 ·by_cases e : q = p
  ·subst e; rw [hx] at hy; cases hy; exact .inr rfl
  ·exact .inl (ahead q y hy hky (by omega))
 ·simp only [e]
 ·cases h1 : hget (st (p + 1)).H i with
  | some o' => simp only [h1] at e; exact .inl e
  | none =>
   cases h2 : hget (st p).H i with
   | some o' => simp only [h1, h2] at e; cases e
   | none =>
    simp only [h1, h2] at e
    refine .inr ⟨rfl, ?_⟩
    rcases v.outG i o e with g1 | ⟨g1, q, y, g2, g3, g4, g5⟩
    ·rw [grow i o g1] at h2; cases h2
    ·refine ⟨q, y, ?_, g3, .inl g4, g5⟩
     rcases Nat.lt_trichotomy q p with hl | hl | hl
     ·have e' := v.newG q y g2 g3 g4
      rw [← g5, e] at e'
      have cq : Calm L (q + 1) p := fun r z r1 r2 => calm r z (by omega) r2
      have := h.run.grow h.names h.sound h.none0 p (show q + 1 ≤ p from hl) (Nat.le_of_lt hp) cq i o e'.symm
      rw [h2] at this; cases this
     ·subst hl
      obtain ⟨m1, m2, _⟩ := g3
      rw [hx] at m1; cases m1
      rw [hk] at m2; cases m2
     ·omega
 ·have hql := len_of hm.1
  have hqp : q ≠ p := by omega
  have l1 := h.le (show p + 1 ≤ q by omega) (Nat.le_of_lt hql)
  have l2 := h.le (show q + 1 ≤ L.length by omega) (Nat.le_refl _)
  have l3 := hm.2.2
  have z1 : hget (st (p + 1)).H (st q).n = none := h.none hp l1 (by omega)
  have z2 : hget (st p).H (st q).n = none := h.none (Nat.le_of_lt hp) (by have := s1.1; omega) (by omega)
  simp only [z1, z2]
  exact v.newG q y (by omega) hm (hSi q y hm.1 hs hqp)
 ·have hqp : q ≠ p := fun e => hns (by subst e; rw [hx] at hy; cases hy; exact .inr rfl)
  intro i h1 h2
  rw [hE.same i (h.apart hx hy hqp h1 h2)]
  exact v.fresh q y hy (fun hs => hns (.inl hs)) i h1 h2
end
end
end
end Go.Xec
