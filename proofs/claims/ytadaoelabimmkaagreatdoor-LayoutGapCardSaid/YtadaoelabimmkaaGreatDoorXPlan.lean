/-
  THE EXECUTOR: the plan of a region that draws its order: masks, what hangs on what, the order, the temporaries.
-/
import Derived.Test.YtadaoelabimmkaaGreatDoorXCode
namespace Go.Xec
open Go

/- ## Masks -/
theorem tb_eq (m i : Nat) : tb m i = m.testBit i := by
  rw [Nat.testBit_eq_decide_div_mod_eq]
  unfold tb
  rw [show Nat.shiftRight m i = m / 2 ^ i from Nat.shiftRight_eq_div_pow m i]
  by_cases h : m / 2 ^ i % 2 = 1
  · rw [show Nat.mod (m / 2 ^ i) 2 = m / 2 ^ i % 2 from rfl, h]; rfl
  · rw [show Nat.mod (m / 2 ^ i) 2 = m / 2 ^ i % 2 from rfl, beq_false_of h]; simp [h]
theorem tb_bit (i j : Nat) : tb (bit i) j = decide (i = j) := by
  rw [tb_eq, bit, show Nat.shiftLeft 1 i = 2 ^ i from Nat.one_shiftLeft i, Nat.testBit_two_pow]
theorem tb_or (a b i : Nat) : tb (Nat.lor a b) i = (tb a i || tb b i) := by
  rw [tb_eq, tb_eq, tb_eq]; exact Nat.testBit_or a b i
theorem tb_zero (i : Nat) : tb 0 i = false := by rw [tb_eq]; simp
theorem sub_tb {a b i : Nat} (h : sub a b = true) (hi : tb a i = true) : tb b i = true := by
  have e : Nat.land a b = a := beq_eq h
  rw [tb_eq] at hi ⊢
  have : (a &&& b).testBit i = (a.testBit i && b.testBit i) := Nat.testBit_and a b i
  rw [show a &&& b = a from e, hi] at this
  simpa using this.symm
theorem tb_full {d m i : Nat} (h : Nat.beq d (Nat.sub (bit m) 1) = true) : tb d i = decide (i < m) := by
  rw [tb_eq, beq_eq h, bit, show Nat.shiftLeft 1 m = 2 ^ m from Nat.one_shiftLeft m]
  exact Nat.testBit_two_pow_sub_one m i
theorem lnat_nil (i : Nat) : lnat [] i = 0 := rfl
theorem lnat_eq : ∀ (l : List Nat) (i : Nat), lnat l i = (l[i]?).getD 0
  | [], i => by simp [lnat_nil]
  | x :: l, 0 => rfl
  | x :: l, i + 1 => by
    rw [List.getElem?_cons_succ]
    exact lnat_eq l i

/- ## What hangs on what -/
def Closed (all : List Oper) (S : Nat → Prop) : Prop := ∀ i o, all[i]? = some o → S i → ∀ e ∈ o.after.toList, Region.binds .any e = true → S e.on
theorem edgeMask_cons (acc : List Nat) (e : Edge) (es : List Edge) : edgeMask acc (e :: es) = cond (Region.binds .any e) (Nat.lor (Nat.lor (bit e.on) (lnat acc e.on)) (edgeMask acc es)) (edgeMask acc es) := rfl
theorem edgeMask_tb (acc : List Nat) : ∀ (es : List Edge) (j : Nat), tb (edgeMask acc es) j = true → ∃ e ∈ es, Region.binds .any e = true ∧ (j = e.on ∨ tb (lnat acc e.on) j = true)
  | [], j, h => by rw [show edgeMask acc [] = 0 from rfl, tb_zero] at h; cases h
  | e :: es, j, h => by
    rw [edgeMask_cons] at h
    cases hb : Region.binds .any e with
    | false =>
      rw [hb, cond_false] at h
      obtain ⟨e', h1, h2⟩ := edgeMask_tb acc es j h
      exact ⟨e', by simp [h1], h2⟩
    | true =>
      rw [hb, cond_true, tb_or, tb_or, tb_bit] at h
      simp only [Bool.or_eq_true, decide_eq_true_eq] at h
      rcases h with (h | h) | h
      · exact ⟨e, by simp, hb, .inl h.symm⟩
      · exact ⟨e, by simp, hb, .inr h⟩
      · obtain ⟨e', h1, h2⟩ := edgeMask_tb acc es j h
        exact ⟨e', by simp [h1], h2⟩
def GoodD (all : List Oper) (acc : List Nat) : Prop := ∀ (i : Nat) (o : Oper), i < acc.length → all[i]? = some o → ∀ S : Nat → Prop, Closed all S → (∀ e ∈ o.after.toList, Region.binds .any e = true → S e.on) → ∀ j, tb (lnat acc i) j = true → S j
theorem depsL_cons (o : Oper) (ops : List Oper) (acc : List Nat) : depsL (o :: ops) acc = depsL ops (acc ++ [edgeMask acc o.after.toList]) := rfl
theorem depsL_good (all : List Oper) : ∀ (ops pre : List Oper) (acc : List Nat), all = pre ++ ops → acc.length = pre.length → GoodD all acc → GoodD all (depsL ops acc) ∧ (depsL ops acc).length = all.length
  | [], pre, acc, h1, h2, h3 => ⟨h3, by rw [show depsL [] acc = acc from rfl, h2, h1]; simp⟩
  | o :: ops, pre, acc, h1, h2, h3 => by
    rw [depsL_cons]
    refine depsL_good all ops (pre ++ [o]) _ (by rw [h1]; simp) (by simp [h2]) fun i o' hi ho S hS he j hj => ?_
    rw [lnat_eq] at hj
    by_cases hlt : i < acc.length
    · rw [List.getElem?_append_left hlt, ← lnat_eq] at hj
      exact h3 i o' hlt ho S hS he j hj
    · have hi' : i = acc.length := by simp at hi; omega
      subst hi'
      rw [List.getElem?_append_right (Nat.le_refl _)] at hj
      simp at hj
      have ho' : o' = o := by
        rw [h1, h2, List.getElem?_append_right (Nat.le_refl _)] at ho
        simpa using ho.symm
      subst ho'
      obtain ⟨e, e1, e2, e3⟩ := edgeMask_tb acc _ j hj
      rcases e3 with rfl | e3
      · exact he e e1 e2
      · have hl : e.on < acc.length := by
          rcases Nat.lt_or_ge e.on acc.length with h | h
          · exact h
          · rw [lnat_eq, List.getElem?_eq_none h] at e3; rw [show (none : Option Nat).getD 0 = 0 from rfl, tb_zero] at e3; cases e3
        have hin : e.on < all.length := by rw [h1]; simp; omega
        exact h3 e.on all[e.on] hl (List.getElem?_eq_getElem hin) S hS (hS e.on _ (List.getElem?_eq_getElem hin) (he e e1 e2)) j e3
theorem edgeMask_has (acc : List Nat) : ∀ (es : List Edge) (e : Edge), e ∈ es → Region.binds .any e = true → tb (edgeMask acc es) e.on = true
  | x :: es, e, h, hb => by
    rw [edgeMask_cons]
    rcases List.mem_cons.1 h with rfl | h
    · rw [hb, cond_true, tb_or, tb_or, tb_bit]; simp
    · have ih := edgeMask_has acc es e h hb
      cases hx : Region.binds .any x with
      | false => rw [cond_false]; exact ih
      | true => rw [cond_true, tb_or, ih]; simp
def EdgeD (all : List Oper) (acc : List Nat) : Prop := ∀ (i : Nat) (o : Oper), i < acc.length → all[i]? = some o → ∀ e ∈ o.after.toList, Region.binds .any e = true → tb (lnat acc i) e.on = true
theorem depsL_edges (all : List Oper) : ∀ (ops pre : List Oper) (acc : List Nat), all = pre ++ ops → acc.length = pre.length → EdgeD all acc → EdgeD all (depsL ops acc)
  | [], pre, acc, h1, h2, h3 => h3
  | o :: ops, pre, acc, h1, h2, h3 => by
    rw [depsL_cons]
    refine depsL_edges all ops (pre ++ [o]) _ (by rw [h1]; simp) (by simp [h2]) fun i o' hi ho e he hb => ?_
    rw [lnat_eq]
    by_cases hlt : i < acc.length
    · rw [List.getElem?_append_left hlt, ← lnat_eq]
      exact h3 i o' hlt ho e he hb
    · have hi' : i = acc.length := by simp at hi; omega
      subst hi'
      rw [List.getElem?_append_right (Nat.le_refl _)]
      have ho' : o' = o := by
        rw [h1, h2, List.getElem?_append_right (Nat.le_refl _)] at ho
        simpa using ho.symm
      subst ho'
      simpa using edgeMask_has acc _ e he hb
theorem edges_sound (all : List Oper) : EdgeD all (depsL all []) := depsL_edges all all [] [] rfl rfl (fun i o h => by cases h)
theorem deps_sound (all : List Oper) : GoodD all (depsL all []) ∧ (depsL all []).length = all.length :=
  depsL_good all all [] [] rfl rfl (fun i o h => by cases h)

/- ## The order -/
theorem orderOk_cons (D : List Nat) (m i : Nat) (ord : List Nat) (done : Nat) : orderOk D m (i :: ord) done =
    cond (cond (Nat.ble (i + 1) m) (cond (tb done i) false (sub (lnat D i) done)) false) (orderOk D m ord (Nat.lor done (bit i))) false := rfl
theorem orderOk_spec (D : List Nat) (m : Nat) : ∀ (ord pre : List Nat) (done : Nat), (∀ j, tb done j = true ↔ j ∈ pre) → pre.Nodup → (∀ j ∈ pre, j < m) → orderOk D m ord done = true →
    (pre ++ ord).Nodup ∧ (∀ j, j ∈ pre ++ ord ↔ j < m) ∧ ∀ (l r : List Nat) (i : Nat), ord = l ++ i :: r → ∀ j, tb (lnat D i) j = true → j ∈ pre ++ l
  | [], pre, done, h1, h2, h3, h => by
    have h : Nat.beq done (Nat.sub (bit m) 1) = true := h
    refine ⟨by simpa using h2, fun j => ?_, fun l r i e => by simp at e⟩
    rw [List.append_nil, ← h1, tb_full h]; simp
  | i :: ord, pre, done, h1, h2, h3, h => by
    rw [orderOk_cons] at h
    obtain ⟨a1, a2⟩ := cond_and h
    obtain ⟨a3, a4⟩ := cond_and a1
    have a5 : tb done i = false := by
      cases hb : tb done i with
      | false => rfl
      | true => rw [hb] at a4; cases a4
    rw [a5, cond_false] at a4
    have hni : i ∉ pre := fun hm => by rw [(h1 i).2 hm] at a5; cases a5
    obtain ⟨b1, b2, b3⟩ := orderOk_spec D m ord (pre ++ [i]) (Nat.lor done (bit i)) (fun j => by
      rw [tb_or, tb_bit]; simp only [Bool.or_eq_true, decide_eq_true_eq, List.mem_append, List.mem_singleton, h1]
      constructor
      · rintro (h | h)
        · exact .inl h
        · exact .inr h.symm
      · rintro (h | h)
        · exact .inl h
        · exact .inr h.symm) (by
      rw [List.nodup_append]
      exact ⟨h2, by simp, fun a ha b hb e => by simp at hb; subst hb; subst e; exact hni ha⟩) (fun j hj => by
      rcases List.mem_append.1 hj with h | h
      · exact h3 j h
      · simp at h; subst h; exact ble_le a3) a2
    refine ⟨by simpa using b1, fun j => by simpa using b2 j, fun l r k e j hj => ?_⟩
    cases l with
    | nil =>
      simp at e
      obtain ⟨rfl, rfl⟩ := e
      rw [List.append_nil]
      exact (h1 j).1 (sub_tb a4 hj)
    | cons x l =>
      simp at e
      obtain ⟨rfl, e⟩ := e
      have := b3 l r k e j hj
      simpa using this
theorem order_sound {D : List Nat} {m : Nat} {ord : List Nat} (h : orderOk D m ord 0 = true) : ord.Nodup ∧ (∀ j, j ∈ ord ↔ j < m) ∧ ∀ (l r : List Nat) (i : Nat), ord = l ++ i :: r → ∀ j, tb (lnat D i) j = true → j ∈ l := by
  have := orderOk_spec D m ord [] 0 (fun j => by rw [tb_zero]; simp) List.nodup_nil (fun j h => by cases h) h
  simpa using this

/- ## The temporaries -/
theorem inL_ok {t : Nat} : ∀ {l : List Nat}, t ∈ l → inL t l = true
  | x :: l, h => by
    have e : inL t (x :: l) = cond (Nat.beq x t) true (inL t l) := rfl
    rw [e]
    rcases List.mem_cons.1 h with rfl | h
    · rw [beq_true_of rfl]; rfl
    · rw [inL_ok h]; cases Nat.beq x t <;> rfl
theorem rowOk_cons (D : List Nat) (i : Nat) (di : Option Tmp) (li : List Tmp) (o : Oper) (ops : List Oper) (j : Nat) : rowOk D i di li (o :: ops) j = cond (pairOk D i j di o.dst li) (rowOk D i di li ops (j + 1)) false := rfl
theorem rowOk_spec (D : List Nat) (i : Nat) (di : Option Tmp) (li : List Tmp) : ∀ (ops : List Oper) (j : Nat), rowOk D i di li ops j = true → ∀ k o, ops[k]? = some o → pairOk D i (j + k) di o.dst li = true
  | [], j, h, k, o, ho => by simp at ho
  | x :: ops, j, h, k, o, ho => by
    rw [rowOk_cons] at h
    obtain ⟨h1, h2⟩ := cond_and h
    cases k with
    | zero => simp at ho; subst ho; exact h1
    | succ k =>
      have := rowOk_spec D i di li ops (j + 1) h2 k o (by simpa using ho)
      rw [show j + (k + 1) = j + 1 + k from by omega]; exact this
theorem pairsOk_cons (D : List Nat) (all : List Oper) (o : Oper) (ops : List Oper) (i : Nat) : pairsOk D all (o :: ops) i = cond (rowOk D i o.dst (looks all o) all 0) (pairsOk D all ops (i + 1)) false := rfl
theorem pairsOk_spec (D : List Nat) (all : List Oper) : ∀ (ops : List Oper) (i : Nat), pairsOk D all ops i = true → ∀ k o, ops[k]? = some o → rowOk D (i + k) o.dst (looks all o) all 0 = true
  | [], i, h, k, o, ho => by simp at ho
  | x :: ops, i, h, k, o, ho => by
    rw [pairsOk_cons] at h
    obtain ⟨h1, h2⟩ := cond_and h
    cases k with
    | zero => simp at ho; subst ho; exact h1
    | succ k =>
      have := pairsOk_spec D all ops (i + 1) h2 k o (by simpa using ho)
      rw [show i + (k + 1) = i + 1 + k from by omega]; exact this
theorem pairs_sound {D : List Nat} {all : List Oper} (h : pairsOk D all all 0 = true) {i j : Nat} {oi oj : Oper} (hi : all[i]? = some oi) (hj : all[j]? = some oj) (hne : i ≠ j) {t : Tmp} (ht : oj.dst = some t) :
    oi.dst ≠ some t ∧ (t ∈ looks all oi → tb (lnat D i) j = true ∨ tb (lnat D j) i = true) := by
  have h1 := pairsOk_spec D all all 0 h i oi hi
  have h2 := rowOk_spec D _ _ _ all 0 h1 j oj hj
  simp only [Nat.zero_add] at h2
  unfold pairOk at h2
  rw [beq_false_of hne, cond_false] at h2
  obtain ⟨h3, h4⟩ := cond_and h2
  rw [ht] at h3 h4
  refine ⟨fun e => ?_, fun hm => ?_⟩
  · rw [e] at h3; simp [dstNe] at h3
  · simp only [inL_ok hm, cond_true] at h4
    cases hb : tb (lnat D i) j with
    | true => exact .inl rfl
    | false => rw [hb, cond_false] at h4; exact .inr h4
theorem itemsL_cons (P : Program) (sz : Nat) (all : List Oper) (D : List Nat) (i : Nat) (ord : List Nat) : itemsL P sz all D (i :: ord) = (match lget all i with | some o => ⟨i, lnat D i, kdOf P o.op, compI P sz all o⟩ :: itemsL P sz all D ord | none => itemsL P sz all D ord) := rfl
theorem itemsL_spec (P : Program) (sz : Nat) (all : List Oper) (D : List Nat) : ∀ (ord : List Nat), (∀ j ∈ ord, j < all.length) → (itemsL P sz all D ord).map (·.i) = ord ∧ ∀ x ∈ itemsL P sz all D ord, ∃ o, all[x.i]? = some o ∧ x.D = lnat D x.i ∧ x.kd = kdOf P o.op ∧ x.c = compI P sz all o
  | [], _ => ⟨rfl, fun x hx => by cases hx⟩
  | i :: ord, h => by
    obtain ⟨h1, h2⟩ := itemsL_spec P sz all D ord fun j hj => h j (by simp [hj])
    have hi : i < all.length := h i (by simp)
    rw [itemsL_cons, lget_eq, List.getElem?_eq_getElem hi]
    refine ⟨by simp [h1], fun x hx => ?_⟩
    rcases List.mem_cons.1 hx with rfl | hx
    · exact ⟨all[i], List.getElem?_eq_getElem hi, rfl, rfl, rfl⟩
    · exact h2 x hx

/-- A plan that was let by. -/
structure Plan (P : Program) (sz : Nat) (all : List Oper) (L : List PI) : Prop where
  item : ∀ (p : Nat) (x : PI), L[p]? = some x → ∃ o, all[x.i]? = some o ∧ x.kd = kdOf P o.op ∧ x.c = compI P sz all o
  uniq : ∀ (p q : Nat) (x y : PI), L[p]? = some x → L[q]? = some y → x.i = y.i → p = q
  full : ∀ (i : Nat) (o : Oper), all[i]? = some o → ∃ (p : Nat) (x : PI), L[p]? = some x ∧ x.i = i
  ahead : ∀ (p : Nat) (x : PI) (j : Nat), L[p]? = some x → tb x.D j = true → ∃ (q : Nat) (y : PI), q < p ∧ L[q]? = some y ∧ y.i = j
  hang : ∀ (p : Nat) (x : PI) (o : Oper) (S : Nat → Prop), L[p]? = some x → all[x.i]? = some o → Closed all S → (∀ e ∈ o.after.toList, Region.binds .any e = true → S e.on) → ∀ j, tb x.D j = true → S j
  edge : ∀ (p : Nat) (x : PI) (o : Oper) (e : Edge), L[p]? = some x → all[x.i]? = some o → e ∈ o.after.toList → Region.binds .any e = true → tb x.D e.on = true
  dsts : ∀ (p q : Nat) (x y : PI) (ox oy : Oper) (t : Tmp), L[p]? = some x → L[q]? = some y → all[x.i]? = some ox → all[y.i]? = some oy → p ≠ q → oy.dst = some t → ox.dst ≠ some t
  looked : ∀ (p q : Nat) (x y : PI) (ox oy : Oper) (t : Tmp), L[p]? = some x → L[q]? = some y → all[x.i]? = some ox → all[y.i]? = some oy → p ≠ q → oy.dst = some t → t ∈ looks all ox → tb x.D y.i = true ∨ tb y.D x.i = true
theorem plan_sound {P : Program} {sz : Nat} {all : List Oper} {L : List PI} (h : planOf P sz all = some L) : Plan P sz all L := by
  unfold planOf at h
  simp only at h
  generalize orderL (depsL all []) (maskOf (isEff P) all 0) (loadMask P (depsL all []) all 0) all.length ((List.range all.length).filter (tb (maskOf (isEff P) all 0))) 0 0 = ord at h
  unfold planWith at h
  cases hc : cond (orderOk (depsL all []) all.length ord 0) (pairsOk (depsL all []) all all 0) false with
  | false => rw [hc] at h; cases h
  | true =>
    rw [hc, cond_true] at h
    cases h
    obtain ⟨c1, c2⟩ := cond_and hc
    obtain ⟨o1, o2, o3⟩ := order_sound c1
    obtain ⟨i1, i2⟩ := itemsL_spec P sz all (depsL all []) ord fun j hj => (o2 j).1 hj
    obtain ⟨d1, d2⟩ := deps_sound all
    generalize hL : itemsL P sz all (depsL all []) ord = L at *
    have idx : ∀ (p : Nat) (x : PI), L[p]? = some x → ord[p]? = some x.i := fun p x hx => by rw [← i1]; simp [hx]
    have mem : ∀ (p : Nat) (x : PI), L[p]? = some x → x ∈ L := fun p x hx => List.mem_of_getElem? hx
    have len : L.length = ord.length := by rw [← i1]; simp
    refine ⟨fun p x hx => ?_, fun p q x y hx hy e => ?_, fun i o ho => ?_, fun p x j hx hj => ?_, fun p x o S hx ho hS he j hj => ?_, fun p x o e hx ho he hb => ?_, fun p q x y ox oy t hx hy hox hoy hne ht => ?_, fun p q x y ox oy t hx hy hox hoy hne ht hm => ?_⟩
    · obtain ⟨o, a1, a2, a3, a4⟩ := i2 x (mem p x hx); exact ⟨o, a1, a3, a4⟩
    · have hp := idx p x hx
      have hq := idx q y hy
      rw [← e] at hq
      have hpl := (List.getElem?_eq_some_iff.1 hp).1
      exact (List.getElem?_inj hpl o1).1 (hp.trans hq.symm)
    · have : i ∈ ord := (o2 i).2 (List.getElem?_eq_some_iff.1 ho).1
      obtain ⟨p, hp⟩ := List.getElem?_of_mem this
      have hpl : p < L.length := by rw [len]; exact (List.getElem?_eq_some_iff.1 hp).1
      refine ⟨p, L[p], List.getElem?_eq_getElem hpl, ?_⟩
      have := idx p _ (List.getElem?_eq_getElem hpl)
      rw [hp] at this; exact (Option.some.inj this).symm
    · obtain ⟨o, a1, a2, a3, a4⟩ := i2 x (mem p x hx)
      rw [a2] at hj
      have hp := idx p x hx
      have hpl := (List.getElem?_eq_some_iff.1 hp).1
      have hsplit : ord = ord.take p ++ x.i :: ord.drop (p + 1) := by
        have e1 : ord[p] = x.i := by rw [List.getElem?_eq_getElem hpl] at hp; exact Option.some.inj hp
        rw [← e1]; simp
      have := o3 _ _ _ hsplit j hj
      obtain ⟨q, hq⟩ := List.getElem?_of_mem this
      have hql := (List.getElem?_eq_some_iff.1 hq).1
      simp at hql
      rw [List.getElem?_take_of_lt (by omega)] at hq
      have hqL : q < L.length := by rw [len]; omega
      refine ⟨q, L[q], by omega, List.getElem?_eq_getElem hqL, ?_⟩
      have := idx q _ (List.getElem?_eq_getElem hqL)
      rw [hq] at this; exact (Option.some.inj this).symm
    · obtain ⟨o', a1, a2, a3, a4⟩ := i2 x (mem p x hx)
      rw [a2] at hj
      exact d1 x.i o (by rw [d2]; exact (List.getElem?_eq_some_iff.1 ho).1) ho S hS he j hj
    · obtain ⟨o', a1, a2, a3, a4⟩ := i2 x (mem p x hx)
      rw [a2]
      exact edges_sound all x.i o (by rw [d2]; exact (List.getElem?_eq_some_iff.1 ho).1) ho e he hb
    · have : x.i ≠ y.i := fun e => hne (by
        have hp := idx p x hx
        have hq := idx q y hy
        rw [← e] at hq
        exact (List.getElem?_inj (List.getElem?_eq_some_iff.1 hp).1 o1).1 (hp.trans hq.symm))
      exact (pairs_sound c2 hox hoy this ht).1
    · have : x.i ≠ y.i := fun e => hne (by
        have hp := idx p x hx
        have hq := idx q y hy
        rw [← e] at hq
        exact (List.getElem?_inj (List.getElem?_eq_some_iff.1 hp).1 o1).1 (hp.trans hq.symm))
      obtain ⟨_, _, a2, _, _⟩ := i2 x (mem p x hx)
      obtain ⟨_, _, b2, _, _⟩ := i2 y (mem q y hy)
      rw [a2, b2]
      exact (pairs_sound c2 hox hoy this ht).2 hm
end Go.Xec
