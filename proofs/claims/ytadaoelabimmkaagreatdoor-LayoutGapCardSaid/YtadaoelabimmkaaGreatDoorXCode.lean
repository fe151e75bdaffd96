/-
  THE EXECUTOR: code, calls, the range over a function.
-/
import Derived.Test.YtadaoelabimmkaaGreatDoorXCtl
namespace Go.Xec
open Go
section
variable {P : Program} {self : Task → Hp → Nat → R}

theorem Pst.trans {β γ δ : Bm} {G : Gp} {n n1 n' lo sz : Nat} {w w1 w' : World} {T1 T' : Tm} {H1 H' : Hp} {a1 a' : Act} (h1 : Pst P β G n w lo sz T1 H1 n1 γ a1 w1) (h2 : Pst P γ (hget H1) n1 w1 lo sz T' H' n' δ a' w') (l1 : n ≤ n1) (l2 : n1 ≤ n') (hf : Fresh β n n') :
    Pst P β G n w lo sz T' H' n' δ a' w' := ⟨h1.ext.trans h2.ext l1 l2 hf, h2.tr, h2.sz, h2.mks⟩
theorem Fresh.left {β : Bm} {n n1 n' : Nat} (h : Fresh β n n') (l : n1 ≤ n') : Fresh β n n1 := fun i a b => h i a (by omega)
theorem Fresh.right {β γ : Bm} {G : Gp} {n n1 n' : Nat} {w w1 : World} {H1 : Hp} (h : Fresh β n n') (e : Ext P β G n w γ (hget H1) n1 w1) (l : n ≤ n1) : Fresh γ n1 n' := fun i a b => by rw [e.same i (.inr a)]; exact h i (by omega) b

/-- a code that is walked by wpIn alone -/
theorem CodeS.mk' {rd : Option Nat} {sz : Nat} {c : Code} {T T' : Tm} {H H' : Hp} {n n' : Nat} {ex : Ex} (hc : ∀ b, c ≠ .loop b) (h1 : NoneOut H n H' n')
    (h : ∀ (β : Bm) (w : World) (a : Act) (ro : Option Nat) (lo : Nat) (Q : Exit → Act → World → Prop), TR β T a.tmps → a.tmps.size = sz → WR P β (hget H) w → Fresh β n n' → RdR β rd ro → Mk β (hget H) w lo n a.defers →
      (∀ γ a' w', Pst P β (hget H) n w lo sz T' H' n' γ a' w' → Q (exOf ex) a' w') → c.wpIn (fen ro) 0 P Q a w) : CodeS P rd sz c T H n ex T' H' n' :=
  ⟨h1, 0, fun β w a ro lo Q x1 x2 x3 x4 x5 x6 x7 => by
    have := h β w a ro lo Q x1 x2 x3 x4 x5 x6 x7
    cases c <;> first | exact this | exact absurd rfl (hc _)⟩
theorem CodeS.stay {rd : Option Nat} {sz : Nat} {c : Code} {T : Tm} {H : Hp} {n : Nat} {ex : Ex} (hc : ∀ b, c ≠ .loop b) (h : ∀ (ro : Option Nat) (Q : Exit → Act → World → Prop) (a : Act) (w : World), Q (exOf ex) a w → c.wpIn (fen ro) 0 P Q a w) : CodeS P rd sz c T H n ex T H n :=
  CodeS.mk' hc (NoneOut.refl _ _) fun β w a ro _ Q hT hs hW _ _ hM hQ => h ro Q a w (hQ β a w ⟨Ext.refl hW, hT, hs, hM⟩)
theorem CodeS.use {rd : Option Nat} {sz : Nat} {c : Code} {T T' : Tm} {H H' : Hp} {n n' : Nat} {ex : Ex} (h : CodeS P rd sz c T H n ex T' H' n') {β : Bm} {w : World} {a : Act} {ro : Option Nat} {lo : Nat} {Q : Exit → Act → World → Prop} (x1 : TR β T a.tmps) (x2 : a.tmps.size = sz) (x3 : WR P β (hget H) w) (x4 : Fresh β n n') (x5 : RdR β rd ro) (x6 : Mk β (hget H) w lo n a.defers)
    (x7 : ∀ γ a' w', Pst P β (hget H) n w lo sz T' H' n' γ a' w' → Q (exOf ex) a' w') : c.wpIn (fen ro) 0 P Q a w :=
  let ⟨_, h2⟩ := h.2
  (h2 β w a ro lo Q x1 x2 x3 x4 x5 x6 x7).wp

/-- one code behind another -/
theorem seq_sound (hself : ∀ t H n, TaskS P t H n (self t H n)) {rd : Option Nat} {fn : FuncId} {sz : Nat} {x y : Code} {T T' : Tm} {H H' : Hp} {n n' : Nat} {ex : Ex}
    (h : seqK self rd fn sz y (self (.code rd fn sz x T) H n) = .ok ex T' H' n') :
    NoneOut H n H' n' ∧ ∃ m, ∀ (β : Bm) (w : World) (a : Act) (ro : Option Nat) (lo : Nat) (Q : Exit → Act → World → Prop), TR β T a.tmps → a.tmps.size = sz → WR P β (hget H) w → Fresh β n n' → RdR β rd ro → Mk β (hget H) w lo n a.defers →
      (∀ γ a' w', Pst P β (hget H) n w lo sz T' H' n' γ a' w' → Q (exOf ex) a' w') → x.wpIn (fen ro) 0 P (Exit.then (WpX P m (fen ro) y Q) Q) a w := by
  cases hx : self (.code rd fn sz x T) H n with
  | bad => rw [hx] at h; cases h
  | ok e1 T1 H1 n1 =>
    rw [hx] at h
    have hs := hself (.code rd fn sz x T) H n
    rw [hx] at hs
    have hs : CodeS P rd sz x T H n e1 T1 H1 n1 := hs
    cases e1 with
    | normal =>
      have h : self (.code rd fn sz y T1) H1 n1 = .ok ex T' H' n' := h
      have hs2 := hself (.code rd fn sz y T1) H1 n1
      rw [h] at hs2
      have hs2 : CodeS P rd sz y T1 H1 n1 ex T' H' n' := hs2
      obtain ⟨m, h2⟩ := hs2.2
      refine ⟨hs.1.trans hs2.1, m, fun β w a ro lo Q hT hz hW hf hr hM hQ => ?_⟩
      refine hs.use (lo := lo) hT hz hW (hf.left hs2.1.1) hr hM fun γ a1 w1 hp => ?_
      refine h2 γ w1 a1 ro lo Q hp.tr hp.sz hp.ext.wr (hf.right hp.ext hs.1.1) (hr.mono (hp.ext.le (hf.left hs2.1.1))) hp.mks fun δ a' w' hp' => ?_
      exact hQ δ a' w' (hp.trans hp' hs.1.1 hs2.1.1 hf)
    | exit id => cases h; exact ⟨hs.1, 0, fun β w a ro lo Q hT hz hW hf hr hM hQ => hs.use hT hz hW hf hr hM fun γ a' w' hp => hQ γ a' w' hp⟩
    | ret => cases h; exact ⟨hs.1, 0, fun β w a ro lo Q hT hz hW hf hr hM hQ => hs.use hT hz hW hf hr hM fun γ a' w' hp => hQ γ a' w' hp⟩
    | goto l => cases h; exact ⟨hs.1, 0, fun β w a ro lo Q hT hz hW hf hr hM hQ => hs.use hT hz hW hf hr hM fun γ a' w' hp => hQ γ a' w' hp⟩

theorem block_sound (hself : ∀ t H n, TaskS P t H n (self t H n)) {rd : Option Nat} {fn : FuncId} {sz id : Nat} {b : Code} {T T' : Tm} {H H' : Hp} {n n' : Nat} {ex : Ex}
    (h : blockK id (self (.code rd fn sz b T) H n) = .ok ex T' H' n') : CodeS P rd sz (.block id b) T H n ex T' H' n' := by
  cases hx : self (.code rd fn sz b T) H n with
  | bad => rw [hx] at h; cases h
  | ok e1 T1 H1 n1 =>
    rw [hx] at h
    have hs := hself (.code rd fn sz b T) H n
    rw [hx] at hs
    have hs : CodeS P rd sz b T H n e1 T1 H1 n1 := hs
    have go : ∀ e2 : Ex, T1 = T' → H1 = H' → n1 = n' → (∀ (Q : Exit → Act → World → Prop) a w, Q (exOf e2) a w → Exit.inBlock id Q (exOf e1) a w) → CodeS P rd sz (.block id b) T H n e2 T' H' n' := fun e2 e3 e4 e5 hq => by
      subst e3 e4 e5
      exact CodeS.mk' (by simp) hs.1 fun β w a ro lo Q hT hz hW hf hr hM hQ => wpIn_block (hs.use hT hz hW hf hr hM fun γ a' w' hp => hq Q a' w' (hQ γ a' w' hp))
    cases e1 with
    | normal => cases h; exact go _ rfl rfl rfl fun Q a w h => h
    | ret => cases h; exact go _ rfl rfl rfl fun Q a w h => h
    | goto l => cases h; exact go _ rfl rfl rfl fun Q a w h => h
    | exit i =>
      have h : cond (Nat.beq i id) (R.ok .normal T1 H1 n1) (.ok (.exit i) T1 H1 n1) = .ok ex T' H' n' := h
      cases hb : Nat.beq i id with
      | true =>
        rw [hb] at h; cases h
        exact go _ rfl rfl rfl fun Q a w h => by simp only [exOf, Exit.inBlock]; rw [if_pos (beq_eq hb)]; exact h
      | false =>
        rw [hb] at h; cases h
        exact go _ rfl rfl rfl fun Q a w h => by
          simp only [exOf, Exit.inBlock]
          rw [if_neg (fun e => by rw [beq_true_of e] at hb; cases hb)]
          exact h
theorem onOR_ok {α : Type} {o : Option α} {f : α → R} {ex : Ex} {T : Tm} {H : Hp} {n : Nat} (h : onOR o f = .ok ex T H n) : ∃ a, o = some a ∧ f a = .ok ex T H n := by
  cases o with
  | none => cases h
  | some a => exact ⟨a, rfl, h⟩
theorem condR_ok {b : Bool} {x : R} {ex : Ex} {T : Tm} {H : Hp} {n : Nat} (h : cond b x .bad = .ok ex T H n) : b = true ∧ x = .ok ex T H n := by
  cases b
  · cases h
  · exact ⟨rfl, h⟩
theorem cond_sound (hself : ∀ t H n, TaskS P t H n (self t H n)) {rd : Option Nat} {fn : FuncId} {sz : Nat} {c : Operand} {x y : Code} {T T' : Tm} {H H' : Hp} {n n' : Nat} {ex : Ex} (hc : okX c = true)
    (h : condK self rd fn sz x y T H n (ev T c) = .ok ex T' H' n') : CodeS P rd sz (.cond c x y) T H n ex T' H' n' := by
  unfold condK at h
  split at h
  · rename_i t ht
    have hs := hself (.code rd fn sz (cond t x y) T) H n
    rw [h] at hs
    have hs : CodeS P rd sz (cond t x y) T H n ex T' H' n' := hs
    refine CodeS.mk' (by simp) hs.1 fun β w a ro lo Q hT hz hW hf hr hM hQ => ?_
    have e : a.eval c = .bool t := bool_of (β := β) (ht ▸ ev_rel (fun t _ => hT t) hc)
    refine wpIn_cond e ?_
    have := hs.use (ro := ro) (Q := Q) hT hz hW hf hr hM hQ
    cases t <;> exact this
  · cases h

/- ## Leaving a function -/
theorem run_getObj {w : World} {r : Nat} {o : Obj} (h : w.heap[r]? = some o) (hc : ∀ c e f, o ≠ .cells c e f) : (getObj r).run P w = .ok o w := by
  cases o <;> first | (simp only [getObj, Sem.run, h]; done) | exact absurd rfl (hc _ _ _)
theorem run_setObj {w : World} {r : Nat} {o p : Obj} (h : w.heap[r]? = some o) (hc : ∀ c e f, o ≠ .cells c e f) : (setObj r p).run P w = .ok () { w with heap := w.heap.setIfInBounds r p } := by
  cases o <;> first | (simp only [setObj, Sem.run, h]; done) | exact absurd rfl (hc _ _ _)
theorem run_take {w : World} {r : Nat} (h : w.heap[r]? = some (.deferred (some []))) : (Instr.takeDeferred r).run P w = .ok [] { w with heap := w.heap.setIfInBounds r (.deferred none) } := by
  simp only [Instr.takeDeferred, Sem.run_bind, run_getObj h (by simp), Result.andThen_ok, run_setObj h (by simp), Sem.run_pure]
/-- a mark taken -/
theorem Ext.take {β γ : Bm} {G G' : Gp} {n n' : Nat} {w w' : World} (h : Ext P β G n w γ G' n' w') (hf : Fresh β n n') {i : Nat} {q : Nat × Nat} (hi : G' i = some .defd) (hq : γ i = some q) (h0 : G i = none) :
    Ext P β G n w γ G' n' { w' with heap := w'.heap.setIfInBounds q.1 (.deferred none) } := by
  have oth : ∀ b, b ≠ q.1 → (w'.heap.setIfInBounds q.1 (.deferred none))[b]? = w'.heap[b]? := fun b hb => by rw [Array.getElem?_setIfInBounds]; simp [Ne.symm hb]
  have lt := h.wr.lt hi hq
  refine ⟨h.same, ⟨fun j o g => ?_, h.wr.inj⟩, by simpa using h.size, fun b hb ho => ?_, h.orig, h.keep, fun j b g hb => ?_, h.os, h.out, h.tape⟩
  · obtain ⟨b, x, h1, h2, h3⟩ := h.wr.obj j o g
    by_cases hd : o = .dead
    · subst hd
      have hl : b.1 < w'.heap.size := (Array.getElem?_eq_some_iff.1 h2).1
      refine ⟨b, (w'.heap.setIfInBounds q.1 (.deferred none))[b.1]'(by simpa using hl), h1, Array.getElem?_eq_getElem _, .dead _⟩
    · by_cases e : b.1 = q.1
      · have := h.wr.inj j i b q o _ g hi hd (by simp) h1 hq e
        subst this
        rw [hi] at g; cases g
        exact ⟨b, .deferred none, h1, by rw [e]; simp [lt], .defd _⟩
      · exact ⟨b, x, h1, by simpa [oth b.1 e] using h2, h3⟩
  · refine (oth b fun e => ?_).trans (h.frame b hb ho)
    subst e
    rcases h.orig i _ q hi (by simp) hq with hh | ⟨j, p, c, q1, q2, q3, q4⟩
    · omega
    · exact ho j p c q1 q2 q3 q4
  · refine (oth b.1 fun e => ?_).trans (h.kept j b g hb)
    have := h.wr.inj j i b q _ _ (h.keep j g) hi (by simp) (by simp) (h.le hf _ _ hb) hq e
    subst this
    rw [h0] at g; cases g
theorem leave_sound {β γ : Bm} {G : Gp} {n n' : Nat} {w : World} {H' : Hp} {fn : Func} {tmps : Array Value} {v : Value} (hf : Fresh β n n') (hG : ∀ i, n ≤ i → i < n' → G i = none)
    (hres : ∀ w' : World, WR P γ (hget H') w' → ∃ c, (results fn tmps).run P w' = .ok c w' ∧ VR γ v c) : ∀ (ids : List (Nat × (Nat × Nat))) (w' : World), Ext P β G n w γ (hget H') n' w' →
    (∀ x ∈ ids, n ≤ x.1 ∧ x.1 < n' ∧ γ x.1 = some x.2 ∧ hget H' x.1 = some .defd ∧ w'.heap[x.2.1]? = some (.deferred (some []))) → (ids.map (·.1)).Nodup →
    LeavesInM Fence.wide 0 P fn tmps (RetS P β G n w v H' n') (ids.map fun x => mark1 x.2.1) .returning w'
  | [], w', e, _, _ => by
    obtain ⟨c, h1, h2⟩ := hres w' e.wr
    exact ⟨c, h1, c, γ, rfl, h2, e⟩
  | x :: ids, w', e, hm, hn => by
    obtain ⟨a1, a2, a3, a4, a5⟩ := hm x (by simp)
    refine ⟨by simp, .inl ⟨x.2.1, _, rfl, run_take a5, ?_⟩⟩
    refine leave_sound hf hG hres ids _ (e.take hf a4 a3 (hG _ a1 a2)) (fun y hy => ?_) (by simp at hn; simpa using hn.2)
    obtain ⟨b1, b2, b3, b4, b5⟩ := hm y (by simp [hy])
    refine ⟨b1, b2, b3, b4, ?_⟩
    have hne : y.2.1 ≠ x.2.1 := fun e' => by
      have := e.wr.inj y.1 x.1 y.2 x.2 _ _ b4 a4 (by simp) (by simp) b3 a3 e'
      simp at hn
      exact hn.1 y.2.1 y.2.2 (by rw [← this]; exact hy)
    simp only
    rw [Array.getElem?_setIfInBounds]
    simp [Ne.symm hne, b5]

theorem resL_cons (T : Tm) (H : Hp) (r : ResultVar) (l : List ResultVar) : resL P T H (r :: l) = (match r with
    | .tmp t => (resL P T H l).map fun vs => tget T t :: vs
    | .cell a t => (asPtr (tget T a)).bind fun a => (readC P H t a).bind fun v => (resL P T H l).map fun vs => v :: vs) := rfl
theorem asPtr_ok {x : Value} {a : Addr} (h : asPtr x = some a) : x = .pointer (some a) := by
  unfold asPtr at h; split at h
  · cases h; rfl
  · cases h
theorem readC_rel {γ : Bm} {H : Hp} {w : World} (hW : WR P γ (hget H) w) {t : TypeId} {a : Addr} {v : Value} (h : readC P H t a = some v) {q : Nat × Nat} (hq : γ a.block = some q) : ∃ c, (loadVar t ⟨q.1, a.off, none⟩).run P w = .ok c w ∧ VR γ v c := by
  unfold readC at h
  cases h1 : cellsAt H a.block with
  | none => rw [h1] at h; cases h
  | some p =>
    rw [h1] at h
    have h : (cond (isAggD (P.underlying t)) ((sizeT P t).bind fun n => (cut p.1 a.off n).map aggOf) ((P.underlying t).bind fun _ => lget p.1 a.off)) = some v := h
    obtain ⟨c, l', rest, e1, e2, e3, _⟩ := hW.cells h1 hq
    cases hagg : isAggD (P.underlying t) with
    | true =>
      rw [hagg, cond_true] at h
      obtain ⟨d, hd⟩ := aggD_some hagg
      cases h2 : sizeT P t with
      | none => rw [h2] at h; cases h
      | some k =>
        rw [h2] at h
        have h : (cut p.1 a.off k).map aggOf = some v := h
        cases h3 : cut p.1 a.off k with
        | none => rw [h3] at h; cases h
        | some r =>
          rw [h3] at h; cases h
          obtain ⟨r', q1, q2, q3⟩ := part_at e2 e3 h3
          exact ⟨.agg r'.toArray, by simp [loadVar, run_agg hd, hagg, run_size h2, run_cells e1 a.off r' k q2 q3], .agg _ _ (by simpa [aggOf] using q1)⟩
    | false =>
      rw [hagg, cond_false] at h
      cases h2 : P.underlying t with
      | none => rw [h2] at h; cases h
      | some d =>
        rw [h2] at h
        have h : lget p.1 a.off = some v := h
        obtain ⟨v', q1, q2⟩ := cell_rel e2 e3 h
        exact ⟨v', by simp [loadVar, run_agg h2, hagg, cell_at e1, -Array.getElem?_toList, q2], q1⟩
theorem resL_rel {γ : Bm} {T : Tm} {tmps : Array Value} (hT : TR γ T tmps) {H : Hp} {w : World} (hW : WR P γ (hget H) w) : ∀ {l : List ResultVar} {vs : List Value}, resL P T H l = some vs →
    ∃ cs, (l.mapM (m := Sem) fun | .tmp t => pure (tmps.getD t undef) | .cell a t => do loadVar t (← asAddr (tmps.getD a undef))).run P w = .ok cs w ∧ VL γ vs cs
  | [], vs, h => by cases h; exact ⟨[], by simp, .nil⟩
  | .tmp t :: l, vs, h => by
    rw [resL_cons] at h
    cases h1 : resL P T H l with
    | none => simp [h1] at h
    | some r =>
      simp [h1] at h
      subst h
      obtain ⟨cs, e1, e2⟩ := resL_rel hT hW h1
      exact ⟨tmps.getD t undef :: cs, by simp only [List.mapM_cons, Sem.run_bind, Sem.run_pure, Result.andThen_ok, e1], .cons (hT t) e2⟩
  | .cell a t :: l, vs, h => by
    rw [resL_cons] at h
    cases h0 : asPtr (tget T a) with
    | none => simp [h0] at h
    | some ad =>
      cases h2 : readC P H t ad with
      | none => simp [h0, h2] at h
      | some v =>
        cases h1 : resL P T H l with
        | none => simp [h0, h1] at h
        | some r =>
          simp [h0, h2, h1] at h
          subst h
          obtain ⟨cs, e1, e2⟩ := resL_rel hT hW h1
          have hr := hT a
          rw [asPtr_ok h0] at hr
          obtain ⟨q, _, hq, hc⟩ := ptr_of hr
          obtain ⟨c, q1, q2⟩ := readC_rel hW h2 hq
          have ha : (asAddr (tmps.getD a undef)).run P w = .ok ⟨q.1, ad.off, none⟩ w := by rw [hc]; rfl
          exact ⟨c :: cs, by simp only [List.mapM_cons, Sem.run_bind, ha, Sem.run_pure, Result.andThen_ok, q1, e1], .cons q2 e2⟩
theorem results_rel {γ : Bm} {T T2 : Tm} {tmps : Array Value} (hT : TR γ T tmps) {H H2 : Hp} {n n2 : Nat} {ex : Ex} {fn : Func} (h : retK H n (resL P T H fn.results.toList) = .ok ex T2 H2 n2) :
    H2 = H ∧ n2 = n ∧ ∀ w : World, WR P γ (hget H) w → ∃ c, (results fn tmps).run P w = .ok c w ∧ VR γ (tget T2 0) c := by
  cases h1 : resL P T H fn.results.toList with
  | none => rw [h1] at h; cases h
  | some vs =>
    rw [h1] at h
    have run : ∀ w : World, WR P γ (hget H) w → ∃ cs : List Value, VL γ vs cs ∧ (results fn tmps).run P w = .ok (if h : cs.length = 1 then cs[0]'(by omega) else .tuple cs.toArray) w := fun w hW => by
      obtain ⟨cs, e1, e2⟩ := resL_rel hT hW h1
      refine ⟨cs, e2, ?_⟩
      have hm : (fn.results.mapM (m := Sem) fun | .tmp t => pure (tmps.getD t undef) | .cell a t => do loadVar t (← asAddr (tmps.getD a undef))).run P w = .ok cs.toArray w := by
        rw [Array.mapM_eq_mapM_toList, Sem.run_map, e1]; rfl
      unfold results
      rw [Sem.run_bind]
      erw [hm]
      simp
    unfold retK at h
    split at h
    · rename_i v hv
      cases hv; cases h
      refine ⟨rfl, rfl, fun w hW => ?_⟩
      obtain ⟨cs, e1, e2⟩ := run w hW
      cases e1 with
      | cons a b => cases b; exact ⟨_, by simpa using e2, a⟩
    · rename_i vs' hne hv
      cases hv; cases h
      refine ⟨rfl, rfl, fun w hW => ?_⟩
      obtain ⟨cs, e1, e2⟩ := run w hW
      have hl : cs.length ≠ 1 := fun hl => by
        rw [← e1.length] at hl
        match vs, hl with
        | [v], _ => exact hne v rfl
      rw [dif_neg hl] at e2
      exact ⟨_, e2, .tuple _ _ (by simpa using e1)⟩
    · rename_i hv; cases hv

theorem argsT_cons (v : Value) (vs : List Value) (k : Nat) (T : Tm) : argsT (v :: vs) k T = argsT vs (k + 1) (tset T k v) := rfl
theorem argsT_get : ∀ (vs : List Value) (k : Nat) (T : Tm) (t : Nat), tget (argsT vs k T) t = if k ≤ t ∧ t < k + vs.length then vs.getD (t - k) undef else tget T t
  | [], k, T, t => by
    have : ¬ (k ≤ t ∧ t < k + ([] : List Value).length) := by simp
    rw [if_neg this]; rfl
  | v :: vs, k, T, t => by
    rw [argsT_cons, argsT_get vs (k + 1), tget_tset]
    simp only [List.length_cons]
    by_cases h1 : t = k
    · subst h1; rw [if_neg (by omega), if_pos rfl, if_pos (by omega)]; simp
    · by_cases h2 : k + 1 ≤ t ∧ t < k + 1 + vs.length
      · rw [if_pos h2, if_pos (by omega)]
        obtain ⟨m, hm⟩ : ∃ m, t - k = m + 1 := ⟨t - k - 1, by omega⟩
        rw [hm, show t - (k + 1) = m from by omega]; simp
      · rw [if_neg h2, if_neg h1, if_neg (by omega)]
theorem args_tr {β : Bm} {vs cs : List Value} (h : VL β vs cs) (m : Nat) : TR β (argsT vs 0 .leaf) (cs.toArray ++ Array.replicate m undef) := fun t => by
  rw [argsT_get]
  have hl := h.length
  by_cases ht : t < cs.length
  · rw [if_pos (by omega)]
    have : (cs.toArray ++ Array.replicate m undef).getD t undef = cs.getD t undef := by
      simp only [Array.getD_eq_getD_getElem?]
      rw [Array.getElem?_append_left (by simpa using ht)]
      simp
    rw [this]
    have hv : vs[t]? = some (vs.getD t undef) := by simp [List.getD, List.getElem?_eq_getElem (show t < vs.length by omega)]
    obtain ⟨c, e1, e2⟩ := h.get t _ hv
    simp only [Nat.sub_zero]
    have : cs.getD t undef = c := by simp [List.getD, e1]
    rw [this]; exact e2
  · rw [if_neg (by omega), tget_leaf]
    have : (cs.toArray ++ Array.replicate m undef).getD t undef = undef := by
      simp only [Array.getD_eq_getD_getElem?]
      rw [Array.getElem?_append_right (by simp; omega)]
      rw [Array.getElem?_replicate]
      split <;> rfl
    rw [this]; exact undef_rel β
theorem call_sound (hself : ∀ t H n, TaskS P t H n (self t H n)) {f : FuncId} {args : List Value} {H H' : Hp} {n n' : Nat} {ex : Ex} {T' : Tm} (h : callStep P self f args H n = .ok ex T' H' n') : CallS P f args H n (tget T' 0) H' n' := by
  unfold callStep at h
  obtain ⟨fn, h1, h2⟩ := onOR_ok h
  obtain ⟨c, h3, h4⟩ := onOR_ok h2
  obtain ⟨h5, h6⟩ := condR_ok h4
  have hs := hself (.code none f fn.ntmps c (argsT args 0 .leaf)) H n
  cases hx : self (.code none f fn.ntmps c (argsT args 0 .leaf)) H n with
  | bad => rw [hx] at h6; cases h6
  | ok e1 T1 H1 n1 =>
    rw [hx] at hs h6
    have hs : CodeS P none fn.ntmps c (argsT args 0 .leaf) H n e1 T1 H1 n1 := hs
    have hle : args.length ≤ fn.ntmps := ble_le h5
    have fin : e1 = .normal ∨ e1 = .ret → retK H1 n1 (resL P T1 H1 fn.results.toList) = .ok ex T' H' n' → CallS P f args H n (tget T' 0) H' n' := fun he hr => by
      have hH : H' = H1 ∧ n' = n1 := by
        unfold retK at hr
        split at hr <;> first | (cases hr; done) | (cases hr; exact ⟨rfl, rfl⟩)
      obtain ⟨rfl, rfl⟩ := hH
      refine ⟨hs.1, ⟨fn, c, h1, h3⟩, fun β w cs hv hW hf => ?_⟩
      have hl := hv.length
      refine callsIn_of_wp_marks h1 h3 trivial ?_
      refine hs.use (ro := none) (lo := n) (args_tr hv _) (by simp; omega) hW hf trivial (Mk.nil (Nat.le_refl _)) fun γ a' w' hp => ?_
      obtain ⟨_, _, hres⟩ := results_rel hp.tr hr
      obtain ⟨_, ids, m1, m2, m3⟩ := hp.mks
      have lv := leave_sound (fn := fn) hf (fun i a b => hW.fresh (hf i a b)) hres ids w' hp.ext (fun x hx => m2 x hx) m3
      rw [← m1] at lv
      rcases he with rfl | rfl <;> exact lv
    cases e1 with
    | normal => exact fin (.inl rfl) h6
    | ret => exact fin (.inr rfl) h6
    | exit id => cases h6
    | goto l => cases h6
end
end Go.Xec
