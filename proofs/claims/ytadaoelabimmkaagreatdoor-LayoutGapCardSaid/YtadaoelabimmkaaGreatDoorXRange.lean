/-
  THE EXECUTOR: the range over a function: the statement, a round.
-/
import Derived.Test.YtadaoelabimmkaaGreatDoorXCode
namespace Go.Xec
open Go
section
variable {P : Program} {self : Task → Hp → Nat → R}

theorem loopOf_ok {o : Option AObj} {r : ALoop} (h : loopOf o = some r) : o = some (.loop r) := by
  unfold loopOf at h; split at h
  · cases h; rfl
  · cases h
theorem run_getLoop {w : World} {l : Nat} {q : Loop} (h : w.heap[l]? = some (.loop q)) : (Instr.getLoop l).run P w = .ok q w := by
  simp only [Instr.getLoop, Sem.run_bind, run_getObj h (by simp), Result.andThen_ok, Sem.run_pure]
/-- the record of a loop -/
theorem WR.loop {β : Bm} {H : Hp} {w : World} (h : WR P β (hget H) w) {l : Nat} {q : Nat × Nat} {r : ALoop} (hl : loopAt H l = some r) (hq : β l = some q) : ∃ s, w.heap[q.1]? = some (.loop s) ∧ s.state = r.state ∧ s.pending = r.pending ∧ TR β r.T s.tmps ∧ s.params.toList = r.params ∧ s.assign = r.assign ∧ s.body = r.body ∧ (∃ x, β r.defers = some x ∧ x.1 = s.defers) ∧ s.tmps.size = r.sz := by
  obtain ⟨x, h1, h2⟩ := h.at (loopOf_ok hl) hq
  cases h2 with
  | loop _ s x a1 a2 a3 a4 a5 a6 a7 a8 a9 => exact ⟨s, h1, a1, a2, a3, a4, a5, a6, ⟨x, a7, a8⟩, a9⟩
/-- the record turned -/
theorem loop_turn {β : Bm} {H : Hp} {n : Nat} {w : World} (hW : WR P β (hget H) w) {l : Nat} {q : Nat × Nat} {r r' : ALoop} {s s' : Loop} (hl : loopAt H l = some r) (hq : β l = some q) (hs : w.heap[q.1]? = some (.loop s)) (hR : ObR P β q.2 (.loop r') (.loop s')) :
    (setObj q.1 (.loop s')).run P w = .ok () { w with heap := w.heap.setIfInBounds q.1 (.loop s') } ∧ Ext P β (hget H) n w β (hget (hset H l (.loop r'))) n { w with heap := w.heap.setIfInBounds q.1 (.loop s') } := by
  have lt := (Array.getElem?_eq_some_iff.1 hs).1
  refine ⟨run_setObj hs (by simp), Ext.turn hW (loopOf_ok hl) hq (by simp) (by simp) (by simp) (by simp [lt]) (fun c hc => ?_) hR rfl rfl rfl⟩
  simp only
  rw [Array.getElem?_setIfInBounds]; simp [Ne.symm hc]
theorem hset_none {H : Hp} {l : Nat} {o : AObj} {r : ALoop} (hl : loopAt H l = some r) (n : Nat) : NoneOut H n (hset H l o) n := ⟨Nat.le_refl _, fun i _ h0 => by
  rw [hget_hset]; split
  · rename_i e; subst e; rw [loopOf_ok hl] at h0; cases h0
  · exact h0⟩
theorem setParams_nil (sz : Nat) (vs : List Value) (T : Tm) : setParams sz [] vs T = (match vs with | [] => some T | _ :: _ => none) := by cases vs <;> rfl
theorem setParams_cons (sz t : Nat) (ts : List Tmp) (vs : List Value) (T : Tm) : setParams sz (t :: ts) vs T = (match vs with | [] => none | v :: vs => cond (Nat.ble (t + 1) sz) (setParams sz ts vs (tset T t v)) none) := by cases vs <;> rfl
theorem params_rel {β : Bm} {sz : Nat} : ∀ {ts : List Tmp} {vs cs : List Value} {T T' : Tm} {tmps : Array Value}, setParams sz ts vs T = some T' → VL β vs cs → TR β T tmps → tmps.size = sz →
    ts.length = cs.length ∧ TR β T' ((ts.zip cs).foldl (fun tmps p => tmps.setIfInBounds p.1 p.2) tmps) ∧ ((ts.zip cs).foldl (fun tmps p => tmps.setIfInBounds p.1 p.2) tmps).size = sz
  | [], vs, cs, T, T', tmps, h, hv, hT, hz => by
    rw [setParams_nil] at h
    cases hv with
    | nil => cases h; exact ⟨rfl, hT, hz⟩
    | cons a b => cases h
  | t :: ts, vs, cs, T, T', tmps, h, hv, hT, hz => by
    rw [setParams_cons] at h
    cases hv with
    | nil => cases h
    | cons a b =>
      rename_i v c vs' cs'
      have h : cond (Nat.ble (t + 1) sz) (setParams sz ts vs' (tset T t v)) none = some T' := h
      cases hb : Nat.ble (t + 1) sz with
      | false => rw [hb] at h; cases h
      | true =>
        rw [hb] at h
        have ht : t < tmps.size := by rw [hz]; exact ble_le hb
        obtain ⟨h1, h2, h3⟩ := params_rel (tmps := tmps.setIfInBounds t c) (show setParams sz ts vs' (tset T t v) = some T' from h) b (hT.set ht a) (by simp [hz])
        exact ⟨by simp [h1], h2, h3⟩

/- ## A round -/
theorem round_end {β : Bm} {H : Hp} {n : Nat} {w : World} (hW : WR P β (hget H) w) {l : Nat} {q : Nat × Nat} {r : ALoop} (hl : loopAt H l = some r) (hq : β l = some q) (j : Option Code) :
    ∃ w', (Instr.endRound q.1 j).run P w = .ok (.bool j.isNone) w' ∧ Ext P β (hget H) n w β (hget (hset H l (.loop { r with state := cond j.isNone .ready .done, pending := j }))) n w' := by
  obtain ⟨s, h1, h2, h3, h4, h5, h6, h7, ⟨x, h8, h9⟩, h10⟩ := hW.loop hl hq
  obtain ⟨t1, t2⟩ := loop_turn (n := n) (r' := { r with state := cond j.isNone .ready .done, pending := j }) (s' := { s with state := if j.isNone then .ready else .done, pending := j }) hW hl hq h1 (.loop _ _ x (by cases j <;> rfl) rfl h4 h5 h6 h7 h8 h9 h10)
  exact ⟨_, by simp only [Instr.endRound, Sem.run_bind, run_getLoop h1, Result.andThen_ok, t1, Sem.run_pure], t2⟩
theorem roundFin_ok {l : Nat} {H H' : Hp} {n n' : Nat} {j : Option Code} {ex : Ex} {T' : Tm} (h : roundFin l H n j = .ok ex T' H' n') : ∃ r, loopAt H l = some r ∧ tget T' 0 = .bool j.isNone ∧ H' = hset H l (.loop { r with state := cond j.isNone .ready .done, pending := j }) ∧ n' = n := by
  unfold roundFin at h
  obtain ⟨r, h1, h2⟩ := onOR_ok h
  cases h2
  exact ⟨r, h1, rfl, rfl, rfl⟩
def jumpOf : Ex → Option Code
  | .normal => none
  | .ret => some .ret
  | .exit id => some (.exit id)
  | .goto l => some (.goto l)
theorem roundEnd_ok {l : Nat} {x : R} {ex : Ex} {T' : Tm} {H' : Hp} {n' : Nat} (h : roundEnd l x = .ok ex T' H' n') : ∃ e T H n, x = .ok e T H n ∧ roundFin l H n (jumpOf e) = .ok ex T' H' n' := by
  unfold roundEnd at h
  split at h <;> first | (cases h; done) | exact ⟨_, _, _, _, rfl, h⟩
theorem yield_sound (hself : ∀ t H n, TaskS P t H n (self t H n)) {l : Nat} {args : List Value} {H H' : Hp} {n n' : Nat} {ex : Ex} {T' : Tm} (h : yieldStep self l args H n = .ok ex T' H' n') : YieldS P l args H n (tget T' 0) H' n' := by
  unfold yieldStep at h
  obtain ⟨r, h1, h2⟩ := onOR_ok h
  obtain ⟨T0, h3, h4⟩ := onOR_ok h2
  have hs := hself (.code (some l) r.fn r.sz r.assign T0) H n
  cases hx : self (.code (some l) r.fn r.sz r.assign T0) H n with
  | bad => rw [hx] at h4; cases h4
  | ok e1 T1 H1 n1 =>
    rw [hx] at hs h4
    have hs : CodeS P (some l) r.sz r.assign T0 H n e1 T1 H1 n1 := hs
    cases e1 with
    | exit id => cases h4
    | ret => cases h4
    | goto g => cases h4
    | normal =>
      have h4 : (onOR (loopAt H1 l) fun r1 => cond (isReady r1.state) (roundEnd l (self (.code (some l) r.fn r.sz r.body T1) (hset H1 l (.loop { r1 with state := .busy })) n1)) .bad) = .ok ex T' H' n' := h4
      obtain ⟨r1, h5, h6⟩ := onOR_ok h4
      obtain ⟨h7, h8⟩ := condR_ok h6
      obtain ⟨e2, T2, H2, n2, h9, h10⟩ := roundEnd_ok h8
      obtain ⟨r2, h11, h12, h13, h14⟩ := roundFin_ok h10
      have hs2 := hself (.code (some l) r.fn r.sz r.body T1) (hset H1 l (.loop { r1 with state := .busy })) n1
      rw [h9] at hs2
      have hs2 : CodeS P (some l) r.sz r.body T1 (hset H1 l (.loop { r1 with state := .busy })) n1 e2 T2 H2 n2 := hs2
      cases h14; subst h13
      have n1b : NoneOut H1 n1 (hset H1 l (.loop { r1 with state := .busy })) n1 := hset_none h5 n1
      have n2b := hset_none (o := .loop { r2 with state := cond (jumpOf e2).isNone .ready .done, pending := jumpOf e2 }) h11 n'
      have all := (hs.1.trans n1b).trans (hs2.1.trans n2b)
      refine ⟨all, fun β w cs q hq hv hW hf => ?_⟩
      obtain ⟨s, w1, _, _, w4, w5, w6, w7, _, w9⟩ := hW.loop h1 hq
      obtain ⟨p1, p2, p3⟩ := params_rel h3 hv w4 w9
      refine ⟨s.fn, (s.params.zip cs.toArray).foldl (fun tmps p => tmps.setIfInBounds p.1 p.2) s.tmps, s.assign, s.body, ?_, ?_⟩
      · have hsz : cs.toArray.size = s.params.size := by rw [← Array.length_toList (xs := s.params), w5, p1]; simp
        simp only [Instr.yield, Sem.run_bind, run_getLoop w1, Result.andThen_ok, hsz, ne_eq, not_true_eq_false, if_false, Sem.run_pure]
      · refine roundIn_of_wpIn trivial ?_
        have hle1 : n ≤ n1 := hs.1.1
        have hle2 : n1 ≤ n' := hs2.1.1
        have hf1 : Fresh β n n1 := hf.left hle2
        have hassign : s.assign = r.assign := w6
        have hbody : s.body = r.body := w7
        have htm : ((s.params.zip cs.toArray).foldl (fun tmps p => tmps.setIfInBounds p.1 p.2) s.tmps) = ((r.params.zip cs).foldl (fun tmps p => tmps.setIfInBounds p.1 p.2) s.tmps) := by
          rw [← Array.foldl_toList, Array.toList_zip, w5]
        rw [hassign, hbody]
        refine hs.use (ro := some q.1) (lo := n) (by rw [htm]; exact p2) (by rw [htm]; exact p3) hW hf1 ⟨q, hq, rfl⟩ (Mk.nil (Nat.le_refl _)) fun γ a1 v1 hp => ?_
        -- the round begins
        have hq1 : γ l = some q := hp.ext.le hf1 _ _ hq
        obtain ⟨s1, y1, y2, y3, y4, y5, y6, y7, ⟨x, y8, y9⟩, y10⟩ := hp.ext.wr.loop h5 hq1
        obtain ⟨t1, t2⟩ := loop_turn (n := n1) (r' := { r1 with state := .busy }) (s' := { s1 with state := .busy }) hp.ext.wr h5 hq1 y1 (.loop _ _ x rfl y3 y4 y5 y6 y7 y8 y9 y10)
        have hst : s1.state = .ready := by rw [y2]; unfold isReady at h7; split at h7 <;> first | assumption | cases h7
        refine ⟨_, by simp [Instr.beginRound, run_getLoop y1, t1, hst]; rfl, ?_⟩
        have hf2 : Fresh γ n1 n' := hf.right hp.ext hle1
        refine hs2.use (ro := some q.1) (lo := n) hp.tr hp.sz t2.wr hf2 ⟨q, hq1, rfl⟩ (hp.mks.ext t2 (fun i a b => by omega) (Nat.le_refl _)) fun δ a2 v2 hp2 => ?_
        -- it ends
        have hq2 : δ l = some q := hp2.ext.le hf2 _ _ hq1
        obtain ⟨v3, z1, z2⟩ := round_end (P := P) (n := n') hp2.ext.wr h11 hq2 (jumpOf e2)
        have hret : RetS P β (hget H) n w (tget T' 0) (hset H2 l (.loop { r2 with state := cond (jumpOf e2).isNone .ready .done, pending := jumpOf e2 })) n' (.returned (.bool (jumpOf e2).isNone)) v3 := by
          refine ⟨_, δ, rfl, by rw [h12]; exact .bool _, ?_⟩
          have e01 : Ext P β (hget H) n w γ (hget (hset H1 l (.loop { r1 with state := .busy }))) n1 _ := hp.ext.trans t2 hle1 (Nat.le_refl _) hf1
          have e02 := e01.trans hp2.ext hle1 hle2 hf
          exact e02.trans z2 (Nat.le_trans hle1 hle2) (Nat.le_refl _) hf
        cases e2 with
        | normal => exact ⟨_, v3, z1, hret⟩
        | ret => exact ⟨_, v3, z1, hret⟩
        | exit id => exact ⟨_, v3, z1, hret⟩
        | goto g => exact ⟨_, v3, z1, hret⟩

/- ## The statement -/
theorem range_sound (hN : NamesOk P) (hself : ∀ t H n, TaskS P t H n (self t H n)) {rd : Option Nat} {fn : FuncId} {sz : Nat} {T T' : Tm} {H H' : Hp} {n n' : Nat} {f : Operand} {ps : Array Tmp} {assign body : Code} {ex : Ex}
    (h : rangeStep self rd fn sz T H n f ps.toList assign body = .ok ex T' H' n') : CodeS P rd sz (.rangeFunc f ps assign body) T H n ex T' H' n' := by
  unfold rangeStep at h
  obtain ⟨h1, h2⟩ := condR_ok h
  obtain ⟨⟨d, Hd, lp⟩, h3, h4⟩ := onOR_ok h2
  simp only at h4
  -- the call
  unfold rangeEnd at h4
  split at h4
  · rename_i e3 T3 H3 n3 hcall
    obtain ⟨r, h5, h6⟩ := onOR_ok h4
    obtain ⟨h7, h8⟩ := condR_ok h6
    unfold rangeCall at hcall
    split at hcall
    · rename_i g first cap hv
      have hs := hself (.call g (first.toList ++ (.func (.yield lp) #[] #[]) :: cap.toList)) (hset Hd lp (.loop ⟨.ready, none, fn, T, ps.toList, assign, body, d, sz⟩)) (lp + 1)
      rw [show Nat.succ lp = lp + 1 from rfl] at hcall
      rw [hcall] at hs
      obtain ⟨c1, ⟨fnd, cd, c2, c3⟩, c4⟩ := hs
      -- what the jump comes to
      have jump : NoneOut (hset H3 lp (.loop { r with state := .exhausted })) n3 H' n' ∧ ∀ (β : Bm) (w : World) (a : Act) (ro : Option Nat) (lo : Nat) (Q : Exit → Act → World → Prop), TR β T a.tmps → a.tmps.size = sz → WR P β (hget (hset H3 lp (.loop { r with state := .exhausted }))) w → Fresh β n3 n' → RdR β rd ro → Mk β (hget (hset H3 lp (.loop { r with state := .exhausted }))) w lo n3 a.defers →
          (∀ γ a' w', Pst P β (hget (hset H3 lp (.loop { r with state := .exhausted }))) n3 w lo sz T' H' n' γ a' w' → Q (exOf ex) a' w') → (match r.pending with | none => Q .normal a w | some c => c.wpIn (fen ro) 0 P Q a w) := by
        unfold rangeJump at h8
        split at h8
        · rename_i hpn
          cases h8
          refine ⟨NoneOut.refl _ _, fun β w a ro lo Q hT hz hW hf hr hM hQ => ?_⟩
          rw [hpn]
          exact hQ β a w ⟨Ext.refl hW, hT, hz, hM⟩
        · rename_i c hpn
          have hs := hself (.code rd fn sz c T) (hset H3 lp (.loop { r with state := .exhausted })) n3
          rw [h8] at hs
          have hs : CodeS P rd sz c T _ n3 ex T' H' n' := hs
          refine ⟨hs.1, fun β w a ro lo Q hT hz hW hf hr hM hQ => ?_⟩
          rw [hpn]
          exact hs.use hT hz hW hf hr hM hQ
      obtain ⟨j1, j2⟩ := jump
      have n3b : NoneOut H3 n3 (hset H3 lp (.loop { r with state := .exhausted })) n3 := hset_none h5 n3
      -- the two ways to begin
      have begun : n ≤ lp ∧ NoneOut H n Hd lp ∧ ∀ (β : Bm) (w : World) (a : Act) (ro : Option Nat) (lo : Nat), WR P β (hget H) w → Fresh β n n' → RdR β rd ro → lp ≤ n' → Mk β (hget H) w lo n a.defers → ∀ fnc : FuncId,
          ∃ (γ : Bm) (w1 : World) (dl : Nat) (mks : List Deferred), Ext P β (hget H) n w γ (hget Hd) lp w1 ∧ (∃ x, γ d = some x ∧ x.1 = dl) ∧ Mk γ (hget Hd) w1 lo lp (mks ++ a.defers) ∧
            (Instr.enterLoop fnc a.tmps ps assign body ro).run P w = .ok (w1.heap.size, mks) { w1 with heap := w1.heap.push (.loop { state := .ready, pending := none, fn := fnc, tmps := a.tmps, params := ps, assign, body, defers := dl }) } := by
        unfold rangeD at h3
        split at h3
        · rename_i l
          cases h0 : loopAt H l with
          | none => rw [h0] at h3; cases h3
          | some r0 =>
            rw [h0] at h3; cases h3
            refine ⟨Nat.le_refl _, NoneOut.refl _ _, fun β w a ro lo hW hf hr _ hM fnc => ?_⟩
            cases ro with
            | none => exact hr.elim
            | some m =>
              obtain ⟨q, q1, rfl⟩ := hr
              obtain ⟨s, w1, _, _, _, _, _, _, ⟨x, x1, x2⟩, _⟩ := hW.loop h0 q1
              refine ⟨β, w, s.defers, [], Ext.refl hW, ⟨x, x1, x2⟩, hM, ?_⟩
              simp only [Instr.enterLoop, Sem.run_bind, run_getLoop w1, Result.andThen_ok, Sem.run_pure, run_newObj]
        · cases h3
          refine ⟨by omega, ⟨by omega, fun i hi h0 => by rw [hget_hset, if_neg (by omega)]; exact h0⟩, fun β w a ro lo hW hf hr hle hM fnc => ?_⟩
          cases ro with
          | some m => exact hr.elim
          | none =>
            have hn := hf n (Nat.le_refl _) (by omega)
            have e := Ext.new hW hn (m := 0) (.defd (P := P) (β := β) (m := 0) (some []))
            refine ⟨_, _, w.heap.size, [mark1 w.heap.size], e, ⟨_, upd_self _ _ _, rfl⟩, ?_, ?_⟩
            · obtain ⟨m0, ids, m1, m2, m3⟩ := hM
              refine ⟨by omega, (n, (w.heap.size, 0)) :: ids, by simp [m1], fun x hx => ?_, ?_⟩
              · rcases List.mem_cons.1 hx with rfl | hx
                · exact ⟨m0, by simp, upd_self _ _ _, by rw [hget_hset, if_pos rfl], by simp⟩
                · obtain ⟨a1, a2, a3, a4, a5⟩ := m2 x hx
                  exact ⟨a1, by omega, upd_le hn _ _ a3, e.keep _ a4, by rw [e.kept _ _ a4 a3]; exact a5⟩
              · simp only [List.map_cons, List.nodup_cons]
                refine ⟨fun hm => ?_, m3⟩
                obtain ⟨x, hx, hxe⟩ := List.mem_map.1 hm
                have := (m2 x hx).2.1
                omega
            · simp only [Instr.enterLoop, Sem.run_bind, run_newObj, Result.andThen_ok, Sem.run_pure]
              rfl
      obtain ⟨b0, b00, begun⟩ := begun
      have s1 : NoneOut Hd lp (hset Hd lp (.loop ⟨.ready, none, fn, T, ps.toList, assign, body, d, sz⟩)) (lp + 1) := ⟨by omega, fun i hi h0 => by rw [hget_hset, if_neg (by omega)]; exact h0⟩
      have l1 : lp + 1 ≤ n3 := c1.1
      have l2 : n3 ≤ n' := j1.1
      refine CodeS.mk' (by simp) (b00.trans (s1.trans (c1.trans (n3b.trans j1)))) fun β w a ro lo Q hT hz hW hf hr hM hQ => ?_
      refine wpIn_rangeFunc fun fnc _ => ?_
      obtain ⟨γ, w1, dl, mks, e1, ⟨x, b2, b3⟩, b4, b5⟩ := begun β w a ro lo hW hf hr (by omega) hM fnc
      have f1 : Fresh β n lp := hf.left (by omega)
      have g1 : Fresh γ lp n' := hf.right e1 b0
      have hlp : γ lp = none := g1 lp (Nat.le_refl _) (by omega)
      have lw1 := e1.le f1
      have e2 := Ext.new e1.wr hlp (m := 0) (ObR.loop (P := P) (β := γ) (m := 0) ⟨.ready, none, fn, T, ps.toList, assign, body, d, sz⟩ { state := .ready, pending := none, fn := fnc, tmps := a.tmps, params := ps, assign, body, defers := dl } x rfl rfl (hT.mono lw1) rfl rfl rfl b2 b3 hz)
      have lw2 := upd_le (b := (w1.heap.size, 0)) hlp
      have e12 := e1.trans e2 b0 (by omega) (hf.left (by omega))
      have g2 : Fresh (upd γ lp (w1.heap.size, 0)) (lp + 1) n' := hf.right e12 (by omega)
      have hfr := ev_rel (β := β) (T := T) (a := a) (x := f) (fun t _ => hT t) h1
      rw [hv] at hfr
      generalize hρ : a.eval f = X at hfr
      cases hfr with
      | func _ _ _ first' cap' k1 k2 =>
        have hargs : VL (upd γ lp (w1.heap.size, 0)) (first.toList ++ (.func (.yield lp) #[] #[]) :: cap.toList) (first'.toList ++ (.func (.yield w1.heap.size) #[] #[]) :: cap'.toList) :=
          ((AllR.mono (fun _ _ y => (y.mono lw1).mono lw2) k1)).append (.cons (.yield lp (w1.heap.size, 0) (upd_self _ _ _)) (AllR.mono (fun _ _ y => (y.mono lw1).mono lw2) k2))
        have hcalls := c4 _ _ _ hargs e2.wr (g2.left l2)
        have hb : fnd.body.isNone = false := by rw [c3]; rfl
        have he : (first' ++ #[.func (.yield w1.heap.size) #[] #[]] ++ cap' : Array Value) = (first'.toList ++ (.func (.yield w1.heap.size) #[] #[]) :: cap'.toList).toArray := by
          apply Array.ext'
          simp
        refine ⟨w1.heap.size, mks, _, { target := .fn (.func g) cap', args := first' ++ #[.func (.yield w1.heap.size) #[] #[]] }, { w1 with heap := w1.heap.push (.loop { state := .ready, pending := none, fn := fnc, tmps := a.tmps, params := ps, assign, body, defers := dl }) }, g, (first'.toList ++ (.func (.yield w1.heap.size) #[] #[]) :: cap'.toList).toArray, { w1 with heap := w1.heap.push (.loop { state := .ready, pending := none, fn := fnc, tmps := a.tmps, params := ps, assign, body, defers := dl }) }, b5, ?_, fun _ _ => trivial, ?_, fun h => by simp at h, ?_⟩
        · simp only [resolve, List.map_toArray, List.map_cons, List.map_nil, hρ, Deferred.ofValue]
          rfl
        · simp only [invoke, callFunc, Sem.run_bind, run_program, Result.andThen_ok, c2, hN g fnd c2, Bool.false_eq_true, if_false, hb, he, Sem.run_pure]
        · refine CallsIn.mono (F := fen ro) hcalls ?_
          rintro e w3 ⟨cc, ε, rfl, _, e3⟩
          have lw3 := e3.le (g2.left l2)
          have e123 := e12.trans e3 (by omega) l1 (hf.left l2)
          have hq3 : ε lp = some (w1.heap.size, 0) := lw3 _ _ (upd_self _ _ _)
          obtain ⟨s, y1, y2, y3, y4, y5, y6, y7, ⟨z, y8, y9⟩, y10⟩ := e3.wr.loop h5 hq3
          obtain ⟨t1, t2⟩ := loop_turn (n := n3) (r' := { r with state := .exhausted }) (s' := { s with state := .exhausted }) e3.wr h5 hq3 y1 (.loop _ _ z rfl y3 y4 y5 y6 y7 y8 y9 y10)
          refine ⟨r.pending, { w3 with heap := w3.heap.setIfInBounds w1.heap.size (.loop { s with state := .exhausted }) }, ?_, ?_⟩
          · have hnb : (s.state == LoopState.busy) = false := by
              rw [y2]
              cases hst : r.state <;> first | rfl | (rw [hst] at h7; cases h7)
            simp only [Instr.endLoop, Sem.run_bind, run_getLoop y1, Result.andThen_ok, hnb, Bool.false_eq_true, if_false, t1, Sem.run_pure]
            rw [y3]
          · have eall := e123.trans t2 (by omega) (Nat.le_refl _) (hf.left l2)
            have lall := eall.le (hf.left l2)
            have hM3 : Mk ε (hget (hset H3 lp (.loop { r with state := .exhausted }))) _ lo n3 (mks ++ a.defers) :=
              ((b4.ext e2 (g1.left (by omega)) (by omega)).ext e3 (g2.left l2) l1).ext t2 (fun i a b => by omega) (Nat.le_refl _)
            exact j2 ε _ { a with defers := mks ++ a.defers } ro lo Q (hT.mono lall) hz t2.wr (hf.right eall (by omega)) (hr.mono lall) hM3 fun η a' w' hp => hQ η a' w' ⟨eall.trans hp.ext (by omega) l2 hf, hp.tr, hp.sz, hp.mks⟩
    · cases hcall
  · cases h4
end
end Go.Xec
