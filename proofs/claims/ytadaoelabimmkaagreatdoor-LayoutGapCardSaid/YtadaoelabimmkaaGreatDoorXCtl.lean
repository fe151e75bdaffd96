/-
  THE EXECUTOR: control. What a run of the executor's says of the model's: the predicates, and regions in the order of the text.
-/
import Derived.Test.YtadaoelabimmkaaGreatDoorXOps4
import Derived.RangeFuncLeaves
import Derived.OrdersIn
import Derived.LoopNIn
namespace Go.Xec
open Go

def fen (ro : Option Nat) : Fence := { Fence.wide with round := ro }
@[simp] theorem fen_fn (ro : Option Nat) (f : FuncId) : (fen ro).fn f = True := rfl
@[simp] theorem fen_depth (ro : Option Nat) : (fen ro).depth = none := rfl
@[simp] theorem fen_round (ro : Option Nat) : (fen ro).round = ro := rfl
def exOf : Ex → Exit
  | .normal => .normal
  | .exit id => .exit id
  | .ret => .ret
  | .goto l => .goto l
/-- what was none and is not numbered here stays none -/
def NoneOut (H : Hp) (n : Nat) (H' : Hp) (n' : Nat) : Prop := n ≤ n' ∧ ∀ i, (i < n ∨ n' ≤ i) → hget H i = none → hget H' i = none
theorem NoneOut.refl (H : Hp) (n : Nat) : NoneOut H n H n := ⟨Nat.le_refl _, fun _ _ h => h⟩
theorem NoneOut.trans {H H' H'' : Hp} {n n' n'' : Nat} (h1 : NoneOut H n H' n') (h2 : NoneOut H' n' H'' n'') : NoneOut H n H'' n'' :=
  ⟨Nat.le_trans h1.1 h2.1, fun i hi h0 => h2.2 i (by have := h1.1; have := h2.1; omega) (h1.2 i (by have := h1.1; have := h2.1; omega) h0)⟩

/-- a mark that a range over a function leaves among the deferred calls -/
def mark1 (r : Nat) : Deferred := { target := .collected r, args := #[] }
def Mk (β : Bm) (G : Gp) (w : World) (lo n : Nat) (ds : List Deferred) : Prop :=
  lo ≤ n ∧ ∃ ids : List (Nat × (Nat × Nat)), ds = ids.map (fun x => mark1 x.2.1) ∧ (∀ x ∈ ids, lo ≤ x.1 ∧ x.1 < n ∧ β x.1 = some x.2 ∧ G x.1 = some .defd ∧ w.heap[x.2.1]? = some (.deferred (some []))) ∧ (ids.map (·.1)).Nodup
theorem Mk.nil {β : Bm} {G : Gp} {w : World} {lo n : Nat} (h : lo ≤ n) : Mk β G w lo n [] := ⟨h, [], rfl, (fun _ h => by cases h), List.nodup_nil⟩
theorem Mk.ext {P : Program} {β γ : Bm} {G G' : Gp} {w w' : World} {lo n n' : Nat} {ds : List Deferred} (h : Mk β G w lo n ds) (e : Ext P β G n w γ G' n' w') (hf : Fresh β n n') (hle : n ≤ n') : Mk γ G' w' lo n' ds := by
  obtain ⟨h0, ids, h1, h2, h3⟩ := h
  exact ⟨Nat.le_trans h0 hle, ids, h1, fun x hx => by
    obtain ⟨a1, a2, a3, a4, a5⟩ := h2 x hx
    exact ⟨a1, by omega, e.le hf _ _ a3, e.keep _ a4, by rw [e.kept _ _ a4 a3]; exact a5⟩, h3⟩

def RdR (β : Bm) : Option Nat → Option Nat → Prop
  | none, none => True
  | some l, some m => ∃ q, β l = some q ∧ q.1 = m
  | _, _ => False
theorem RdR.mono {β γ : Bm} {rd ro : Option Nat} (h : RdR β rd ro) (hb : ∀ i c, β i = some c → γ i = some c) : RdR γ rd ro := by
  cases rd <;> cases ro <;> first | exact h | (obtain ⟨q, h1, h2⟩ := h; exact ⟨q, hb _ _ h1, h2⟩)

/-- a state of the model's that a state of the executor's stands for, behind (β, G, n, w) -/
structure Pst (P : Program) (β : Bm) (G : Gp) (n : Nat) (w : World) (lo sz : Nat) (T' : Tm) (H' : Hp) (n' : Nat) (γ : Bm) (a' : Act) (w' : World) : Prop where
  ext : Ext P β G n w γ (hget H') n' w'
  tr : TR γ T' a'.tmps
  sz : a'.tmps.size = sz
  mks : Mk γ (hget H') w' lo n' a'.defers

def WpX (P : Program) (m : Nat) (F : Fence) (c : Code) (Q : Exit → Act → World → Prop) (a : Act) (w : World) : Prop := match c with
  | .loop b => Code.roundsIn F 0 P b Q m a w
  | c => c.wpIn F 0 P Q a w
theorem WpX.wp {P : Program} {m : Nat} {F : Fence} {c : Code} {Q : Exit → Act → World → Prop} {a : Act} {w : World} (h : WpX P m F c Q a w) : c.wpIn F 0 P Q a w := by
  cases c <;> first | exact h | exact wpIn_loop_rounds m h

def CodeS (P : Program) (rd : Option Nat) (sz : Nat) (c : Code) (T : Tm) (H : Hp) (n : Nat) (ex : Ex) (T' : Tm) (H' : Hp) (n' : Nat) : Prop :=
  NoneOut H n H' n' ∧ ∃ m, ∀ (β : Bm) (w : World) (a : Act) (ro : Option Nat) (lo : Nat) (Q : Exit → Act → World → Prop), TR β T a.tmps → a.tmps.size = sz → WR P β (hget H) w → Fresh β n n' → RdR β rd ro → Mk β (hget H) w lo n a.defers →
    (∀ γ a' w', Pst P β (hget H) n w lo sz T' H' n' γ a' w' → Q (exOf ex) a' w') → WpX P m (fen ro) c Q a w
/-- what a call that returns leaves -/
def RetS (P : Program) (β : Bm) (G : Gp) (n : Nat) (w : World) (v : Value) (H' : Hp) (n' : Nat) (e : Ending) (w' : World) : Prop :=
  ∃ c γ, e = .returned c ∧ VR γ v c ∧ Ext P β G n w γ (hget H') n' w'
def CallS (P : Program) (f : FuncId) (args : List Value) (H : Hp) (n : Nat) (v : Value) (H' : Hp) (n' : Nat) : Prop :=
  NoneOut H n H' n' ∧ (∃ fn c, P.funcs[f]? = some fn ∧ fn.body = some c) ∧ ∀ (β : Bm) (w : World) (cs : List Value), VL β args cs → WR P β (hget H) w → Fresh β n n' →
    CallsIn Fence.wide 0 P f cs.toArray w (RetS P β (hget H) n w v H' n')
def YieldS (P : Program) (l : Nat) (args : List Value) (H : Hp) (n : Nat) (v : Value) (H' : Hp) (n' : Nat) : Prop :=
  NoneOut H n H' n' ∧ ∀ (β : Bm) (w : World) (cs : List Value) (q : Nat × Nat), β l = some q → VL β args cs → WR P β (hget H) w → Fresh β n n' →
    ∃ f tmps assign body, (Instr.yield q.1 cs.toArray).run P w = .ok (.round q.1 f tmps assign body) w ∧ RoundIn Fence.wide 0 P q.1 f tmps assign body w (RetS P β (hget H) n w v H' n')
def TaskS (P : Program) : Task → Hp → Nat → R → Prop
  | .code rd _ sz c T, H, n, .ok ex T' H' n' => CodeS P rd sz c T H n ex T' H' n'
  | .call f args, H, n, .ok _ T' H' n' => CallS P f args H n (tget T' 0) H' n'
  | .yield l args, H, n, .ok _ T' H' n' => YieldS P l args H n (tget T' 0) H' n'
  | _, _, _, .bad => True
/-- the program has no function by the one name that the model calls by itself -/
def NamesOk (P : Program) : Prop := ∀ (f : FuncId) (fn : Func), P.funcs[f]? = some fn → (fn.name == "runtime.NumGoroutine") = false

section
variable {P : Program} {self : Task → Hp → Nat → R}

/- ## One operation -/
theorem allOkX_ok : ∀ {l : List Operand}, allOkX l = true → ∀ x ∈ l, okX x = true
  | [], _, _, hx => by cases hx
  | y :: l, h, x, hx => by
    have h' : cond (okX y) (allOkX l) false = true := h
    obtain ⟨h1, h2⟩ := cond_and h'
    rcases List.mem_cons.1 hx with rfl | hx
    · exact h1
    · exact allOkX_ok h2 x hx
theorem ev_rel {β : Bm} {T : Tm} {a : Act} {x : Operand} (hT : ∀ t, x = .tmp t → VR β (tget T t) (a.tmps.getD t undef)) (hx : okX x = true) : VR β (ev T x) (a.eval x) := by
  cases x with
  | tmp t => exact hT t rfl
  | const v => exact plain_rel hx
  | global g => cases hx
  | func f => exact .func f #[] #[] #[] #[] .nil .nil

/-- what one operation of a region comes to -/
def StepS (P : Program) (all : List Oper) (o : Oper) (T : Tm) (H : Hp) (n : Nat) (v : Value) (H' : Hp) (n' : Nat) : Prop :=
  NoneOut H n H' n' ∧ ∀ (β : Bm) (w : World) (a : Act) (ro : Option Nat) (K : Act → World → Prop) (Q : Exit → Act → World → Prop) (ops : Array Oper) (i : Nat), ops.toList = all → ops[i]? = some o →
    (∀ t ∈ looks all o, VR β (tget T t) (a.tmps.getD t undef)) → WR P β (hget H) w → Fresh β n n' →
    (∀ γ c w', VR γ v c → Ext P β (hget H) n w γ (hget H') n' w' → K (a.put o.dst c) w') → wpOpIn (fen ro) 0 P ops Q i K a w

theorem tmp_looks {all : List Oper} {o : Oper} {t : Tmp} (h : (.tmp t : Operand) ∈ o.op.operands) : t ∈ looks all o := by
  unfold looks
  exact List.mem_append_right _ (List.mem_filterMap.2 ⟨.tmp t, by simpa using h, rfl⟩)

/-- an operation that is wanted -/
def KS (P : Program) (o : Oper) (T : Tm) (H : Hp) (n : Nat) (v : Value) (H' : Hp) (n' : Nat) : Prop :=
  NoneOut H n H' n' ∧ ∀ (β : Bm) (w : World) (a : Act) (ro : Option Nat) (K : Act → World → Prop) (Q : Exit → Act → World → Prop),
    (∀ t, (.tmp t : Operand) ∈ o.op.operands → VR β (tget T t) (a.tmps.getD t undef)) → WR P β (hget H) w → Fresh β n n' →
    (∀ γ c w', VR γ v c → Ext P β (hget H) n w γ (hget H') n' w' → K (a.put o.dst c) w') → o.wpIn (fen ro) 0 P a w K Q

theorem op_KS {o : Oper} {T : Tm} {H H' : Hp} {n n' : Nat} {v : Value} (hx : allOkX o.op.operands.toList = true) (h : (compO P o).f T H n = .ok v H' n') : KS P o T H n v H' n' := by
  obtain ⟨h1, h2, h3⟩ := op_sound h
  refine ⟨⟨h1, h2⟩, fun β w a ro K Q hT hW hf hK => ?_⟩
  obtain ⟨r, c, w', γ, r1, r2, r3, r4⟩ := h3 β w a.eval (fun x hm => ev_rel (fun t ht => hT t (ht ▸ hm)) (allOkX_ok hx x (by simpa using hm))) hW hf
  refine ⟨fun _ _ => trivial, ?_⟩
  have hnd : ∀ c, o.op ≠ .defer c := fun c hc => by
    have : compO P o = coBad := by unfold compO; rw [hc]
    rw [this] at h; cases h
  rw [Oper.semAt_eq _ _ _ hnd, r1]
  cases r with
  | value u => cases r2; exact hK γ _ w' r3 r4
  | skip => cases r2; exact hK γ _ w' r3 r4
  | _ => cases r2
theorem args_rel {β : Bm} {T : Tm} {a : Act} : ∀ (l : List Operand), (∀ x ∈ l, VR β (ev T x) (a.eval x)) → VL β (l.map (ev T)) (l.map a.eval)
  | [], _ => .nil
  | x :: l, h => .cons (h x (by simp)) (args_rel l fun y hy => h y (by simp [hy]))
theorem call_KS (hN : NamesOk P) (hself : ∀ t H n, TaskS P t H n (self t H n)) {o : Oper} {f : Operand} {args : Array Operand} {ts : Array TypeId} (ho : o.op = .call { callee := .value f, args, argTypes := ts }) {T : Tm} {H H' : Hp} {n n' : Nat} {v : Value}
    (hf : okX f = true) (ha : allOkX args.toList = true) (h : runCallV self H n (args.toList.map (ev T)) (ev T f) = .ok v H' n') : KS P o T H n v H' n' := by
  have hnd : ∀ c, o.op ≠ .defer c := fun c => by rw [ho]; simp
  have hrel : ∀ (β : Bm) (a : Act), (∀ t, (.tmp t : Operand) ∈ o.op.operands → VR β (tget T t) (a.tmps.getD t undef)) → VR β (ev T f) (a.eval f) ∧ VL β (args.toList.map (ev T)) (args.toList.map a.eval) := fun β a hT =>
    ⟨ev_rel (fun t ht => hT t (by subst ht; simp [ho, Op.operands, Call.operands])) hf, args_rel _ fun x hx => ev_rel (fun t ht => hT t (by subst ht; simp only [ho, Op.operands, Call.operands]; exact Array.mem_append.2 (.inr (by simpa using hx)))) (allOkX_ok ha x hx)⟩
  unfold runCallV at h
  split at h
  · rename_i g first cap hv
    have hs := hself (.call g (first.toList ++ args.toList.map (ev T) ++ cap.toList)) H n
    unfold ofCall at h
    split at h
    · rename_i ex T2 H2 n2 hr
      cases h
      rw [hr] at hs
      obtain ⟨s1, ⟨fn, c, s2, s3⟩, s4⟩ := hs
      refine ⟨s1, fun β w a ro K Q hT hW hfr hK => ?_⟩
      obtain ⟨r1, r2⟩ := hrel β a hT
      rw [hv] at r1
      generalize hρ : a.eval f = X at r1
      cases r1 with
      | func _ _ _ first' cap' k1 k2 =>
        have hcall := s4 β w (first'.toList ++ args.toList.map a.eval ++ cap'.toList) ((k1.append r2).append k2) hW hfr
        refine ⟨fun _ _ => trivial, ?_⟩
        rw [Oper.semAt_eq _ _ _ hnd]
        have hb : fn.body.isNone = false := by rw [s3]; rfl
        have hrun : (execOp a.eval o).run P w = .ok (.enter g (first'.toList ++ args.toList.map a.eval ++ cap'.toList).toArray) w := by
          have he : (first' ++ args.map a.eval ++ cap' : Array Value) = (first'.toList ++ args.toList.map a.eval ++ cap'.toList).toArray := by
            apply Array.ext'
            simp
          simp only [execOp, ho, resolve, hρ, Deferred.ofValue, Sem.run_bind, Sem.run_pure, Result.andThen_ok, invoke, callFunc, run_program, s2, hN g fn s2, Bool.false_eq_true, if_false, hb, he]
        rw [hrun, Oper.uponIn_enter]
        refine ⟨fun h => by simp at h, ?_⟩
        refine CallsIn.mono (F := fen ro) hcall ?_
        rintro e w' ⟨cc, γ, rfl, q1, q2⟩
        exact hK γ cc w' q1 q2
    · cases h
  · rename_i l _ _ hv
    have hs := hself (.yield l (args.toList.map (ev T))) H n
    unfold ofCall at h
    split at h
    · rename_i ex T2 H2 n2 hr
      cases h
      rw [hr] at hs
      obtain ⟨s1, s4⟩ := hs
      refine ⟨s1, fun β w a ro K Q hT hW hfr hK => ?_⟩
      obtain ⟨r1, r2⟩ := hrel β a hT
      rw [hv] at r1
      generalize hρ : a.eval f = X at r1
      cases r1 with
      | yield _ q k1 =>
        obtain ⟨f', tmps, assign, body, y1, y2⟩ := s4 β w _ q k1 r2 hW hfr
        refine ⟨fun _ _ => trivial, ?_⟩
        rw [Oper.semAt_eq _ _ _ hnd]
        have hrun : (execOp a.eval o).run P w = .ok (.round q.1 f' tmps assign body) w := by
          simp only [execOp, ho, resolve, hρ, Deferred.ofValue, Sem.run_bind, Sem.run_pure, Result.andThen_ok, invoke]
          rw [← y1]
          congr 2
          apply Array.ext'
          simp
        rw [hrun, Oper.uponIn_round]
        refine ⟨fun h => by simp at h, ?_⟩
        refine RoundIn.mono (F := fen ro) y2 ?_
        rintro e w' ⟨cc, γ, rfl, q1, q2⟩
        exact hK γ cc w' q1 q2
    · cases h
  · cases h
theorem stepK_sound (hN : NamesOk P) (hself : ∀ t H n, TaskS P t H n (self t H n)) {o : Oper} {T : Tm} {H H' : Hp} {n n' : Nat} {v : Value} (h : stepK self T H n (compK P o) = .ok v H' n') : KS P o T H n v H' n' := by
  unfold compK at h
  split at h
  · rename_i f args ts ho
    cases hc : cond (okX f) (allOkX args.toList) false with
    | false => rw [hc] at h; cases h
    | true =>
      rw [hc, cond_true] at h
      obtain ⟨c1, c2⟩ := cond_and hc
      exact call_KS hN hself ho c1 c2 h
  · cases hc : allOkX o.op.operands.toList with
    | false => rw [hc] at h; cases h
    | true => rw [hc, cond_true] at h; exact op_KS hc h

theorem wanted_of {β : Bm} {T : Tm} {a : Act} {ops : Array Oper} {all : List Oper} (hall : ops.toList = all) {o : Oper} {j : Nat} {want : Bool} {t : Tmp} (hg : o.guard = some (j, want)) (ht : (lget all j).bind (·.dst) = some t) (hT : VR β (tget T t) (a.tmps.getD t undef)) :
    Region.wanted o (yielded ops a.tmps) = (match tget T t with | .bool b => cond want b (!b) | _ => false) := by
  have e : ((ops[j]?).bind (·.dst)) = some t := by rw [← Array.getElem?_toList, hall, ← lget_eq]; exact ht
  unfold Region.wanted
  rw [hg]
  simp only [yielded, e, Option.bind_some]
  by_cases hlt : t < a.tmps.size
  · have h1 : a.tmps[t]? = some (a.tmps.getD t undef) := by simp [hlt]
    rw [h1]
    generalize tget T t = X at hT
    generalize a.tmps.getD t undef = Y at hT
    cases hT <;> first | rfl | (rename_i b; cases b <;> cases want <;> rfl)
  · have h1 : a.tmps[t]? = none := Array.getElem?_eq_none (Nat.le_of_not_lt hlt)
    have h2 : a.tmps.getD t undef = undef := by simp [Array.getD, hlt]
    rw [h1]
    rw [h2] at hT
    generalize tget T t = X at hT
    have : undef = .tuple #[] := rfl
    rw [this] at hT
    cases hT
    rfl
theorem stepI_sound (hN : NamesOk P) (hself : ∀ t H n, TaskS P t H n (self t H n)) {sz : Nat} {all : List Oper} {o : Oper} {T : Tm} {H H' : Hp} {n n' : Nat} {v : Value} (h : stepI self T H n (compI P sz all o) = .ok v H' n') :
    StepS P all o T H n v H' n' ∧ (compI P sz all o).dst = o.dst ∧ (∀ d, o.dst = some d → d < sz) := by
  unfold compI at h ⊢
  cases hd : dstOk sz o.dst with
  | false => rw [hd] at h; cases h
  | true =>
    rw [hd, cond_true] at h
    rw [cond_true]
    have hdst : ∀ d, o.dst = some d → d < sz := fun d e => by rw [e] at hd; exact ble_le hd
    have dead : ∀ {v : Value} {H' : Hp} {n' : Nat}, stepI self T H n ⟨none, o.dst, .bad⟩ = .ok v H' n' → False := fun h => by cases h
    split at h
    · rename_i hg
      refine ⟨?_, rfl, hdst⟩
      obtain ⟨s1, s2⟩ := stepK_sound hN hself (o := o) (T := T) (H := H) (n := n) h
      refine ⟨s1, fun β w a ro K Q ops i hall hi hT hW hf hK => ?_⟩
      unfold wpOpIn
      simp only [hi]
      have hw : Region.wanted o (yielded ops a.tmps) = true := by unfold Region.wanted; rw [hg]
      rw [if_pos hw]
      exact s2 β w a ro K Q (fun t ht => hT t (tmp_looks ht)) hW hf hK
    · rename_i j want hg
      split at h
      · rename_i t ht
        refine ⟨?_, rfl, hdst⟩
        have hlook : t ∈ looks all o := by unfold looks; rw [hg]; exact List.mem_append_left _ (by simp [ht])
        have h : (match tget T t with | .bool b => cond (cond want b (!b)) (stepK self T H n (compK P o)) (.ok undef H n) | _ => .ok undef H n) = .ok v H' n' := h
        have skip : (∀ (β : Bm) (a : Act) (ops : Array Oper), ops.toList = all → VR β (tget T t) (a.tmps.getD t undef) → Region.wanted o (yielded ops a.tmps) = false) → StepS P all o T H n undef H n := fun hw =>
          ⟨NoneOut.refl _ _, fun β w a ro K Q ops i hall hi hT hW hf hK => by
            unfold wpOpIn
            simp only [hi]
            rw [if_neg (by rw [hw β a ops hall (hT t hlook)]; simp)]
            exact ⟨fun _ _ => trivial, hK β undef w (undef_rel β) (Ext.refl hW)⟩⟩
        split at h
        · rename_i b hb
          cases hc : cond want b (!b) with
          | true =>
            rw [hc, cond_true] at h
            obtain ⟨s1, s2⟩ := stepK_sound hN hself (o := o) (T := T) (H := H) (n := n) h
            refine ⟨s1, fun β w a ro K Q ops i hall hi hT hW hf hK => ?_⟩
            unfold wpOpIn
            simp only [hi]
            rw [if_pos (by rw [wanted_of hall hg ht (hT t hlook), hb]; exact hc)]
            exact s2 β w a ro K Q (fun t ht => hT t (tmp_looks ht)) hW hf hK
          | false =>
            rw [hc, cond_false] at h
            cases h
            exact skip fun β a ops hall hT => by rw [wanted_of hall hg ht hT, hb]; exact hc
        · rename_i hne
          cases h
          refine skip fun β a ops hall hT => ?_
          rw [wanted_of hall hg ht hT]
          split
          · rename_i b hb; exact absurd hb (hne b)
          · rfl
      · exact (dead h).elim

/- ## A region in the order of its text -/
theorem put_tr {β : Bm} {T : Tm} {a : Act} {d : Option Tmp} {v c : Value} {sz : Nat} (h : TR β T a.tmps) (hs : a.tmps.size = sz) (hd : ∀ t, d = some t → t < sz) (hv : VR β v c) : TR β (put T d v) (a.put d c).tmps ∧ (a.put d c).tmps.size = sz ∧ (a.put d c).defers = a.defers := by
  cases d with
  | none => exact ⟨h, hs, rfl⟩
  | some t => exact ⟨h.set (by rw [hs]; exact hd t rfl) hv, by simp [Act.put, hs], rfl⟩
theorem runOps_cons (sz : Nat) (all : List Oper) (o : Oper) (rest : List Oper) (T : Tm) (H : Hp) (n : Nat) : runOps P self sz all (o :: rest) T H n = nextO (compI P sz all o).dst T (runOps P self sz all rest) (stepI self T H n (compI P sz all o)) := rfl
theorem runOps_sound (hN : NamesOk P) (hself : ∀ t H n, TaskS P t H n (self t H n)) {sz : Nat} {all : List Oper} {ops : Array Oper} (hall : ops.toList = all) : ∀ (rest pre : List Oper) (T : Tm) (H : Hp) (n : Nat) (ex : Ex) (T' : Tm) (H' : Hp) (n' : Nat), all = pre ++ rest →
    runOps P self sz all rest T H n = .ok ex T' H' n' → ex = .normal ∧ NoneOut H n H' n' ∧ ∀ (β : Bm) (w : World) (a : Act) (ro : Option Nat) (lo : Nat) (Q : Exit → Act → World → Prop), TR β T a.tmps → a.tmps.size = sz → WR P β (hget H) w → Fresh β n n' → Mk β (hget H) w lo n a.defers →
      (∀ γ a' w', Pst P β (hget H) n w lo sz T' H' n' γ a' w' → Q .normal a' w') → wpOpsIn (fen ro) 0 P ops Q (List.range' pre.length rest.length) a w
  | [], pre, T, H, n, ex, T', H', n', _, h => by
    cases h
    refine ⟨rfl, NoneOut.refl _ _, fun β w a ro lo Q hT hs hW _ hM hQ => ?_⟩
    exact hQ β a w ⟨Ext.refl hW, hT, hs, hM⟩
  | o :: rest, pre, T, H, n, ex, T', H', n', hp, h => by
    rw [runOps_cons] at h
    cases hst : stepI self T H n (compI P sz all o) with
    | bad => rw [hst] at h; cases h
    | ok v H1 n1 =>
      rw [hst] at h
      obtain ⟨⟨s1, s2⟩, s3, s4⟩ := stepI_sound hN hself hst
      have h : runOps P self sz all rest (put T (compI P sz all o).dst v) H1 n1 = .ok ex T' H' n' := h
      rw [s3] at h
      obtain ⟨i1, i2, i3⟩ := runOps_sound hN hself hall rest (pre ++ [o]) _ _ _ ex T' H' n' (by rw [hp]; simp) h
      refine ⟨i1, s1.trans i2, fun β w a ro lo Q hT hs hW hf hM hQ => ?_⟩
      have hi : ops[pre.length]? = some o := by rw [← Array.getElem?_toList, hall, hp]; simp
      have hf1 : Fresh β n n1 := fun i h1 h2 => hf i h1 (by have := i2.1; omega)
      rw [List.length_cons, List.range'_succ, wpOpsIn_cons]
      refine s2 β w a ro _ Q ops pre.length hall hi (fun t _ => hT t) hW hf1 fun γ c w1 hv he => ?_
      obtain ⟨p1, p2, p3⟩ := put_tr (hT.mono (he.le hf1)) hs s4 hv
      have hf2 : Fresh γ n1 n' := fun i h1 h2 => by rw [he.same i (.inr h1)]; exact hf i (by have := s1.1; omega) h2
      have := i3 γ w1 (a.put o.dst c) ro lo Q p1 p2 he.wr hf2 (by rw [p3]; exact hM.ext he hf1 s1.1) fun δ a' w' hp' => hQ δ a' w' ⟨he.trans hp'.ext s1.1 i2.1 hf, hp'.tr, hp'.sz, hp'.mks⟩
      simpa using this
end
end Go.Xec
