/-
  THE EXECUTOR: each operation that it carries out, the model carries out alike.
-/
import Derived.Test.YtadaoelabimmkaaGreatDoorXMem
import Derived.Orders
namespace Go.Xec
open Go

def nextV : Next → Option Value
  | .value v => some v
  | .skip => some undef
  | _ => none
/-- What an operation of the executor's says of the model's. -/
def OpS (P : Program) (o : Oper) (T : Tm) (H : Hp) (n : Nat) (v : Value) (H' : Hp) (n' : Nat) : Prop :=
  n ≤ n' ∧ (∀ i, (i < n ∨ n' ≤ i) → hget H i = none → hget H' i = none) ∧
  ∀ (β : Bm) (w : World) (ρ : Operand → Value), (∀ x ∈ o.op.operands, VR β (ev T x) (ρ x)) → WR P β (hget H) w → Fresh β n n' →
    ∃ r c w' γ, (execOp ρ o).run P w = .ok r w' ∧ nextV r = some c ∧ VR γ v c ∧ Ext P β (hget H) n w γ (hget H') n' w'

section
variable {P : Program} {o : Oper} {T : Tm} {H H' : Hp} {n n' : Nat} {v : Value}

theorem OpS.same (h : ∀ (β : Bm) (w : World) (ρ : Operand → Value), (∀ x ∈ o.op.operands, VR β (ev T x) (ρ x)) → WR P β (hget H) w →
    ∃ c, (execOp ρ o).run P w = .ok (.value c) w ∧ VR β v c) : OpS P o T H n v H n :=
  ⟨Nat.le_refl _, fun _ _ h => h, fun β w ρ hx hW _ =>
    let ⟨c, h1, h2⟩ := h β w ρ hx hW
    ⟨_, c, w, β, h1, rfl, h2, Ext.refl hW⟩⟩
theorem OpS.new {l : List Value} {e : TypeId} (h : ∀ (β : Bm) (w : World) (ρ : Operand → Value), (∀ x ∈ o.op.operands, VR β (ev T x) (ρ x)) → WR P β (hget H) w → β n = none →
    ∃ c cs l' rest, (execOp ρ o).run P w = .ok (.value c) { w with heap := w.heap.push (.cells cs e (0, 0)) } ∧ VR (upd β n (w.heap.size, 0)) v c ∧ VL β l l' ∧ cs.toList = l' ++ rest) :
    OpS P o T H n v (hset H n (.cells l e)) (n + 1) :=
  ⟨by omega, fun i hi h0 => by rw [hget_hset, if_neg (by omega)]; exact h0, fun β w ρ hx hW hf => by
    have hn := hf n (Nat.le_refl _) (by omega)
    obtain ⟨c, cs, l', rest, h1, h2, h3, h4⟩ := h β w ρ hx hW hn
    exact ⟨_, c, _, _, h1, rfl, h2, Ext.new hW hn (.cells l l' e cs rest h3 h4 (fun s _ => by omega))⟩⟩

theorem run_under {w : World} {t : TypeId} {d : TypeDesc} (h : P.underlying t = some d) : (underlying t).run P w = .ok d w := by simp [underlying, h]
theorem run_info {w : World} {t : TypeId} {i : TypeInfo} (h : P.info? t = some i) : (typeInfo t).run P w = .ok i w := by simp [typeInfo, h]
theorem run_size {w : World} {t : TypeId} {k : Nat} (h : sizeT P t = some k) : (sizeOf t).run P w = .ok k w := by
  unfold sizeT at h
  cases e : P.info? t with
  | none => rw [e] at h; cases h
  | some i => rw [e] at h; cases h; simp [sizeOf, run_info e]
theorem run_agg {w : World} {t : TypeId} {d : TypeDesc} (h : P.underlying t = some d) : (isAgg t).run P w = .ok (isAggD (P.underlying t)) w := by
  simp only [isAgg, Sem.run_bind, run_under h, Result.andThen_ok, h]
  cases d <;> rfl
theorem run_zero {w : World} {t : TypeId} {z : List Value} (h : zeroT P t = some z) : ∃ v, (zeroValue t).run P w = .ok v w ∧ v.cells.toList = z := by
  unfold zeroT at h
  cases e : P.info? t with
  | none => rw [e] at h; cases h
  | some i =>
    rw [e] at h
    cases e2 : i.zero with
    | none => simp [e2] at h
    | some z' => simp [e2] at h; exact ⟨z', by simp [zeroValue, run_info e, e2], h⟩
theorem zerosT_ok {t : TypeId} {z : List Value} (h : zerosT P t = some z) : zeroT P t = some z ∧ all0 z = true := by
  unfold zerosT at h
  cases e : zeroT P t with
  | none => rw [e] at h; cases h
  | some y =>
    rw [e] at h
    have h' : cond (all0 y) (some y) none = some z := h
    cases e2 : all0 y with
    | false => rw [e2] at h'; cases h'
    | true => rw [e2] at h'; cases h'; exact ⟨rfl, e2⟩
theorem structD_ok {o : Option TypeDesc} {fs : List Field} (h : structD o = some fs) : ∃ a, o = some (.struct a) ∧ a.toList = fs := by
  unfold structD at h; split at h
  · cases h; exact ⟨_, rfl, rfl⟩
  · cases h
theorem arrayD_ok {o : Option TypeDesc} {p : Nat × TypeId} (h : arrayD o = some p) : o = some (.array p.1 p.2) := by
  unfold arrayD at h; split at h
  · cases h; rfl
  · cases h
theorem sliceD_ok {o : Option TypeDesc} {e : TypeId} (h : sliceD o = some e) : o = some (.slice e) := by
  unfold sliceD at h; split at h
  · cases h; rfl
  · cases h
theorem sizeD_under {t : TypeId} {k : Nat} (h : sizeT P t = some k) : ∃ i, P.info? t = some i := by
  unfold sizeT at h
  cases e : P.info? t with
  | none => rw [e] at h; cases h
  | some i => exact ⟨i, rfl⟩
theorem aggD_some {t : TypeId} (h : isAggD (P.underlying t) = true) : ∃ d, P.underlying t = some d := by
  cases e : P.underlying t with
  | none => rw [e] at h; cases h
  | some d => exact ⟨d, rfl⟩

theorem prun_run {α : Type} : ∀ (s : Sem α) (a : α) (w : World), prun P s = some a → s.run P w = .ok a w := by
  intro s
  induction s with
  | pure x => intro a w h; cases h; rfl
  | program k ih => intro a w h; exact ih P a w h
  | _ => intro a w h; cases h

/- plain operations -/
theorem plainOp_ok (h : plainOp P T H n o = .ok v H' n') (hs : ∀ cs b, o.op ≠ .select cs b) (hp : ∀ x ∈ o.op.operands, plain (ev T x) = true) : OpS P o T H n v H' n' := by
  unfold plainOp at h
  split at h
  · rename_i u hu
    obtain ⟨h1, h2⟩ := chk_ok h
    cases h2
    refine OpS.same fun β w ρ hx _ => ⟨v, ?_, plain_rel h1⟩
    have : execOp ρ o = execOp (ev T) o := execOp_congr o hs fun x hm => plain_eq (hp x hm) (hx x hm)
    rw [this]
    exact prun_run _ _ w hu
  · cases h

theorem move_ok {x : Operand} (ho : o.op = .move x) : OpS P o T H n (ev T x) H n :=
  OpS.same fun β w ρ hx _ => ⟨ρ x, by simp [execOp, ho], hx x (by simp [ho, Op.operands])⟩
theorem assign_ok {x : Operand} (ho : o.op = .assign x) : OpS P o T H n (ev T x) H n :=
  OpS.same fun β w ρ hx _ => ⟨ρ x, by simp [execOp, ho], hx x (by simp [ho, Op.operands])⟩
theorem bool_of {β : Bm} {b : Bool} {x : Value} (h : VR β (.bool b) x) : x = .bool b := by cases h; rfl
theorem int_of {β : Bm} {k : IntKind} {i : Int} {x : Value} (h : VR β (.int k i) x) : x = .int k i := by cases h; rfl
theorem str_of {β : Bm} {s : ByteArray} {x : Value} (h : VR β (.string s) x) : x = .string s := by cases h; rfl
theorem ptr_of {β : Bm} {a : Addr} {x : Value} (h : VR β (.pointer (some a)) x) : ∃ c, a.spot = none ∧ β a.block = some c ∧ x = .pointer (some ⟨c.1, a.off, none⟩) := by
  cases h with
  | ptr b o c h => exact ⟨c, rfl, h, rfl⟩
theorem sl_of {β : Bm} {a : Addr} {l k : Nat} {x : Value} (h : VR β (.slice (some a) l k) x) : ∃ c k', a.spot = none ∧ β a.block = some c ∧ x = .slice (some ⟨c.1, a.off, none⟩) l k' ∧ ((k = k' ∧ k ≠ unk) ∨ (k = unk ∧ l ≤ k' ∧ (a.off = 0 → c.2 = k'))) := by
  cases h with
  | sl b o c l k k' h hk => exact ⟨c, k', rfl, h, rfl, hk⟩
theorem agg_of {β : Bm} {a : Array Value} {x : Value} (h : VR β (.agg a) x) : ∃ b, x = .agg b ∧ VL β a.toList b.toList := by
  cases h with
  | agg a b h => exact ⟨b, rfl, h⟩
theorem tup_of {β : Bm} {a : Array Value} {x : Value} (h : VR β (.tuple a) x) : ∃ b, x = .tuple b ∧ VL β a.toList b.toList := by
  cases h with
  | tuple a b h => exact ⟨b, rfl, h⟩

theorem pick_ok {c a b : Operand} (ho : o.op = .pick c a b) (h : (onBool (ev T c) fun t => .ok (cond t (ev T a) (ev T b)) H n) = .ok v H' n') : OpS P o T H n v H' n' := by
  obtain ⟨t, h1, h2⟩ := onBool_ok h
  cases h2
  refine OpS.same fun β w ρ hx _ => ?_
  have ht : ρ c = .bool t := bool_of (β := β) (h1 ▸ hx c (by simp [ho, Op.operands]))
  cases t
  · exact ⟨ρ b, by simp [execOp, ho, ht, asBool], hx b (by simp [ho, Op.operands])⟩
  · exact ⟨ρ a, by simp [execOp, ho, ht, asBool], hx a (by simp [ho, Op.operands])⟩
theorem alloc_ok {e : TypeId} (ho : o.op = .alloc e) (h : (coO (zerosT P e) fun z => ⟨fun _ H n => newB H n z e⟩).f T H n = .ok v H' n') : OpS P o T H n v H' n' := by
  obtain ⟨z, h1, h2⟩ := coO_ok h
  cases h2
  obtain ⟨hz, ha⟩ := zerosT_ok h1
  refine OpS.new fun β w ρ hx _ _ => ?_
  obtain ⟨y, hy, hc⟩ := run_zero (P := P) (w := w) hz
  refine ⟨.pointer (some ⟨w.heap.size, 0, none⟩), y.cells, z, [], ?_, .ptr _ _ (w.heap.size, 0) (upd_self _ _ _), all0_rel ha, by simp [hc]⟩
  simp [execOp, ho, Instr.alloc, hy, newVar, newRow]
theorem box_ok {e : TypeId} {x : Operand} (ho : o.op = .box e x) : OpS P o T H n (.pointer (some ⟨n, 0, none⟩)) (hset H n (.cells (ev T x).cells.toList e)) (n + 1) :=
  OpS.new fun β w ρ hx _ _ => ⟨.pointer (some ⟨w.heap.size, 0, none⟩), (ρ x).cells, (ρ x).cells.toList, [], by simp [execOp, ho, Instr.box, newVar, newRow], .ptr _ _ (w.heap.size, 0) (upd_self _ _ _), cells_rel (hx x (by simp [ho, Op.operands])), by simp⟩

theorem load_ok {t : TypeId} {a : Operand} (ho : o.op = .load t a) (h : (cLoad P t a).f T H n = .ok v H' n') : OpS P o T H n v H' n' := by
  unfold cLoad at h
  cases hagg : isAggD (P.underlying t) with
  | true =>
    rw [hagg, cond_true] at h
    obtain ⟨k, h1, h2⟩ := coO_ok h
    obtain ⟨ad, h3, h4⟩ := onPtr_ok h2
    obtain ⟨p, h5, h6⟩ := onO_ok h4
    obtain ⟨r, h7, h8⟩ := onO_ok h6
    cases h8
    refine OpS.same fun β w ρ hx hW => ?_
    obtain ⟨b, _, hb, hρ⟩ := ptr_of (β := β) (h3 ▸ hx a (by simp [ho, Op.operands]))
    obtain ⟨c, l', rest, e1, e2, e3, e4⟩ := hW.cells h5 hb
    obtain ⟨r', q1, q2, q3⟩ := part_at e2 e3 h7
    obtain ⟨d, hd⟩ := aggD_some hagg
    refine ⟨.agg r'.toArray, ?_, .agg _ _ (by simpa [aggOf] using q1)⟩
    simp [execOp, ho, hρ, Instr.loadAt, Instr.sureAddr, loadVar, run_agg hd, hagg, run_size h1, run_cells e1 ad.off r' k q2 q3]
  | false =>
    rw [hagg, cond_false] at h
    obtain ⟨d, h1, h2⟩ := coO_ok h
    obtain ⟨ad, h3, h4⟩ := onPtr_ok h2
    obtain ⟨p, h5, h6⟩ := onO_ok h4
    obtain ⟨r, h7, h8⟩ := onO_ok h6
    cases h8
    refine OpS.same fun β w ρ hx hW => ?_
    obtain ⟨b, _, hb, hρ⟩ := ptr_of (β := β) (h3 ▸ hx a (by simp [ho, Op.operands]))
    obtain ⟨c, l', rest, e1, e2, e3, e4⟩ := hW.cells h5 hb
    obtain ⟨v', q1, q2⟩ := cell_rel e2 e3 h7
    refine ⟨v', ?_, q1⟩
    simp [execOp, ho, hρ, Instr.loadAt, Instr.sureAddr, loadVar, run_agg h1, hagg, cell_at e1, -Array.getElem?_toList, q2]

/-- A write into a row that is there. -/
theorem write_ext {β : Bm} {w : World} (hW : WR P β (hget H) w) {i : Nat} {b : Nat × Nat} {p : List Value × TypeId} (hc : cellsAt H i = some p) (hb : β i = some b) {off : Nat} {vs us l2 : List Value} (hs : setAt p.1 off vs = some l2) (hv : VL β vs us) (h1 : ∀ v ∈ us, v.oneCell' = true) :
    ∃ w', (storeCells ⟨b.1, off, none⟩ us).run P w = .ok () w' ∧ Ext P β (hget H) n w β (hget (hset H i (.cells l2 p.2))) n w' := by
  obtain ⟨c, l', rest, e1, e2, e3, e4⟩ := hW.cells hc hb
  obtain ⟨q1, q2⟩ := setAt_rel hs e2 hv
  have hsz : off + us.length ≤ c.size := by
    have : c.toList.length = c.size := Array.length_toList
    rw [← this, e3]; simp; omega
  have hrun := run_storeCells_at (P := P) b.1 off p.2 us 0 c w e1 (by omega) h1
  refine ⟨_, hrun, Ext.turn hW (cellsOf_ok hc) hb (by simp) (by simp) (by simp) (setRow_heap w b.1 c _ p.2 (0, 0) e1) (fun k hk => setRow_other w b.1 k _ hk) (.cells l2 _ p.2 _ rest q1 ?_ fun s hs => ?_) rfl rfl rfl⟩
  · simp only [Nat.add_zero, e3]
    rw [List.take_append_of_le_length (by omega), List.drop_append_of_le_length (by omega)]
    simp
  · have := e4 s hs
    have hcl : c.toList.length = c.size := Array.length_toList
    simp; omega

theorem store_ok {t : TypeId} {a x : Operand} (ho : o.op = .store t a x) (h : (cStore P t a x).f T H n = .ok v H' n') : OpS P o T H n v H' n' := by
  obtain ⟨s, h1, h2⟩ := coO_ok h
  obtain ⟨ad, h3, h4⟩ := onPtr_ok h2
  obtain ⟨h5, h6⟩ := chk_ok h4
  obtain ⟨h7, h8⟩ := cond_and h5
  unfold writeAt at h6
  obtain ⟨p, h9, h10⟩ := onO_ok h6
  obtain ⟨l2, h11, h12⟩ := onO_ok h10
  cases h12
  refine ⟨Nat.le_refl _, fun i _ h0 => ?_, fun β w ρ hx hW _ => ?_⟩
  · rw [hget_hset]; split
    · rename_i e; subst e; rw [cellsOf_ok h9] at h0; cases h0
    · exact h0
  · obtain ⟨b, hsp, hb, hρ⟩ := ptr_of (β := β) (h3 ▸ hx a (by simp [ho, Op.operands]))
    have hv := cells_rel (hx x (by simp [ho, Op.operands]))
    obtain ⟨w', r1, r2⟩ := write_ext (P := P) (n := n) hW h9 hb h11 hv (all1_spec h8 hv)
    refine ⟨.skip, undef, w', β, ?_, rfl, undef_rel β, r2⟩
    have hsz : (ρ x).cells.size = s := by rw [← Array.length_toList, ← hv.length]; exact beq_eq h7
    simp [execOp, ho, hρ, Instr.storeAt, Instr.sureAddr, storeVar, run_size h1, hsz, r1]

theorem nilCheck_ok {x : Operand} (ho : o.op = .nilCheck x) (h : (onPtr (ev T x) fun a => .ok (.pointer (some a)) H n) = .ok v H' n') : OpS P o T H n v H' n' := by
  obtain ⟨a, h1, h2⟩ := onPtr_ok h
  cases h2
  refine OpS.same fun β w ρ hx _ => ?_
  have hr := hx x (by simp [ho, Op.operands])
  rw [h1] at hr
  obtain ⟨b, _, hb, hρ⟩ := ptr_of hr
  exact ⟨ρ x, by simp [execOp, ho, hρ], hr⟩

theorem fieldAddr_ok {s : TypeId} {x : Operand} {f : Nat} (ho : o.op = .fieldAddr s x f) (h : (cFieldAddr P s x f).f T H n = .ok v H' n') : OpS P o T H n v H' n' := by
  obtain ⟨fs, h1, h2⟩ := coO_ok h
  obtain ⟨fd, h3, h4⟩ := coO_ok h2
  obtain ⟨k, h5, h6⟩ := coO_ok h4
  obtain ⟨h7, h8⟩ := coIf_ok h6
  obtain ⟨a, h9, h10⟩ := onPtr_ok h8
  cases h10
  obtain ⟨arr, hu, harr⟩ := structD_ok h1
  refine OpS.same fun β w ρ hx _ => ?_
  obtain ⟨b, hsp, hb, hρ⟩ := ptr_of (β := β) (h9 ▸ hx x (by simp [ho, Op.operands]))
  refine ⟨.pointer (some ⟨b.1, a.off + fd.offset, none⟩), ?_, .ptr _ _ b hb⟩
  have hf : arr[f]? = some fd := by rw [← Array.getElem?_toList, harr, ← lget_eq]; exact h3
  have hk : k ≠ 0 := by have := ble_le h7; omega
  simp [execOp, ho, hρ, Instr.fieldAt, run_under hu, hf, Instr.sureAddr, fieldPlace, run_size h5, hk, add_none]

theorem partOf_rel {t : TypeId} {off : Nat} {cs : List Value} (h : partOf P t off cs = some v) {β : Bm} {w : World} {ds : Array Value} (hl : VL β cs ds.toList) : ∃ c, (part t ds off).run P w = .ok c w ∧ VR β v c := by
  unfold partOf at h
  cases hagg : isAggD (P.underlying t) with
  | true =>
    rw [hagg, cond_true] at h
    obtain ⟨d, hd⟩ := aggD_some hagg
    cases h1 : sizeT P t with
    | none => rw [h1] at h; cases h
    | some k =>
      rw [h1] at h
      have h : (cut cs off k).map aggOf = some v := h
      cases h2 : cut cs off k with
      | none => rw [h2] at h; cases h
      | some r =>
        rw [h2] at h; cases h
        obtain ⟨e1, e2⟩ := cut_eq _ _ _ _ h2
        subst e1
        refine ⟨.agg (ds.extract off (off + k)), by simp [part, run_agg hd, hagg, run_size h1], .agg _ _ ?_⟩
        have : (ds.extract off (off + k)).toList = (ds.toList.drop off).take k := by
          rw [Array.toList_extract, List.extract_eq_take_drop]; simp
        rw [this]
        simpa [aggOf] using (AllR.drop off hl).take k
  | false =>
    rw [hagg, cond_false] at h
    cases h1 : P.underlying t with
    | none => rw [h1] at h; cases h
    | some d =>
      rw [h1] at h
      have h : lget cs off = some v := h
      rw [lget_eq] at h
      obtain ⟨c, q1, q2⟩ := hl.get off v h
      rw [h1] at hagg
      refine ⟨c, ?_, q2⟩
      have q3 : ds[off]? = some c := by rw [← Array.getElem?_toList]; exact q1
      simp [part, run_agg h1, h1, hagg, q3]
theorem field_ok {s : TypeId} {x : Operand} {f : Nat} (ho : o.op = .field s x f) (h : (cField P s x f).f T H n = .ok v H' n') : OpS P o T H n v H' n' := by
  obtain ⟨fs, h1, h2⟩ := coO_ok h
  obtain ⟨fd, h3, h4⟩ := coO_ok h2
  obtain ⟨a, h9, h10⟩ := onAgg_ok (x := ev T x) (f := fun cs => onO (partOf P fd.type fd.offset cs) fun v => .ok v H n) h4
  obtain ⟨u, h11, h12⟩ := onO_ok h10
  cases h12
  obtain ⟨arr, hu, harr⟩ := structD_ok h1
  refine OpS.same fun β w ρ hx _ => ?_
  obtain ⟨b, hρ, hl⟩ := agg_of (β := β) (h9 ▸ hx x (by simp [ho, Op.operands]))
  obtain ⟨c, q1, q2⟩ := partOf_rel (w := w) h11 hl
  refine ⟨c, ?_, q2⟩
  have hf : arr[f]? = some fd := by rw [← Array.getElem?_toList, harr, ← lget_eq]; exact h3
  simp [execOp, ho, hρ, Instr.field, run_under hu, hf, asAgg, q1]
theorem ixA_ok {s len i : Nat} {a : Addr} (h : ixA s a len i H n = .ok v H' n') : i < len ∧ v = .pointer (some ⟨a.block, a.off + i * s, none⟩) ∧ H' = H ∧ n' = n := by
  obtain ⟨h1, h2⟩ := chk_ok h
  cases h2
  exact ⟨ble_le h1, rfl, rfl, rfl⟩
theorem indexAddr_ok {t : TypeId} {x ix : Operand} (ho : o.op = .indexAddr t x ix) (h : (cIndexAddr P t x ix).f T H n = .ok v H' n') : OpS P o T H n v H' n' := by
  unfold cIndexAddr at h
  split at h
  · rename_i p hp
    obtain ⟨s, h1, h2⟩ := coO_ok h
    obtain ⟨a, h3, h4⟩ := onPtr_ok h2
    obtain ⟨k, i, h5, h6⟩ := onNat_ok h4
    obtain ⟨q1, rfl, rfl, rfl⟩ := ixA_ok h6
    refine OpS.same fun β w ρ hx _ => ?_
    obtain ⟨b, hsp, hb, hρ⟩ := ptr_of (β := β) (h3 ▸ hx x (by simp [ho, Op.operands]))
    have hi := int_of (β := β) (h5 ▸ hx ix (by simp [ho, Op.operands]))
    refine ⟨.pointer (some ⟨b.1, a.off + i * s, none⟩), ?_, .ptr _ _ b hb⟩
    simp [execOp, ho, hρ, hi, Instr.indexAt, asIntOf, run_under (arrayD_ok hp), Instr.sureAddr, run_size h1, add_none]
    intro hh; omega
  · obtain ⟨e, h0, h0'⟩ := coO_ok h
    obtain ⟨s, h1, h2⟩ := coO_ok h0'
    obtain ⟨a, len, cp, h3, h4⟩ := onSl_ok h2
    obtain ⟨k, i, h5, h6⟩ := onNat_ok h4
    obtain ⟨q1, rfl, rfl, rfl⟩ := ixA_ok h6
    refine OpS.same fun β w ρ hx _ => ?_
    obtain ⟨b, k', hsp, hb, hρ, _⟩ := sl_of (β := β) (h3 ▸ hx x (by simp [ho, Op.operands]))
    have hi := int_of (β := β) (h5 ▸ hx ix (by simp [ho, Op.operands]))
    refine ⟨.pointer (some ⟨b.1, a.off + i * s, none⟩), ?_, .ptr _ _ b hb⟩
    simp [execOp, ho, hρ, hi, Instr.indexAt, asIntOf, run_under (sliceD_ok h0), run_size h1, add_none]
    intro hh; omega
theorem extract_ok {t : Operand} {ix : Nat} (ho : o.op = .extract t ix) (h : (onTup (ev T t) fun vs => onO (lget vs ix) fun v => .ok v H n) = .ok v H' n') : OpS P o T H n v H' n' := by
  obtain ⟨a, h1, h2⟩ := onTup_ok h
  obtain ⟨u, h3, h4⟩ := onO_ok h2
  cases h4
  refine OpS.same fun β w ρ hx _ => ?_
  obtain ⟨b, hρ, hl⟩ := tup_of (β := β) (h1 ▸ hx t (by simp [ho, Op.operands]))
  rw [lget_eq] at h3
  obtain ⟨c, q1, q2⟩ := hl.get ix _ h3
  have q3 : b[ix]? = some c := by rw [← Array.getElem?_toList]; exact q1
  exact ⟨c, by simp [execOp, ho, hρ, Instr.extract, q3], q2⟩
theorem makeI_ok {t : TypeId} {x : Operand} (ho : o.op = .makeInterface t x) (h : (match eqK (P.underlying t) with
    | .iface => coBad
    | _ => coO (P.underlying t) fun _ => ⟨fun T H n => .ok (.iface t (ev T x)) H n⟩ : CO).f T H n = .ok v H' n') : OpS P o T H n v H' n' := by
  have key : ∀ d, P.underlying t = some d → (∀ ms, d ≠ .interface ms) → OpS P o T H n (.iface t (ev T x)) H n := fun d hd hne =>
    OpS.same fun β w ρ hx _ => ⟨.iface t (ρ x), by
      simp only [execOp, ho, Instr.makeInterface, Sem.run_bind, run_under hd, Result.andThen_ok]
      cases d <;> first | rfl | exact absurd rfl (hne _), .iface _ _ _ (hx x (by simp [ho, Op.operands]))⟩
  split at h
  · cases h
  · rename_i hne
    obtain ⟨d, h1, h2⟩ := coO_ok h
    cases h2
    refine key d h1 fun ms e => ?_
    subst e
    exact hne (by rw [h1]; rfl)
theorem map_rel {β : Bm} {ρ : Operand → Value} : ∀ (l : List Operand), (∀ x ∈ l, VR β (ev T x) (ρ x)) → VL β (l.map (ev T)) (l.map ρ)
  | [], _ => .nil
  | x :: l, h => .cons (h x (by simp)) (map_rel l fun y hy => h y (by simp [hy]))
theorem makeFunc_ok {f : FuncId} {a b : Array Operand} (ho : o.op = .makeFunc (.func f) a b) : OpS P o T H n (.func (.func f) (a.map (ev T)) (b.map (ev T))) H n :=
  OpS.same fun β w ρ hx _ => ⟨.func (.func f) (a.map ρ) (b.map ρ), by simp [execOp, ho, Instr.makeFunc],
    .func f _ _ _ _ (by simpa using map_rel (β := β) (ρ := ρ) a.toList fun x hm => hx x (by simp [ho, Op.operands]; exact .inl (by simpa using hm))) (by simpa using map_rel (β := β) (ρ := ρ) b.toList fun x hm => hx x (by simp [ho, Op.operands]; exact .inr (by simpa using hm)))⟩
end
end Go.Xec
