/-
  THE EXECUTOR: the other operations: struct and slice literals, make, append, slices, arithmetic, conversions, builtins.
-/
import Derived.Test.YtadaoelabimmkaaGreatDoorXOps
import Derived.IntWalk
namespace Go.Xec
open Go
section
variable {P : Program} {o : Oper} {T : Tm} {H H' : Hp} {n n' : Nat} {v : Value}

/- ## Literals -/
theorem foldl_set (off : Nat) : ∀ (us : List Value) (k : Nat) (cs : Array Value), off + k + us.length ≤ cs.size →
    ((us.zipIdx k).foldl (fun cs p => cs.setIfInBounds (off + p.2) p.1) cs).toList = cs.toList.take (off + k) ++ us ++ cs.toList.drop (off + k + us.length)
  | [], k, cs, _ => by simp
  | u :: us, k, cs, h => by
    simp only [List.length_cons] at h
    simp only [List.zipIdx_cons, List.foldl_cons]
    rw [foldl_set off us (k + 1) _ (by simp; omega), Array.toList_setIfInBounds]
    have e := list_seg_step cs.toList (off + k) u us (by simp; omega)
    simpa [Nat.add_assoc] using e

inductive PR (β : Bm) : List (Nat × Value) → List (Nat × Value) → Prop
  | nil : PR β [] []
  | cons {i : Nat} {a b : Value} {l m : List (Nat × Value)} (h : VR β a b) (t : PR β l m) : PR β ((i, a) :: l) ((i, b) :: m)
theorem fillL_cons (place : Nat → Option (Nat × Nat)) (p : Nat × Value) (ps : List (Nat × Value)) (cells : List Value) : fillL place (p :: ps) cells =
    (place p.1).bind fun q => cond (Nat.beq p.2.cells.toList.length q.2) ((setAt cells q.1 p.2.cells.toList).bind (fillL place ps)) none := rfl
theorem fill_rel {β : Bm} {place place' : Nat → Option (Nat × Nat)} (hp : ∀ i, place' i = place i) : ∀ {ps ps' : List (Nat × Value)}, PR β ps ps' → ∀ {cells r : List Value} {cs : Array Value}, fillL place ps cells = some r → VL β cells cs.toList →
    ∃ ds, Instr.fill place' cs ps' = some ds ∧ VL β r ds.toList
  | _, _, .nil, cells, r, cs, h, hl => by cases h; exact ⟨cs, rfl, hl⟩
  | _, _, .cons (i := i) (a := a) (b := b) (l := l) (m := m) hv t, cells, r, cs, h, hl => by
    rw [fillL_cons] at h
    cases h1 : place i with
    | none => simp only [h1] at h; cases h
    | some q =>
      simp only [h1, Option.bind_some] at h
      cases h2 : Nat.beq a.cells.toList.length q.2 with
      | false => rw [h2] at h; cases h
      | true =>
        rw [h2, cond_true] at h
        cases h3 : setAt cells q.1 a.cells.toList with
        | none => rw [h3] at h; cases h
        | some c2 =>
          rw [h3] at h
          have h4 : fillL place l c2 = some r := h
          have hc := cells_rel hv
          obtain ⟨q1, q2⟩ := setAt_rel h3 hl hc
          have e1 : b.cells.size = q.2 := by rw [← Array.length_toList, ← hc.length]; exact beq_eq h2
          have e2 : cs.toList.length = cs.size := Array.length_toList
          have e3 : b.cells.toList.length = b.cells.size := Array.length_toList
          have hfold : (b.cells.zipIdx.foldl (fun cs p => cs.setIfInBounds (q.1 + p.2) p.1) cs).toList = cs.toList.take q.1 ++ b.cells.toList ++ cs.toList.drop (q.1 + b.cells.toList.length) := by
            rw [← Array.foldl_toList, Array.toList_zipIdx]
            simpa using foldl_set q.1 b.cells.toList 0 cs (by omega)
          obtain ⟨ds, r1, r2⟩ := fill_rel hp t h4 (cs := b.cells.zipIdx.foldl (fun cs p => cs.setIfInBounds (q.1 + p.2) p.1) cs) (by rw [hfold]; exact q1)
          refine ⟨ds, ?_, r2⟩
          rw [Instr.fill, hp, h1]
          obtain ⟨off, size⟩ := q
          simp only at e1 q2 e2 e3 r1 ⊢
          rw [if_neg (by simp; omega)]
          exact r1
theorem vals_rel {β : Bm} {ρ : Operand → Value} : ∀ (ps : List (Nat × Operand)), (∀ p ∈ ps, VR β (ev T p.2) (ρ p.2)) → PR β (valsOf T ps) (ps.map fun p => (p.1, ρ p.2))
  | [], _ => .nil
  | p :: ps, h => .cons (h p (by simp)) (vals_rel ps fun q hq => h q (by simp [hq]))
theorem run_places {w : World} : ∀ (fs : List Field) (pl : List (Nat × Nat)), placesL P fs = some pl → (fs.mapM (m := Sem) fun f => do pure (f.offset, ← sizeOf f.type)).run P w = .ok pl w
  | [], pl, h => by cases h; simp
  | f :: fs, pl, h => by
    have h' : ((sizeT P f.type).bind fun s => (placesL P fs).map fun r => (f.offset, s) :: r) = some pl := h
    cases h1 : sizeT P f.type with
    | none => rw [h1] at h'; cases h'
    | some s =>
      rw [h1] at h'
      cases h2 : placesL P fs with
      | none => simp [h2] at h'
      | some r =>
        simp [h2] at h'
        subst h'
        have ih := run_places (w := w) fs r h2
        simp only [List.mapM_cons, Sem.run_bind, run_size h1, Result.andThen_ok, Sem.run_pure, ih]
theorem run_placesA {w : World} (fs : Array Field) (pl : List (Nat × Nat)) (h : placesL P fs.toList = some pl) : (fs.mapM (m := Sem) fun f => do pure (f.offset, ← sizeOf f.type)).run P w = .ok pl.toArray w := by
  rw [Array.mapM_eq_mapM_toList, Sem.run_map, run_places fs.toList pl h]
  rfl
theorem all0_zero {β : Bm} {w : World} {t : TypeId} {z : List Value} (h : zerosT P t = some z) : ∃ y, (zeroValue t).run P w = .ok y w ∧ VL β z y.cells.toList := by
  obtain ⟨h1, h2⟩ := zerosT_ok h
  obtain ⟨y, h3, h4⟩ := run_zero (w := w) h1
  exact ⟨y, h3, by rw [h4]; exact all0_rel h2⟩
theorem build_ok {t : TypeId} {ps : Array (Nat × Operand)} (ho : o.op = .build t ps) (h : (cBuild P t ps.toList).f T H n = .ok v H' n') : OpS P o T H n v H' n' := by
  unfold cBuild at h
  obtain ⟨z, h1, h2⟩ := coO_ok h
  have hv : ∀ (β : Bm) (ρ : Operand → Value), (∀ x ∈ o.op.operands, VR β (ev T x) (ρ x)) → PR β (valsOf T ps.toList) (ps.map fun p => (p.1, ρ p.2)).toList := fun β ρ hx => by
    rw [Array.toList_map]
    exact vals_rel ps.toList fun p hp => hx p.2 (by simp only [ho, Op.operands]; simp; exact ⟨p.1, by simpa using hp⟩)
  split at h2
  · rename_i fs hs
    obtain ⟨pl, h3, h4⟩ := coO_ok h2
    obtain ⟨c, h5, h6⟩ := onO_ok (o := fillL (lget pl) (valsOf T ps.toList) z) (f := fun c => .ok (aggOf c) H n) h4
    cases h6
    obtain ⟨arr, hu, harr⟩ := structD_ok hs
    refine OpS.same fun β w ρ hx _ => ?_
    obtain ⟨y, hy, hl⟩ := all0_zero (β := β) (w := w) h1
    obtain ⟨ds, r1, r2⟩ := fill_rel (place' := fun i => pl.toArray[i]?) (fun i => by rw [lget_eq]; simp) (hv β ρ hx) h5 hl
    refine ⟨.agg ds, ?_, .agg _ _ (by simpa [aggOf] using r2)⟩
    subst harr
    simp only [execOp, ho, Instr.build, Sem.run_bind, hy, Result.andThen_ok, run_under hu, run_placesA arr pl h3, r1, Sem.run_pure]
  · rename_i hs
    obtain ⟨p, h3, h4⟩ := coO_ok h2
    obtain ⟨s, h5, h6⟩ := coO_ok h4
    obtain ⟨c, h7, h8⟩ := onO_ok (o := fillL (fun i => some (Nat.mul i s, s)) (valsOf T ps.toList) z) (f := fun c => .ok (aggOf c) H n) h6
    cases h8
    refine OpS.same fun β w ρ hx _ => ?_
    obtain ⟨y, hy, hl⟩ := all0_zero (β := β) (w := w) h1
    obtain ⟨ds, r1, r2⟩ := fill_rel (place' := fun i => some (i * s, s)) (fun i => rfl) (hv β ρ hx) h7 hl
    refine ⟨.agg ds, ?_, .agg _ _ (by simpa [aggOf] using r2)⟩
    simp only [execOp, ho, Instr.build, Sem.run_bind, hy, Result.andThen_ok, run_under (arrayD_ok h3), run_size h5, r1, Sem.run_pure]

theorem repl_succ (k : Nat) (z : List Value) : repl (k + 1) z = z ++ repl k z := rfl
theorem repl_length (z : List Value) : ∀ k, (repl k z).length = k * z.length
  | 0 => by rw [Nat.zero_mul]; rfl
  | k + 1 => by rw [repl_succ, List.length_append, repl_length z k, Nat.succ_mul]; omega
theorem repl_get (z : List Value) (hz : 0 < z.length) : ∀ (k i : Nat), i < k * z.length → (repl k z)[i]? = z[i % z.length]?
  | 0, i, h => by omega
  | k + 1, i, h => by
    rw [repl_succ]
    by_cases hi : i < z.length
    · rw [List.getElem?_append_left hi, Nat.mod_eq_of_lt hi]
    · rw [List.getElem?_append_right (by omega), repl_get z hz k _ (by rw [Nat.succ_mul] at h; omega)]
      congr 1
      exact (Nat.mod_eq_sub_mod (by omega)).symm
theorem zeros_eq (z : Array Value) (k : Nat) (hz : 0 < z.size) : ((Array.range (k * z.size)).map (fun i => z[i % z.size]!)).toList = repl k z.toList := by
  have hzl : z.toList.length = z.size := Array.length_toList
  apply List.ext_getElem?
  intro i
  by_cases hi : i < k * z.size
  · rw [repl_get z.toList (by omega) k i (by rw [hzl]; exact hi), hzl]
    have hm : i % z.size < z.size := Nat.mod_lt _ hz
    simp [hi, hm]
  · rw [List.getElem?_eq_none (by simp; omega), List.getElem?_eq_none (by rw [repl_length, hzl]; omega)]
theorem repl_rel {β : Bm} {z y : List Value} (h : VL β z y) : ∀ k, VL β (repl k z) (repl k y)
  | 0 => .nil
  | k + 1 => by rw [repl_succ, repl_succ]; exact h.append (repl_rel h k)
theorem buildSlice_ok {t len : Nat} {ps : Array (Nat × Operand)} (ho : o.op = .buildSlice t len ps) (h : (cBuildSlice P t len ps.toList).f T H n = .ok v H' n') : OpS P o T H n v H' n' := by
  unfold cBuildSlice at h
  obtain ⟨e, h1, h2⟩ := coO_ok h
  obtain ⟨s, h3, h4⟩ := coO_ok h2
  obtain ⟨z, h5, h6⟩ := coO_ok h4
  obtain ⟨h7, h8⟩ := coIf_ok h6
  obtain ⟨h9, h10⟩ := cond_and h7
  obtain ⟨h11, h12⟩ := cond_and h10
  obtain ⟨c, h13, h14⟩ := onO_ok (o := fillL (fun i => some (Nat.mul i s, s)) (valsOf T ps.toList) (repl len z)) (f := fun c => newS H n c e len len) h8
  cases h14
  refine OpS.new fun β w ρ hx _ _ => ?_
  obtain ⟨y, hy, hl⟩ := all0_zero (β := β) (w := w) h5
  have hzs : z.length = s := beq_eq h9
  have hs1 : 1 ≤ s := ble_le h11
  have hle : len * s ≤ 16777215 := ble_le h12
  have hys : y.cells.size = s := by rw [← Array.length_toList, ← hl.length]; exact hzs
  have hlen : len ≤ len * s := Nat.le_mul_of_pos_right _ hs1
  have hv : PR β (valsOf T ps.toList) (ps.map fun p => (p.1, ρ p.2)).toList := by
    rw [Array.toList_map]
    exact vals_rel ps.toList fun p hp => hx p.2 (by simp only [ho, Op.operands]; simp; exact ⟨p.1, by simpa using hp⟩)
  have hz : ∀ k, k = len * s → VL β (repl len z) ((Array.range k).map (fun i => y.cells[i % y.cells.size]!)).toList := fun k hk => by
    subst hk
    have hp : 0 < y.cells.size := by omega
    rw [← hys, zeros_eq y.cells len hp]
    exact repl_rel hl len
  obtain ⟨ds, r1, r2⟩ := fill_rel (place' := fun i => some (i * s, s)) (fun i => rfl) hv h13 (hz _ rfl)
  refine ⟨.slice (some ⟨w.heap.size, 0, none⟩) len len, ds, ds.toList, [], ?_, .sl _ _ (w.heap.size, 0) _ _ _ (upd_self _ _ _) (.inl ⟨rfl, by unfold unk; omega⟩), r2, by simp⟩
  simp only [execOp, ho, Instr.buildSlice, Sem.run_bind, run_under (sliceD_ok h1), Result.andThen_ok, run_size h3]
  rw [if_neg (by omega)]
  by_cases h0 : len * s = 0
  · have hl0 : len = 0 := by
      rcases Nat.mul_eq_zero.1 h0 with h | h
      · exact h
      · omega
    subst hl0
    simp only [Nat.zero_mul] at r1 ⊢
    have e1 : Array.map (fun x => (#[] : Array Value)[x % (#[] : Array Value).size]!) (Array.range 0) = Array.map (fun i => y.cells[i % y.cells.size]!) (Array.range 0) := by simp
    simp only [Sem.run_pure, Result.andThen_ok, Sem.run_bind, if_true, e1, r1, newRow, run_newObj]
  · simp only [if_neg h0, Sem.run_bind, hy, Result.andThen_ok, Sem.run_pure, r1, newRow, run_newObj]
theorem wrap_nat {m : Nat} (h : m ≤ 9223372036854775807) : IntKind.i64.wrap (Int.ofNat m) = (m : Int) := by
  rw [Int.ofNat_eq_natCast]
  exact IntWalk.i64_in _ (by omega)
theorem makeSlice_ok {t : TypeId} {l c : Operand} (ho : o.op = .makeSlice t l c) (h : (cMakeSlice P t l c).f T H n = .ok v H' n') : OpS P o T H n v H' n' := by
  unfold cMakeSlice at h
  obtain ⟨e, h1, h2⟩ := coO_ok h
  obtain ⟨i, h3, h4⟩ := coO_ok h2
  obtain ⟨z, h5, h6⟩ := coO_ok h4
  obtain ⟨h7, h8⟩ := coIf_ok h6
  obtain ⟨kl, len, h9, h10⟩ := onNat_ok (x := ev T l) h8
  obtain ⟨kc, cp, h11, h12⟩ := onNat_ok h10
  obtain ⟨h13, h14⟩ := chk_ok h12
  obtain ⟨h15, h16⟩ := cond_and h13
  obtain ⟨h17, h18⟩ := cond_and h16
  cases h14
  have a1 : len ≤ cp := ble_le h15
  have a2 : cp * i.bytes ≤ 1099511627776 := ble_le h17
  have a3 : cp ≤ 1099511627776 := ble_le h18
  have hzs : z.length = i.size := beq_eq h7
  refine OpS.new fun β w ρ hx _ _ => ?_
  obtain ⟨y, hy, hl⟩ := all0_zero (β := β) (w := w) h5
  have hρl := int_of (β := β) (h9 ▸ hx l (by simp [ho, Op.operands]))
  have hρc := int_of (β := β) (h11 ▸ hx c (by simp [ho, Op.operands]))
  have hys : y.cells.size = i.size := by rw [← Array.length_toList, ← hl.length]; exact hzs
  have hsz : sizeT P e = some i.size := by unfold sizeT; rw [h3]; rfl
  have key : ∀ cs : Array Value, cs.toList = repl cp y.cells.toList → VL β (repl cp z) cs.toList := fun cs hc => by rw [hc]; exact repl_rel hl cp
  have tl : ∀ m : Nat, m ≤ cp → ¬ ((i.bytes : Int) * (m : Int) > 281474976710656) := fun m hm => by
    have h1 : m * i.bytes ≤ cp * i.bytes := Nat.mul_le_mul_right _ hm
    have h2 : (i.bytes : Int) * (m : Int) = ((m * i.bytes : Nat) : Int) := by rw [Int.natCast_mul, Int.mul_comm]
    rw [h2]; omega
  refine ⟨.slice (some ⟨w.heap.size, 0, none⟩) len cp, (if cp * i.size = 0 then #[] else (Array.range (cp * i.size)).map (fun j => y.cells[j % y.cells.size]!)), repl cp y.cells.toList, [], ?_, .sl _ _ (w.heap.size, 0) _ _ _ (upd_self _ _ _) (.inl ⟨rfl, by unfold unk; omega⟩), repl_rel hl cp, ?_⟩
  · simp only [execOp, ho, hρl, hρc, Instr.makeSlice, asInt, asIntOf, Sem.run_bind, run_under (sliceD_ok h1), Result.andThen_ok, Sem.run_pure, run_info h3]
    rw [wrap_nat (m := len) (by omega), wrap_nat (m := cp) (by omega)]
    have t1 := tl cp (Nat.le_refl _)
    have t2 := tl len a1
    have n1 : ¬ ((cp : Int) < 0) := by omega
    have n2 : ¬ ((len : Int) < 0) := by omega
    have n3 : ¬ ((len : Int) > (cp : Int)) := by omega
    have e48 : (2 : Int) ^ 48 = 281474976710656 := by decide
    simp only [e48, t1, n1, n2, n3, decide_false, Bool.or_self, Bool.false_eq_true, if_false, run_askRoom, Result.andThen_ok, run_size hsz, Int.toNat_natCast, Sem.run_bind]
    by_cases h0 : cp * i.size = 0
    · have er : ∀ f : Nat → Value, Array.map f (Array.range 0) = #[] := fun f => by simp [Array.range]
      simp [h0, newRow, er]
    · simp [h0, newRow, hy]
  · split
    · rename_i h0
      have : (repl cp y.cells.toList).length = 0 := by rw [repl_length, Array.length_toList, hys]; exact h0
      rw [List.eq_nil_of_length_eq_zero this]; rfl
    · rename_i h0
      have hp : 0 < y.cells.size := by
        rw [hys]
        rcases Nat.eq_zero_or_pos i.size with h | h
        · rw [h] at h0; simp at h0
        · exact h
      rw [← hys, zeros_eq _ _ hp]; simp
end
end Go.Xec
