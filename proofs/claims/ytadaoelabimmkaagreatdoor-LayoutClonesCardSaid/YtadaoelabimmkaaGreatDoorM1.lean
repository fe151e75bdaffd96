/-
  THE MEMORY's ZERO VALUE: its cells are 65536 bytes 0.; M1; M2; M3; M4; M5; LayoutClones, LayoutStored: Put turns the memory's bytes alone.
-/
import Derived.Test.YtadaoelabimmkaaGreatDoorChecked
import Derived.KernelRfl
import Derived.WalkKit
import Derived.WalkSpells
import Derived.Deep.Light
import Derived.LoopTactic
import Derived.Deep.WholeRow
import Derived.Lib.BufferWrite
import Derived.Lib.SlBuf
set_option linter.all false
namespace Go.Proofs.YtadaoelabimmkaaGreatDoor
def Zs (l : List Value) (n : Nat) : Prop := l = List.replicate n (.int .u8 0)
theorem Zs.app {a b : List Value} {n : Nat} (h1 : Zs a n) (h2 : Zs b n) : Zs (List.append a b) (n * 2) := by
  unfold Zs at *
  subst h1 h2
  show List.replicate n _ ++ List.replicate n _ = _
  rw [List.replicate_append_replicate, Nat.mul_two]
theorem zs_of_toArray {l : List Value} {n : Nat} (h : Zs l n) : Zs (List.toArray l).toList n := h
set_option maxRecDepth 100000 in
theorem zero130 : Zs Tryz.zeroCells130.toList (64 * 2 * 2 * 2 * 2 * 2 * 2 * 2 * 2 * 2 * 2) := by
  unfold Tryz.zeroCells130
  refine zs_of_toArray ?_
  refine .app ?_ ?_ <;> refine .app ?_ ?_ <;> refine .app ?_ ?_ <;> refine .app ?_ ?_ <;> refine .app ?_ ?_ <;> refine .app ?_ ?_ <;> refine .app ?_ ?_ <;> refine .app ?_ ?_ <;> refine .app ?_ ?_ <;> refine .app ?_ ?_ <;> exact rfl
theorem zero130_eq : Tryz.zeroCells130 = Array.replicate 65536 (.int .u8 0) := by
  apply Array.ext'
  rw [Array.toList_replicate]
  exact zero130
end Go.Proofs.YtadaoelabimmkaaGreatDoor
namespace Go.Proofs.YtadaoelabimmkaaGreatDoor
open Go.RowKit
set_option maxRecDepth 100000 in
set_option maxHeartbeats 400000 in
theorem new_any (w : World) :
    Calls Tryz.prog 29 #[] w fun e w' => e = .returned (.pointer (some ⟨w.heap.size, 0, none⟩)) ∧ w' = w.alloc (.cells Tryz.zeroCells130 130) := by
  go_enter Tryz.func29, Tryz.ntmps29
  go_wp2
  go_ret
  exact ⟨rfl, rfl⟩
end Go.Proofs.YtadaoelabimmkaaGreatDoor
namespace Go.Proofs.YtadaoelabimmkaaGreatDoor
open Go.RowKit
theorem info128 : (Tryz.prog.info? 128).map (·.size) = some 65536 := by kernel_rfl
theorem setRow_new (w : World) (c c' : Array Value) (t : TypeId) : (w.alloc (.cells c t)).setRow w.heap.size c' = w.alloc (.cells c' t) := World.setRow_alloc_new w c c' t
set_option maxRecDepth 100000 in
set_option maxHeartbeats 400000 in
theorem clone_any (B : Nat) (c : Array Value) (w : World) (hB : w.heap[B]? = some (.cells c 130 (0, 0))) (hc : c.size = 65536) (h1 : c.all (·.oneCell') = true) :
    Calls Tryz.prog 35 #[.pointer (some ⟨B, 0, none⟩)] w fun e w' => e = .returned (.pointer (some ⟨w.heap.size, 0, none⟩)) ∧ w' = w.alloc (.cells c 130) := by
  have hlt : B < w.heap.size := (Array.getElem?_eq_some_iff.1 hB).1
  have hB' : (w.alloc (.cells Tryz.zeroCells130 130)).heap[B]? = some (.cells c 130 (0, 0)) := by rw [Below.heap_alloc _ _ _ hlt]; exact hB
  have hi : (Tryz.prog.info? 128).map (·.size) = some c.size := by rw [hc]; exact info128
  have hz : Tryz.zeroCells130.size = c.size := by rw [hc, Tryz.zeroCells130_size]
  have hn : (w.alloc (.cells Tryz.zeroCells130 130)).heap[w.heap.size]? = some (.cells Tryz.zeroCells130 130 (0, 0)) := heap_alloc_last w _
  have hsr := setRow_new w Tryz.zeroCells130 c 130
  go_enter Tryz.func35, Tryz.ntmps35
  go_wp2_with (first
    | (go_at_call 29; refine (new_any _).mono ?_; rintro e w' ⟨rfl, rfl⟩)
    | (refine wpList_load_row rfl 128 (.tmp 10) rfl B rfl 130 c (0, 0) _ hB' Tryz.underlying128 rfl hi ?_)
    | (refine wpList_store_row rfl 128 (.tmp 13) (.tmp 11) rfl w.heap.size c rfl rfl 130 Tryz.zeroCells130 hn hi hz h1 ?_; rw [hsr]))
  go_ret
  exact ⟨rfl, rfl⟩
end Go.Proofs.YtadaoelabimmkaaGreatDoor
namespace Go.Proofs.YtadaoelabimmkaaGreatDoor
open Go.RowKit
structure Bs (c : Array Value) (f : Nat → Int) : Prop where
  size : c.size = 65536
  at' : ∀ i, i < 65536 → c[i]? = some (.int .u8 (f i))
  lo : ∀ i, i < 65536 → 0 ≤ f i
  hi : ∀ i, i < 65536 → f i ≤ 255
theorem run_index_arr {P : Program} {t e n : Nat} {d : TypeDesc} (hu : P.underlying t = some (.array n e)) (he : P.underlying e = some d) (hd : (match d with | .struct _ | .array _ _ => true | _ => false) = false) (hs : ∀ w, (sizeOf e).run P w = .ok 1 w) (c : Array Value) (x : Int) (v : Value) (w : World) (h0 : 0 ≤ x) (hk : x.toNat < n) (hc : c[x.toNat]? = some v) :
    (Instr.index t (.agg c) (.int .i64 x)).run P w = .ok v w := by
  have h1 : x < (n : Int) := by omega
  have ha : (isAgg e).run P w = .ok false w := by
    unfold isAgg
    rw [Sem.run_bind, run_underlying he w]
    cases d <;> simp_all
  unfold Instr.index
  simp only [Sem.run_bind, asIntOf, Sem.run_pure, Result.andThen_ok, run_underlying hu]
  rw [if_pos ⟨h0, h1⟩]
  simp only [Sem.run_bind, hs, Result.andThen_ok, part, ha, Nat.mul_one]
  simp [hc]
theorem run_indexAt_arr {P : Program} {t e n : Nat} (hu : P.underlying t = some (.array n e)) (hs : ∀ w, (sizeOf e).run P w = .ok 1 w) (B : Nat) (x : Int) (w : World) (h0 : 0 ≤ x) (hk : x.toNat < n) :
    (Instr.indexAt t (.pointer (some ⟨B, 0, none⟩)) (.int .i64 x)).run P w = .ok (.pointer (some ⟨B, x.toNat, none⟩)) w := by
  have h1 : x < (n : Int) := by omega
  unfold Instr.indexAt
  simp only [Sem.run_bind, asIntOf, Sem.run_pure, Result.andThen_ok, run_underlying hu, Instr.sureAddr]
  rw [if_pos ⟨h0, h1⟩]
  simp only [Sem.run_bind, hs, Result.andThen_ok, Sem.run_pure, Nat.mul_one]
  unfold Addr.add
  split
  · rename_i h; rw [h]
  · simp
theorem wpList_index_arr {P : Program} {ops : Array Oper} {rest : List Oper} {o : Oper} {a : Act} {w : World} {Q : Exit → Act → World → Prop} (hgd : o.guard = none) (t : TypeId) (x i : Operand) (ho : o.op = .index t x i) (c : Array Value) (k : Int) (v : Value)
    (hx : a.eval x = .agg c) (hi : a.eval i = .int .i64 k) (hr : (Instr.index t (.agg c) (.int .i64 k)).run P w = .ok v w) (h : wpList P ops Q rest (a.put o.dst v) w) : wpList P ops Q (o :: rest) a w :=
  wpList_plain hgd fun _ hK => by
    unfold Oper.wp execOp
    simp only [ho, hx, hi, Sem.run_bind, hr, Result.andThen_ok, Sem.run_pure]
    exact hK _ _ h
theorem wpList_indexAt_arr {P : Program} {ops : Array Oper} {rest : List Oper} {o : Oper} {a : Act} {w : World} {Q : Exit → Act → World → Prop} (hgd : o.guard = none) (t : TypeId) (x i : Operand) (ho : o.op = .indexAddr t x i) (B : Nat) (k : Int)
    (hx : a.eval x = .pointer (some ⟨B, 0, none⟩)) (hi : a.eval i = .int .i64 k) (hr : (Instr.indexAt t (.pointer (some ⟨B, 0, none⟩)) (.int .i64 k)).run P w = .ok (.pointer (some ⟨B, k.toNat, none⟩)) w) (h : wpList P ops Q rest (a.put o.dst (.pointer (some ⟨B, k.toNat, none⟩))) w) : wpList P ops Q (o :: rest) a w :=
  wpList_plain hgd fun _ hK => by
    unfold Oper.wp execOp
    simp only [ho, hx, hi, Sem.run_bind, hr, Result.andThen_ok, Sem.run_pure]
    exact hK _ _ h
set_option maxRecDepth 100000 in
set_option maxHeartbeats 400000 in
theorem same_yes (B B' : Nat) (c d : Array Value) (f g : Nat → Int) (w : World) (hB : w.heap[B]? = some (.cells c 130 (0, 0))) (hB' : w.heap[B']? = some (.cells d 130 (0, 0))) (hc : Bs c f) (hd : Bs d g)
    (hx : ∀ k, k < 65536 → bits .xor .u8 (f k) (g k) = 0) :
    Calls Tryz.prog 36 #[.pointer (some ⟨B, 0, none⟩), .pointer (some ⟨B', 0, none⟩)] w fun e w' => e = .returned (.tuple #[.int .i64 0, .bool true]) ∧ w' = w := by
  have hi : (Tryz.prog.info? 128).map (·.size) = some c.size := by rw [hc.size]; exact info128
  go_enter Tryz.func36, Tryz.ntmps36
  go_wp2_with (refine wpList_load_row rfl 128 (.tmp 17) rfl B rfl 130 c (0, 0) _ hB Tryz.underlying128 rfl hi ?_)
  go_loop [19] (fun v => ∃ x : Int, v = .int .i64 x ∧ 0 ≤ x ∧ x ≤ 65536) (fun v => (65536 - intOf v).toNat)
  case atStart => exact ⟨0, rfl, by decide, by decide⟩
  case round =>
    obtain ⟨x, rfl, x0, x1⟩ := hrel
    by_cases hlt : x < 65536
    · have hk : x.toNat < 65536 := by omega
      have i1 := fun w => run_index_arr Tryz.underlying128 Tryz.underlying5 rfl Tryz.sizeOf5 c x _ w x0 hk (hc.at' _ hk)
      have i2 := fun w => run_indexAt_arr Tryz.underlying128 Tryz.sizeOf5 B' x w x0 hk
      have hdk : w.cell? ⟨B', x.toNat, none⟩ = some (.int .u8 (g x.toNat)) := by rw [cell_of_row _ _ x.toNat d 130 (0, 0) hB']; exact hd.at' _ hk
      have hxk := hx _ hk
      clear hx hk
      go_wp2_with (first
        | (refine wpList_index_arr rfl 128 (.tmp 18) (.tmp 19) rfl c x _ rfl rfl (i1 _) ?_)
        | (refine wpList_indexAt_arr rfl 128 (.tmp 27) (.tmp 25) rfl B' x rfl rfl (i2 _) ?_))
      go_round
      case rel => exact ⟨x + 1, rfl, by omega, by omega⟩
      case measure => simp [intOf]; omega
    · have : x = 65536 := by omega
      subst this
      go_wp2
      go_ret2
      exact ⟨rfl, rfl⟩
set_option maxRecDepth 100000 in
set_option maxHeartbeats 400000 in
theorem same_no (B B' : Nat) (c d : Array Value) (f g : Nat → Int) (w : World) (p m z : Int) (hB : w.heap[B]? = some (.cells c 130 (0, 0))) (hB' : w.heap[B']? = some (.cells d 130 (0, 0))) (hc : Bs c f) (hd : Bs d g)
    (hp0 : 0 ≤ p) (hp : p < 65536) (hx : ∀ k : Nat, (k : Int) < p → bits .xor .u8 (f k) (g k) = 0) (hm : bits .xor .u8 (f p.toNat) (g p.toNat) = m) (hm0 : ¬ m = 0) (hz : 0 ≤ z ∧ z < 100)
    (hl : Calls Tryz.prog 87 #[.int .u8 m] w fun e w' => e = .returned (.int .i64 z) ∧ Below w.heap.size w w') :
    Calls Tryz.prog 36 #[.pointer (some ⟨B, 0, none⟩), .pointer (some ⟨B', 0, none⟩)] w fun e w' => e = .returned (.tuple #[.int .i64 (8 * p + z), .bool false]) ∧ Below w.heap.size w w' := by
  have hi : (Tryz.prog.info? 128).map (·.size) = some c.size := by rw [hc.size]; exact info128
  go_enter Tryz.func36, Tryz.ntmps36
  go_wp2_with (refine wpList_load_row rfl 128 (.tmp 17) rfl B rfl 130 c (0, 0) _ hB Tryz.underlying128 rfl hi ?_)
  go_loop [19] (fun v => ∃ x : Int, v = .int .i64 x ∧ 0 ≤ x ∧ x ≤ p) (fun v => (65536 - intOf v).toNat)
  case atStart => exact ⟨0, rfl, by decide, hp0⟩
  case round =>
    obtain ⟨x, rfl, x0, x1⟩ := hrel
    have hlt : x < 65536 := by omega
    have hk : x.toNat < 65536 := by omega
    have i1 := fun w => run_index_arr Tryz.underlying128 Tryz.underlying5 rfl Tryz.sizeOf5 c x _ w x0 hk (hc.at' _ hk)
    have i2 := fun w => run_indexAt_arr Tryz.underlying128 Tryz.sizeOf5 B' x w x0 hk
    have hdk : w.cell? ⟨B', x.toNat, none⟩ = some (.int .u8 (g x.toNat)) := by rw [cell_of_row _ _ x.toNat d 130 (0, 0) hB']; exact hd.at' _ hk
    by_cases hxp : x < p
    · have hxk := hx x.toNat (by omega)
      clear hx hk hm
      go_wp2_with (first
        | (refine wpList_index_arr rfl 128 (.tmp 18) (.tmp 19) rfl c x _ rfl rfl (i1 _) ?_)
        | (refine wpList_indexAt_arr rfl 128 (.tmp 27) (.tmp 25) rfl B' x rfl rfl (i2 _) ?_))
      go_round
      case rel => exact ⟨x + 1, rfl, by omega, by omega⟩
      case measure => simp [intOf]; omega
    · have : x = p := by omega
      subst this
      clear hx hk
      go_wp2_with (first
        | (refine wpList_index_arr rfl 128 (.tmp 18) (.tmp 19) rfl c x _ rfl rfl (i1 _) ?_)
        | (refine wpList_indexAt_arr rfl 128 (.tmp 27) (.tmp 25) rfl B' x rfl rfl (i2 _) ?_)
        | (go_at_call 87; refine hl.mono ?_; rintro e w' ⟨rfl, hb⟩))
      go_ret2
      exact ⟨rfl, hb⟩
end Go.Proofs.YtadaoelabimmkaaGreatDoor
namespace Go.Proofs.YtadaoelabimmkaaGreatDoor
open Go.RowKit
theorem info5 : (Tryz.prog.info? 5).map (fun i => (i.zero, i.size, i.bytes)) = some (some (.int .u8 0), 1, 1) := by kernel_rfl
theorem make_one (w : World) : (Instr.makeSlice 118 (.int .i64 1) (.int .i64 1)).run Tryz.prog w = .ok (.slice (some ⟨w.heap.size, 0, none⟩) 1 1) (w.alloc (.cells #[.int .u8 0] 5)) := by
  obtain ⟨i0, hi, hz0, hz1, hz2⟩ := info_parts info5
  have := run_make (P := Tryz.prog) w 118 5 i0 (.int .u8 0) Tryz.underlying118 hi hz0 .i64 .i64 1 1 (by decide) (by decide) (by rw [hz2]; decide) (by decide)
  have e : madeCells (Value.int .u8 0).cells ((1 : Int).toNat * i0.size) = #[.int .u8 0] := by rw [hz1]; simp [madeCells, Value.cells, Array.range]; rfl
  rw [e] at this
  exact this
theorem bytes_one (n : Int) (B : Nat) (w : World) (hB : w.cell? ⟨B, 0, none⟩ = some (.int .u8 n)) : (convert 118 9 (.slice (some ⟨B, 0, none⟩) 1 1)).run Tryz.prog w = .ok (.string ⟨#[UInt8.ofNat n.toNat]⟩) w := by
  rw [run_convert_bytes_string w 118 9 5 (some ⟨B, 0, none⟩) 1 1 Tryz.underlying118 Tryz.underlying5 Tryz.underlying9]
  have := run_bytesToString (P := Tryz.prog) w ⟨B, 0, none⟩ 1 1 [n] (by
    have := run_loadCells_list (P := Tryz.prog) w ⟨B, 0, none⟩ [.int .u8 n] (fun j v hv => by
      match j, hv with
      | 0, hv => simp at hv; subst hv; simpa [Addr.add] using hB)
    simpa using this)
  rw [this]
  rfl
def chOf (n at0 : Int) : Int := (48 + bits .and .u8 (n / 2 ^ (7 - at0 % 8).toNat) 1) % 256
set_option maxRecDepth 100000 in
set_option maxHeartbeats 400000 in
theorem get_one (B : Nat) (n : Int) (at0 : Int) (w : World) (hB : w.cell? ⟨B, (at0 / 8).toNat, none⟩ = some (.int .u8 n)) (hlt : B < w.heap.size) (h0 : 0 ≤ at0) (h1 : at0 < 524288) :
    Calls Tryz.prog 86 #[.pointer (some ⟨B, 0, none⟩), .int .i64 at0, .int .i64 1] w fun e w' => e = .returned (.string ⟨#[UInt8.ofNat (chOf n at0).toNat]⟩) ∧ Below w.heap.size w w' := by
  have hmk := make_one
  have hcv := bytes_one
  unfold chOf
  go_enter Tryz.func86, Tryz.ntmps86
  go_wp2
  go_loopw [14] (fun v wr => (v = .int .i64 0 ∧ wr = w.alloc (.cells #[.int .u8 0] 5)) ∨ (v = .int .i64 1 ∧ wr = w.alloc (.cells #[.int .u8 ((48 + bits .and .u8 (n / 2 ^ (7 - at0 % 8).toNat) 1) % 256)] 5)))
    (fun v _ => (1 - intOf v).toNat)
  case atStart => exact .inl ⟨rfl, rfl⟩
  case round =>
    rcases hrel with ⟨rfl, rfl⟩ | ⟨rfl, rfl⟩
    · go_wp2
      go_roundw
      case rel => exact .inr ⟨rfl, by first | trivial | rfl⟩
      case measure => simp [intOf]
    · have hcell := hcv ((48 + bits .and .u8 (n / 2 ^ (7 - at0 % 8).toNat) 1) % 256) w.heap.size (w.alloc (.cells #[.int .u8 ((48 + bits .and .u8 (n / 2 ^ (7 - at0 % 8).toNat) 1) % 256)] 5)) (by simp)
      go_wp2
      go_ret
      exact ⟨rfl, (Below.refl _ w).alloc (Nat.le_refl _) _⟩
end Go.Proofs.YtadaoelabimmkaaGreatDoor
namespace Go.Proofs.YtadaoelabimmkaaGreatDoor
open Go.RowKit
set_option maxRecDepth 100000 in
set_option maxHeartbeats 400000 in
theorem set_1 (B : Nat) (n : Int) (at0 : Int) (w : World) (hB : w.cell? ⟨B, (at0 / 8).toNat, none⟩ = some (.int .u8 n)) (hfz : w.frozen? ⟨B, (at0 / 8).toNat, none⟩ = false) (h0 : 0 ≤ at0) (h1 : at0 < 524288) :
    Calls Tryz.prog 85 #[.pointer (some ⟨B, 0, none⟩), .int .i64 at0, .string ⟨#[49]⟩] w fun e w' => e = .returned (.tuple #[]) ∧ w' = (w.setCell ⟨B, (at0 / 8).toNat, none⟩ (.int .u8 (bits .or .u8 n (128 / 2 ^ (at0 % 8).toNat)))).drew := by
  go_enter Tryz.func85, Tryz.ntmps85
  go_wp2
  go_loopw [11] (fun v wr => (v = .int .i64 0 ∧ wr = w) ∨ (v = .int .i64 1 ∧ wr = (w.setCell ⟨B, (at0 / 8).toNat, none⟩ (.int .u8 (bits .or .u8 n (128 / 2 ^ (at0 % 8).toNat)))).drew))
    (fun v _ => (1 - intOf v).toNat)
  case atStart => exact .inl ⟨rfl, rfl⟩
  case round =>
    rcases hrel with ⟨rfl, rfl⟩ | ⟨rfl, rfl⟩
    · go_wp2
      go_region
      go_wp2
      go_roundw
      case rel => exact .inr ⟨rfl, by first | trivial | rfl⟩
      case measure => simp [intOf]
    · go_wp2
      go_end0
      exact ⟨rfl, rfl⟩
set_option maxRecDepth 100000 in
set_option maxHeartbeats 400000 in
theorem set_0 (B : Nat) (n : Int) (at0 : Int) (w : World) (hB : w.cell? ⟨B, (at0 / 8).toNat, none⟩ = some (.int .u8 n)) (hfz : w.frozen? ⟨B, (at0 / 8).toNat, none⟩ = false) (h0 : 0 ≤ at0) (h1 : at0 < 524288) :
    Calls Tryz.prog 85 #[.pointer (some ⟨B, 0, none⟩), .int .i64 at0, .string ⟨#[48]⟩] w fun e w' => e = .returned (.tuple #[]) ∧ w' = (w.setCell ⟨B, (at0 / 8).toNat, none⟩ (.int .u8 (bits .andNot .u8 n (128 / 2 ^ (at0 % 8).toNat)))).drew := by
  go_enter Tryz.func85, Tryz.ntmps85
  go_wp2
  go_loopw [11] (fun v wr => (v = .int .i64 0 ∧ wr = w) ∨ (v = .int .i64 1 ∧ wr = (w.setCell ⟨B, (at0 / 8).toNat, none⟩ (.int .u8 (bits .andNot .u8 n (128 / 2 ^ (at0 % 8).toNat)))).drew))
    (fun v _ => (1 - intOf v).toNat)
  case atStart => exact .inl ⟨rfl, rfl⟩
  case round =>
    rcases hrel with ⟨rfl, rfl⟩ | ⟨rfl, rfl⟩
    · go_wp2
      go_region
      go_wp2
      go_roundw
      case rel => exact .inr ⟨rfl, by first | trivial | rfl⟩
      case measure => simp [intOf]
    · go_wp2
      go_end0
      exact ⟨rfl, rfl⟩
end Go.Proofs.YtadaoelabimmkaaGreatDoor
namespace Go.Proofs.YtadaoelabimmkaaGreatDoor
open Go.RowKit
theorem info5s : (Tryz.prog.info? 5).map (·.size) = some 1 := by kernel_rfl
theorem arr128 : Tryz.prog.arrayLen 128 = 65536 := by kernel_rfl
theorem wpList_slice_run {P : Program} {ops : Array Oper} {rest : List Oper} {o : Oper} {a : Act} {w : World} {Q : Exit → Act → World → Prop} (hgd : o.guard = none) (t : TypeId) (x : Operand) (lo hi mx : Option Operand) (ho : o.op = .slice t x lo hi mx)
    {v v' : Value} {l h m : Option Value} (hx : a.eval x = v) (hl : lo.map a.eval = l) (hh : hi.map a.eval = h) (hm : mx.map a.eval = m) (hr : (Instr.sliceAt t v l h m).run P w = .ok v' w) (hk : wpList P ops Q rest (a.put o.dst v') w) : wpList P ops Q (o :: rest) a w :=
  wpList_plain hgd fun _ hK => by
    unfold Oper.wp execOp
    simp only [ho, hx, hl, hh, hm, Sem.run_bind, hr, Result.andThen_ok, Sem.run_pure]
    exact hK _ _ hk
set_option maxRecDepth 100000 in
set_option maxHeartbeats 400000 in
theorem fits_any (x n : Int) (w : World) : Calls Tryz.prog 83 #[.int .i64 x, .int .i64 n] w fun e w' => e = .returned (.bool (decide (0 ≤ x) && decide (0 ≤ n) && decide (x ≤ 524288) && decide (n ≤ 524288 - x))) ∧ w' = w := by
  by_cases h0 : 0 ≤ x
  · by_cases h1 : 0 ≤ n
    · by_cases h2 : x ≤ 524288
      · have h3 : IntKind.wrap .i64 (524288 - x) = 524288 - x := by simp [IntKind.wrap, IntKind.bits, IntKind.signed]; omega
        rw [decide_eq_true h0, decide_eq_true h1, decide_eq_true h2]
        go_enter Tryz.func83, Tryz.ntmps83
        go_wp2
        go_ret
        simp
      · rw [decide_eq_true h0, decide_eq_true h1, decide_eq_false h2]
        go_enter Tryz.func83, Tryz.ntmps83
        go_wp2
        go_ret
        simp
    · rw [decide_eq_true h0, decide_eq_false h1]
      go_enter Tryz.func83, Tryz.ntmps83
      go_wp2
      go_ret
      simp
  · rw [decide_eq_false h0]
    go_enter Tryz.func83, Tryz.ntmps83
    go_wp2
    go_ret
    simp
theorem bs_of {c : Array Value} (h1 : c.size = 65536) (h2 : ∀ j, j < 65536 → ∃ n : Int, 0 ≤ n ∧ n ≤ 255 ∧ c[j]? = some (.int .u8 n)) : ∃ f, Bs c f := by
  refine ⟨fun j => if h : j < 65536 then Classical.choose (h2 j h) else 0, h1, ?_, ?_, ?_⟩
  · intro i hi
    rw [dif_pos hi]
    exact (Classical.choose_spec (h2 i hi)).2.2
  · intro i hi
    rw [dif_pos hi]
    exact (Classical.choose_spec (h2 i hi)).1
  · intro i hi
    rw [dif_pos hi]
    exact (Classical.choose_spec (h2 i hi)).2.1
theorem bs_splice {c : Array Value} {f : Nat → Int} (hc : Bs c f) (o : Nat) (l : List UInt8) (h : o + l.length ≤ 65536) : ∃ f', Bs (c.toList.take o ++ Lib.byteCells l ++ c.toList.drop (o + l.length)).toArray f' := by
  have hcs : c.toList.length = 65536 := by rw [Array.length_toList, hc.size]
  have hbl : (Lib.byteCells l).length = l.length := Lib.byteCells_length l
  have htk : (c.toList.take o).length = o := by rw [List.length_take, hcs]; omega
  refine bs_of ?_ ?_
  · simp only [List.size_toArray, List.length_append, List.length_drop, htk, hbl, hcs]
    omega
  · intro j hj
    simp only [List.getElem?_toArray]
    by_cases h1 : j < o
    · refine ⟨f j, hc.lo j hj, hc.hi j hj, ?_⟩
      rw [List.append_assoc, List.getElem?_append_left (by omega), List.getElem?_take, if_pos h1, Array.getElem?_toList]
      exact hc.at' j hj
    · by_cases h2 : j < o + l.length
      · rw [List.append_assoc, List.getElem?_append_right (by omega), htk, List.getElem?_append_left (by omega)]
        have hlt : j - o < l.length := by omega
        refine ⟨(l[j - o].toNat : Int), by omega, by have := l[j - o].toNat_lt; omega, ?_⟩
        simp [Lib.byteCells, hlt]
      · refine ⟨f j, hc.lo j hj, hc.hi j hj, ?_⟩
        rw [List.getElem?_append_right (by rw [List.length_append, htk, hbl]; omega), List.length_append, htk, hbl, List.getElem?_drop, show o + l.length + (j - (o + l.length)) = j by omega, Array.getElem?_toList]
        exact hc.at' j hj
theorem elem128 : Tryz.prog.elem 128 = 5 := by kernel_rfl
set_option maxRecDepth 100000 in
theorem put_run (B : Nat) (c : Array Value) (f : Nat → Int) (x : Int) (s : ByteArray) (w : World) (hB : w.heap[B]? = some (.cells c 130 (0, 0))) (hc : Bs c f) (h0 : 0 ≤ x) (h1 : x + 8 * s.size ≤ 524288) :
    ∃ (v : Value) (c' : Array Value) (f' : Nat → Int), Bs c' f' ∧ (Instr.sliceAt 128 (.pointer (some ⟨B, 0, none⟩)) (some (.int .i64 (x / 8))) none none).run Tryz.prog w = .ok v w ∧
      (Builtin.copy_ #[118, 9] 3 #[v, .string s]).run Tryz.prog w = .ok (goInt s.size) (w.setRow B c') := by
  obtain ⟨o, ho⟩ : ∃ o : Nat, x / 8 = o := ⟨(x / 8).toNat, by omega⟩
  have ho2 : o + s.size ≤ 65536 := by omega
  have hu : Tryz.prog.underlying 128 = some (.array (Tryz.prog.arrayLen 128) (Tryz.prog.elem 128)) := by rw [arr128, elem128]; exact Tryz.underlying128
  have hsl := run_sliceAt_array_l (P := Tryz.prog) w 128 ⟨B, 0, none⟩ hu .i64 (x / 8) (by omega) (by rw [arr128]; omega)
  rw [elem128, Tryz.sizeOf5, arr128, ho] at hsl
  have hl : s.data.toList.length = s.size := rfl
  obtain ⟨f', hf'⟩ := bs_splice hc o s.data.toList (by rw [hl]; omega)
  rw [hl] at hf'
  by_cases he : o = 65536
  · refine ⟨.slice (some ⟨B, 0, none⟩) 0 0, c, f, hc, ?_, ?_⟩
    · rw [ho, hsl]
      simp [slicedAt, he]
    · rw [setRow_self w B c 130 (0, 0) hB]
      have h0 : s.size = 0 := by omega
      rw [h0]
      exact Lib.run_copy_empty_string w 118 9 3 5 _ 0 0 s Tryz.underlying118 (by rw [Option.isSome_map]; have := info5s; cases h : Tryz.prog.info? 5; rw [h] at this; cases this; rfl) h0
  · refine ⟨.slice (some ⟨B, o, none⟩) (65536 - o) (65536 - o), _, f', hf', ?_, ?_⟩
    · rw [ho, hsl]
      have hn : ¬ 65536 = o := Ne.symm he
      simp [slicedAt, Addr.add, hn]
      omega
    · exact Lib.run_copy_row_string w 118 9 3 5 B o (65536 - o) (65536 - o) s c 130 Tryz.underlying118 info5s hB (by omega) (by rw [hc.size]; omega)
set_option maxRecDepth 100000 in
set_option maxHeartbeats 400000 in
theorem put_any (B : Nat) (c : Array Value) (f : Nat → Int) (x : Int) (s : ByteArray) (w : World) (hB : w.heap[B]? = some (.cells c 130 (0, 0))) (hc : Bs c f) (hs : s.size ≤ 2000) :
    Calls Tryz.prog 30 #[.pointer (some ⟨B, 0, none⟩), .int .i64 x, .string s] w fun e w' => ∃ (r : Int) (c' : Array Value) (f' : Nat → Int), e = .returned (.int .i64 r) ∧ Bs c' f' ∧ w' = w.setRow B c' := by
  have HS : Hid (w = w.setRow B c) := (setRow_self w B c 130 (0, 0) hB).symm
  have n1 : ¬ (65536 < (s.size : Int)) := by omega
  have n2 : IntKind.wrap .i64 (8 * (s.size : Int)) = 8 * (s.size : Int) := by simp [IntKind.wrap, IntKind.bits, IntKind.signed]; omega
  by_cases hf : (decide (0 ≤ x) && decide (0 ≤ 8 * (s.size : Int)) && decide (x ≤ 524288) && decide (8 * (s.size : Int) ≤ 524288 - x)) = true
  · have hF := fun w => fits_any x (8 * (s.size : Int)) w
    rw [hf] at hF
    simp only [Bool.and_eq_true, decide_eq_true_eq] at hf
    by_cases h8 : x % 8 = 0
    · obtain ⟨v, c', f', hb', r1, r2⟩ := put_run B c f x s w hB hc hf.1.1.1 (by omega)
      have h9 : x.tmod 8 = 0 := by rw [Int.tmod_eq_emod_of_nonneg hf.1.1.1]; exact h8
      have h10 : x.tdiv 8 = x / 8 := Int.tdiv_eq_ediv_of_nonneg hf.1.1.1
      go_enter Tryz.func30, Tryz.ntmps30
      go_wp2_with (first
        | (go_at_call 83; refine (hF _).mono ?_; rintro e w' ⟨rfl, rfl⟩)
        | (refine wpList_slice_run rfl 128 _ _ _ _ rfl rfl rfl rfl rfl r1 ?_)
        | (at_builtin; refine Lib.wpList_copy_run _ rfl _ _ 118 9 rfl _ _ rfl rfl r2 ?_))
      go_ret
      exact ⟨0, c', f', rfl, hb', rfl⟩
    · have h9 : ¬ x.tmod 8 = 0 := by rw [Int.tmod_eq_emod_of_nonneg hf.1.1.1]; exact h8
      go_enter Tryz.func30, Tryz.ntmps30
      go_wp2_with (go_at_call 83; refine (hF _).mono ?_; rintro e w' ⟨rfl, rfl⟩)
      go_ret
      exact ⟨_, c, f, rfl, hc, HS.out⟩
  · have hF := fun w => fits_any x (8 * (s.size : Int)) w
    rw [Bool.eq_false_iff.2 hf] at hF
    go_enter Tryz.func30, Tryz.ntmps30
    go_wp2_with (go_at_call 83; refine (hF _).mono ?_; rintro e w' ⟨rfl, rfl⟩)
    go_ret
    exact ⟨_, c, f, rfl, hc, HS.out⟩
end Go.Proofs.YtadaoelabimmkaaGreatDoor
