/-
  THE MEMORY's ZERO VALUE: its cells are 65536 bytes 0.; M1; M2; M3; M4; M5; LayoutClones, LayoutStored: Put turns the memory's bytes alone.
-/
import Derived.Test.YtadaoelabimmkaaGreatDoorChecked
import Derived.KernelRfl
import Derived.WalkKit
import Derived.WalkSpells
import Derived.Deep.Light
import Derived.LoopTactic
import Derived.Deep.WholeRow
import Derived.Lib.BufferWrite
import Derived.Lib.SlBuf
set_option linter.all false
namespace Go.Proofs.YtadaoelabimmkaaGreatDoor
def Zs (l : List Value) (n : Nat) : Prop:=l = List.replicate n (.int .u8 0)
theorem Zs.app {a b : List Value} {n : Nat} (h1 : Zs a n) (h2 : Zs b n) : Zs (List.append a b) (n * 2):=by
  unfold Zs at *
  subst h1 h2
  show List.replicate n _ ++ List.replicate n _ = _
  rw [List.replicate_append_replicate,Nat.mul_two]
theorem z2Q {l : List Value} {n : Nat} (h : Zs l n) : Zs (List.toArray l).toList n:=h
set_option maxRecDepth 100000 in
theorem zero130 : Zs Tryz.zeroCells130.toList (64 * 2 * 2 * 2 * 2 * 2 * 2 * 2 * 2 * 2 * 2):=by
  unfold Tryz.zeroCells130
  refine z2Q ?_
  refine .app ?_ ?_ <;> refine .app ?_ ?_ <;> refine .app ?_ ?_ <;> refine .app ?_ ?_ <;> refine .app ?_ ?_ <;> refine .app ?_ ?_ <;> refine .app ?_ ?_ <;> refine .app ?_ ?_ <;> refine .app ?_ ?_ <;> refine .app ?_ ?_ <;> exact rfl
theorem v1E : Tryz.zeroCells130 = Array.replicate 65536 (.int .u8 0):=by
  apply Array.ext'
  rw [Array.toList_replicate]
  exact zero130
end Go.Proofs.YtadaoelabimmkaaGreatDoor
namespace Go.Proofs.YtadaoelabimmkaaGreatDoor
open Go.RowKit
set_option maxRecDepth 100000 in
set_option maxHeartbeats 400000 in
theorem new_any (w : World) :
    Calls Tryz.prog 29 #[] w fun e w'=>e = .returned (.pointer (some ⟨w.heap.size, 0,none⟩)) /\ w' = w.alloc (.cells Tryz.zeroCells130 130):=by
  go_enter Tryz.func29,Tryz.ntmps29
  go_wp2
  go_ret
  exact ⟨rfl,rfl⟩
end Go.Proofs.YtadaoelabimmkaaGreatDoor
namespace Go.Proofs.YtadaoelabimmkaaGreatDoor
open Go.RowKit
theorem v1L (w : World) (c c' : Array Value) (t : TypeId) : (w.alloc (.cells c t)).setRow w.heap.size c' = w.alloc (.cells c' t):=World.setRow_alloc_new w c c' t
end Go.Proofs.YtadaoelabimmkaaGreatDoor
namespace Go.Proofs.YtadaoelabimmkaaGreatDoor
open Go.RowKit
structure Bs (c : Array Value) (f : Nat -> Int) : Prop where
  size : c.size = 65536
  at' : ∀ i,i < 65536 -> c[i]? = some (.int .u8 (f i))
  lo : ∀ i,i < 65536 -> 0 <= f i
  hi : ∀ i,i < 65536 -> f i <= 255
theorem run_index_arr {P : Program} {t e n : Nat} {d : TypeDesc} (hu : P.underlying t = some (.array n e)) (he : P.underlying e = some d) (hd : (match d with | .struct _ | .array _ _=>true | _=>false) = false) (hs : ∀ w,(sizeOf e).run P w = .ok 1 w) (c : Array Value) (x : Int) (v : Value) (w : World) (h0 : 0 <= x) (hk : x.toNat < n) (hc : c[x.toNat]? = some v) :
    (Instr.index t (.agg c) (.int .i64 x)).run P w = .ok v w:=by
  have h1 : x < (n : Int):=by omega
  have ha : (isAgg e).run P w = .ok false w:=by
    unfold isAgg
    rw [Sem.run_bind,run_underlying he w]
    cases d <;> simp_all
  unfold Instr.index
  simp only [Sem.run_bind,asIntOf,Sem.run_pure,Result.andThen_ok,run_underlying hu]
  rw [if_pos ⟨h0,h1⟩]
  simp only [Sem.run_bind,hs,Result.andThen_ok,part,ha,Nat.mul_one]
  simp [hc]
theorem wpList_index_arr {P : Program} {ops : Array Oper} {rest : List Oper} {o : Oper} {a : Act} {w : World} {Q : Exit -> Act -> World -> Prop} (hgd : o.guard = none) (t : TypeId) (x i : Operand) (ho : o.op = .index t x i) (c : Array Value) (k : Int) (v : Value)
    (hx : a.eval x = .agg c) (hi : a.eval i = .int .i64 k) (hr : (Instr.index t (.agg c) (.int .i64 k)).run P w = .ok v w) (h : wpList P ops Q rest (a.put o.dst v) w) : wpList P ops Q (o :: rest) a w :=
  wpList_plain hgd fun _ hK=>by
    unfold Oper.wp execOp
    simp only [ho,hx,hi,Sem.run_bind,hr,Result.andThen_ok,Sem.run_pure]
    exact hK _ _ h
end Go.Proofs.YtadaoelabimmkaaGreatDoor
namespace Go.Proofs.YtadaoelabimmkaaGreatDoor
open Go.RowKit
theorem info5 : (Tryz.prog.info? 5).map (fun i=>(i.zero,i.size,i.bytes)) = some (some (.int .u8 0), 1, 1):=by kernel_rfl
def chOf (n at0 : Int) : Int:=(48 + bits .and .u8 (n / 2 ^ (7 - at0 % 8).toNat) 1) % 256
end Go.Proofs.YtadaoelabimmkaaGreatDoor
namespace Go.Proofs.YtadaoelabimmkaaGreatDoor
open Go.RowKit
end Go.Proofs.YtadaoelabimmkaaGreatDoor
namespace Go.Proofs.YtadaoelabimmkaaGreatDoor
open Go.RowKit
theorem info5s : (Tryz.prog.info? 5).map (·.size) = some 1:=by kernel_rfl
theorem z2L : Tryz.prog.arrayLen 128 = 65536:=by kernel_rfl
theorem x7U {P : Program} {ops : Array Oper} {rest : List Oper} {o : Oper} {a : Act} {w : World} {Q : Exit -> Act -> World -> Prop} (hgd : o.guard = none) (t : TypeId) (x : Operand) (lo hi mx : Option Operand) (ho : o.op = .slice t x lo hi mx)
    {v v' : Value} {l h m : Option Value} (hx : a.eval x = v) (hl : lo.map a.eval = l) (hh : hi.map a.eval = h) (hm : mx.map a.eval = m) (hr : (Instr.sliceAt t v l h m).run P w = .ok v' w) (hk : wpList P ops Q rest (a.put o.dst v') w) : wpList P ops Q (o :: rest) a w :=
  wpList_plain hgd fun _ hK=>by
    unfold Oper.wp execOp
    simp only [ho,hx,hl,hh,hm,Sem.run_bind,hr,Result.andThen_ok,Sem.run_pure]
    exact hK _ _ hk
set_option maxRecDepth 100000 in
set_option maxHeartbeats 400000 in
theorem y5K (x n : Int) (w : World) : Calls Tryz.prog 83 #[.int .i64 x, .int .i64 n] w fun e w' => e = .returned (.bool (decide (0 <= x) && decide (0 <= n) && decide (x <= 524288) && decide (n <= 524288 - x))) /\ w' = w := by
  by_cases h0 : 0 <= x
  . by_cases h1 : 0 <= n
    . by_cases h2 : x <= 524288
      . have h3 : IntKind.wrap .i64 (524288 - x) = 524288 - x := by simp [IntKind.wrap, IntKind.bits, IntKind.signed]; omega
        rw [decide_eq_true h0,decide_eq_true h1,decide_eq_true h2]
        go_enter Tryz.func83,Tryz.ntmps83
        go_wp2
        go_ret
        simp
      . rw [decide_eq_true h0, decide_eq_true h1, decide_eq_false h2]
        go_enter Tryz.func83,Tryz.ntmps83
        go_wp2
        go_ret
        simp
    . rw [decide_eq_true h0, decide_eq_false h1]
      go_enter Tryz.func83,Tryz.ntmps83
      go_wp2
      go_ret
      simp
  . rw [decide_eq_false h0]
    go_enter Tryz.func83,Tryz.ntmps83
    go_wp2
    go_ret
    simp
theorem bs_of {c : Array Value} (h1 : c.size = 65536) (h2 : ∀ j,j < 65536 -> ∃ n : Int, 0 <= n /\ n <= 255 /\ c[j]? = some (.int .u8 n)) : ∃ f,Bs c f:=by
  refine ⟨fun j=>if h : j < 65536 then Classical.choose (h2 j h) else 0,h1, ?_, ?_, ?_⟩
  . intro i hi
    rw [dif_pos hi]
    exact (Classical.choose_spec (h2 i hi)).2.2
  . intro i hi
    rw [dif_pos hi]
    exact (Classical.choose_spec (h2 i hi)).1
  . intro i hi
    rw [dif_pos hi]
    exact (Classical.choose_spec (h2 i hi)).2.1
theorem w1L {c : Array Value} {f : Nat -> Int} (hc : Bs c f) (o : Nat) (l : List UInt8) (h : o + l.length <= 65536) : ∃ f', Bs (c.toList.take o ++ Lib.byteCells l ++ c.toList.drop (o + l.length)).toArray f' := by
  have hcs : c.toList.length = 65536:=by rw [Array.length_toList,hc.size]
  have hbl : (Lib.byteCells l).length = l.length:=Lib.byteCells_length l
  have htk : (c.toList.take o).length = o:=by rw [List.length_take,hcs]; omega
  refine bs_of ?_ ?_
  . simp only [List.size_toArray, List.length_append, List.length_drop, htk, hbl, hcs]
    omega
  . intro j hj
    simp only [List.getElem?_toArray]
    by_cases h1 : j < o
    . refine ⟨f j, hc.lo j hj, hc.hi j hj, ?_⟩
      rw [List.append_assoc,List.getElem?_append_left (by omega),List.getElem?_take,if_pos h1,Array.getElem?_toList]
      exact hc.at' j hj
    . by_cases h2 : j < o + l.length
      . rw [List.append_assoc, List.getElem?_append_right (by omega), htk, List.getElem?_append_left (by omega)]
        have hlt : j - o < l.length:=by omega
        refine ⟨(l[j - o].toNat : Int),by omega,by have:=l[j - o].toNat_lt; omega, ?_⟩
        simp [Lib.byteCells,hlt]
      . refine ⟨f j, hc.lo j hj, hc.hi j hj, ?_⟩
        rw [List.getElem?_append_right (by rw [List.length_append,htk,hbl]; omega),List.length_append,htk,hbl,List.getElem?_drop,show o + l.length + (j - (o + l.length)) = j by omega,Array.getElem?_toList]
        exact hc.at' j hj
theorem z4K : Tryz.prog.elem 128 = 5:=by kernel_rfl
set_option maxRecDepth 100000 in
theorem put_run (B : Nat) (c : Array Value) (f : Nat -> Int) (x : Int) (s : ByteArray) (w : World) (hB : w.heap[B]? = some (.cells c 130 (0, 0))) (hc : Bs c f) (h0 : 0 <= x) (h1 : x + 8 * s.size <= 524288) :
    ∃ (v : Value) (c' : Array Value) (f' : Nat -> Int), Bs c' f' /\ (Instr.sliceAt 128 (.pointer (some ⟨B, 0, none⟩)) (some (.int .i64 (x / 8))) none none).run Tryz.prog w = .ok v w /\
      (Builtin.copy_ #[118, 9] 3 #[v, .string s]).run Tryz.prog w = .ok (goInt s.size) (w.setRow B c'):=by
  obtain ⟨o,ho⟩ : ∃ o : Nat,x / 8 = o:=⟨(x / 8).toNat,by omega⟩
  have ho2 : o + s.size <= 65536:=by omega
  have hu : Tryz.prog.underlying 128 = some (.array (Tryz.prog.arrayLen 128) (Tryz.prog.elem 128)):=by rw [z2L,z4K]; exact Tryz.underlying128
  have hsl:=run_sliceAt_array_l (P:=Tryz.prog) w 128 ⟨B, 0,none⟩ hu .i64 (x / 8) (by omega) (by rw [z2L]; omega)
  rw [z4K,Tryz.sizeOf5,z2L,ho] at hsl
  have hl : s.data.toList.length = s.size:=rfl
  obtain ⟨f',hf'⟩:=w1L hc o s.data.toList (by rw [hl]; omega)
  rw [hl] at hf'
  by_cases he : o = 65536
  . refine ⟨.slice (some ⟨B, 0, none⟩) 0 0, c, f, hc, ?_, ?_⟩
    . rw [ho, hsl]
      simp [slicedAt,he]
    . rw [setRow_self w B c 130 (0, 0) hB]
      have h0 : s.size = 0:=by omega
      rw [h0]
      exact Lib.run_copy_empty_string w 118 9 3 5 _ 0 0 s Tryz.underlying118 (by rw [Option.isSome_map]; have:=info5s; cases h : Tryz.prog.info? 5; rw [h] at this; cases this; rfl) h0
  . refine ⟨.slice (some ⟨B, o, none⟩) (65536 - o) (65536 - o), _, f', hf', ?_, ?_⟩
    . rw [ho, hsl]
      have hn : ¬ 65536 = o:=Ne.symm he
      simp [slicedAt,Addr.add,hn]
      omega
    . exact Lib.run_copy_row_string w 118 9 3 5 B o (65536 - o) (65536 - o) s c 130 Tryz.underlying118 info5s hB (by omega) (by rw [hc.size]; omega)
set_option maxRecDepth 100000 in
set_option maxHeartbeats 400000 in
theorem put_any (B : Nat) (c : Array Value) (f : Nat -> Int) (x : Int) (s : ByteArray) (w : World) (hB : w.heap[B]? = some (.cells c 130 (0, 0))) (hc : Bs c f) (hs : s.size <= 2000) :
    Calls Tryz.prog 30 #[.pointer (some ⟨B, 0,none⟩), .int .i64 x, .string s] w fun e w'=> ∃ (r : Int) (c' : Array Value) (f' : Nat -> Int),e = .returned (.int .i64 r) /\ Bs c' f' /\ w' = w.setRow B c':=by
  have HS : Hid (w = w.setRow B c):=(setRow_self w B c 130 (0, 0) hB).symm
  have n1 : ¬ (65536 < (s.size : Int)):=by omega
  have n2 : IntKind.wrap .i64 (8 * (s.size : Int)) = 8 * (s.size : Int):=by simp [IntKind.wrap,IntKind.bits,IntKind.signed]; omega
  by_cases hf : (decide (0 <= x) && decide (0 <= 8 * (s.size : Int)) && decide (x <= 524288) && decide (8 * (s.size : Int) <= 524288 - x)) = true
  . have hF := fun w => y5K x (8 * (s.size : Int)) w
    rw [hf] at hF
    simp only [Bool.and_eq_true,decide_eq_true_eq] at hf
    by_cases h8 : x % 8 = 0
    . obtain ⟨v, c', f', hb', r1, r2⟩ := put_run B c f x s w hB hc hf.1.1.1 (by omega)
      have h9 : x.tmod 8 = 0:=by rw [Int.tmod_eq_emod_of_nonneg hf.1.1.1]; exact h8
      have h10 : x.tdiv 8 = x / 8:=Int.tdiv_eq_ediv_of_nonneg hf.1.1.1
      go_enter Tryz.func30,Tryz.ntmps30
      go_wp2_with (first
        | (go_at_call 83; refine (hF _).mono ?_; rintro e w' ⟨rfl,rfl⟩)
        | (refine x7U rfl 128 _ _ _ _ rfl rfl rfl rfl rfl r1 ?_)
        | (at_builtin; refine Lib.wpList_copy_run _ rfl _ _ 118 9 rfl _ _ rfl rfl r2 ?_))
      go_ret
      exact ⟨0,c',f',rfl,hb',rfl⟩
    . have h9 : ¬ x.tmod 8 = 0 := by rw [Int.tmod_eq_emod_of_nonneg hf.1.1.1]; exact h8
      go_enter Tryz.func30,Tryz.ntmps30
      go_wp2_with (go_at_call 83; refine (hF _).mono ?_; rintro e w' ⟨rfl,rfl⟩)
      go_ret
      exact ⟨_,c,f,rfl,hc,HS.out⟩
  . have hF := fun w => y5K x (8 * (s.size : Int)) w
    rw [Bool.eq_false_iff.2 hf] at hF
    go_enter Tryz.func30,Tryz.ntmps30
    go_wp2_with (go_at_call 83; refine (hF _).mono ?_; rintro e w' ⟨rfl,rfl⟩)
    go_ret
    exact ⟨_,c,f,rfl,hc,HS.out⟩
end Go.Proofs.YtadaoelabimmkaaGreatDoor
