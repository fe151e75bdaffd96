/-
  THE EXECUTOR IS SOUND: what it comes to, the model comes to; and a closed call.
-/
import Derived.Test.YtadaoelabimmkaaGreatDoorXRange
import Derived.Test.YtadaoelabimmkaaGreatDoorXDraw4
namespace Go.Xec
open Go
section
variable {P : Program} {self : Task → Hp → Nat → R}

theorem code_sound (hm : P.follows .mixedOrders = true) (hN : NamesOk P) (hself : ∀ t H n, TaskS P t H n (self t H n)) {rd : Option Nat} {fn : FuncId} {sz : Nat} {c : Code} {T T' : Tm} {H H' : Hp} {n n' : Nat} {ex : Ex}
    (h : codeStep P self rd fn sz T H n c = .ok ex T' H' n') : CodeS P rd sz c T H n ex T' H' n' := by
  cases c with
  | skip => cases h; exact CodeS.stay (by simp) fun ro Q a w hq => wpIn_skip hq
  | label l => cases h; exact CodeS.stay (by simp) fun ro Q a w hq => wpIn_label hq
  | exit id => cases h; exact CodeS.stay (by simp) fun ro Q a w hq => wpIn_exit hq
  | ret => cases h; exact CodeS.stay (by simp) fun ro Q a w hq => wpIn_ret hq
  | seq x y =>
    obtain ⟨h1, m, h2⟩ := seq_sound hself (show seqK self rd fn sz y (self (.code rd fn sz x T) H n) = .ok ex T' H' n' from h)
    exact CodeS.mk' (by simp) h1 fun β w a ro lo Q x1 x2 x3 x4 x5 x6 x7 => wpIn_seq (wpIn_mono (h2 β w a ro lo Q x1 x2 x3 x4 x5 x6 x7) fun e a' w' hh => by
      cases e <;> first | exact WpX.wp hh | exact hh)
  | cond c x y =>
    obtain ⟨h1, h2⟩ := condR_ok (show cond (okX c) (condK self rd fn sz x y T H n (ev T c)) .bad = .ok ex T' H' n' from h)
    exact cond_sound hself h1 h2
  | block id b => exact block_sound hself h
  | loop b =>
    obtain ⟨h1, m, h2⟩ := seq_sound hself (show seqK self rd fn sz (.loop b) (self (.code rd fn sz b T) H n) = .ok ex T' H' n' from h)
    exact ⟨h1, m + 1, fun β w a ro lo Q x1 x2 x3 x4 x5 x6 x7 => h2 β w a ro lo Q x1 x2 x3 x4 x5 x6 x7⟩
  | region id ops b =>
    cases b with
    | true => exact draw_sound hm hN hself h
    | false =>
      have h : runOps P self sz ops.toList ops.toList T H n = .ok ex T' H' n' := h
      obtain ⟨rfl, h2, h3⟩ := runOps_sound hN hself (ops := ops) rfl ops.toList [] T H n ex T' H' n' rfl h
      refine CodeS.mk' (by simp) h2 fun β w a ro lo Q x1 x2 x3 x4 x5 x6 x7 => wpIn_region ?_
      have := h3 β w a ro lo Q x1 x2 x3 x4 x6 x7
      rw [List.range_eq_range']
      simpa using this
  | rangeFunc f ps assign body => exact range_sound hN hself h
  | _ => cases h

theorem step_sound (hm : P.follows .mixedOrders = true) (hN : NamesOk P) (hself : ∀ t H n, TaskS P t H n (self t H n)) (t : Task) (H : Hp) (n : Nat) : TaskS P t H n (step P self t H n) := by
  cases hr : step P self t H n with
  | bad => cases t <;> trivial
  | ok ex T' H' n' =>
    cases t with
    | code rd fn sz c T => exact code_sound hm hN hself hr
    | call f args => exact call_sound hself hr
    | yield l args => exact yield_sound hself hr
theorem run_sound (hm : P.follows .mixedOrders = true) (hN : NamesOk P) : ∀ (k : Nat) (t : Task) (H : Hp) (n : Nat), TaskS P t H n (run P k t H n)
  | 0, t, H, n => by cases t <;> trivial
  | k + 1, t, H, n => step_sound hm hN (run_sound hm hN k) t H n

/-- no function bears the one name -/
def namesB (P : Program) : Bool := P.funcs.all fun fn => !(fn.name == "runtime.NumGoroutine")
theorem namesB_ok (h : namesB P = true) : NamesOk P := fun f fn hf => by
  have := Array.all_eq_true_iff_forall_mem.1 h fn (Array.mem_of_getElem? hf)
  simpa using this

/-- that the run of a function without arguments, from a heap with nothing, comes to a value that hangs on no block -/
noncomputable def endsWith (P : Program) (k : Nat) (f : FuncId) (v : Value) : Bool := match run P k (.call f []) .leaf 0 with
  | .ok _ T _ _ => cond (plain v) (veq (tget T 0) v) false
  | .bad => false
/-- THE LAW OF THE CLOSED RUN: what was there stays, the rest of the world too; new blocks may lie behind. -/
theorem closed_run (hm : P.follows .mixedOrders = true) (hN : namesB P = true) {k : Nat} {f : FuncId} {v : Value} (h : endsWith P k f v = true) (w : World) :
    Calls P f #[] w fun e w' => e = .returned v ∧ (∀ b, b < w.heap.size → w'.heap[b]? = w.heap[b]?) ∧ w.heap.size ≤ w'.heap.size ∧ w'.os = w.os ∧ w'.output = w.output ∧ w'.tape = w.tape := by
  unfold endsWith at h
  split at h
  · rename_i ex T' H' n' hr
    obtain ⟨h1, h2⟩ := cond_and h
    have hs := run_sound hm (namesB_ok hN) k (.call f []) .leaf 0
    rw [hr] at hs
    have hs : CallS P f [] .leaf 0 (tget T' 0) H' n' := hs
    have no : ∀ i o, hget .leaf i = some o → False := fun i o e => by
      rw [hget_leaf] at e
      cases e
    have hW : WR P (fun _ => none) (hget .leaf) w := ⟨fun i o e => (no i o e).elim, fun i j b c o p e => (no i o e).elim⟩
    have := hs.2.2 (fun _ => none) w [] .nil hW (fun _ _ _ => rfl)
    refine Calls.mono (callsIn_wide.1 this) ?_
    rintro e w' ⟨c, γ, rfl, hv, hE⟩
    refine ⟨?_, fun b hb => hE.frame b hb fun i o c e => (no i o e).elim, hE.size, hE.os, hE.out, hE.tape⟩
    rw [veq_eq h2] at hv
    rw [plain_eq h1 hv]
  · cases h
end
end Go.Xec
