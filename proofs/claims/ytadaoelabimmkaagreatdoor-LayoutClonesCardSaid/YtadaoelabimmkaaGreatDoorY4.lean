/-
  THE PURE EXECUTOR IS SOUND: code, functions.; PLAIN LEAN: what some functions of the library come to, on lists of bytes.; PUNCH AND UNPUNCH, walked: they read the array of punched characters.; YSeat; fixed.tens: the table of powers, by one closed run.
-/
import Derived.Test.YtadaoelabimmkaaGreatDoorY3
import Derived.Test.YtadaoelabimmkaaGreatDoorY1
import Derived.Lib.Bytealg
import Derived.Lib.IndexAny
import Derived.Lib.LastIndexByte
import Derived.Lib.SlTrimSet
import Derived.Lib.Strings
import Derived.Lib.Atoi
import Derived.Lib.Repeat
import Derived.Test.YtadaoelabimmkaaGreatDoorChecked
import Derived.WalkKit
import Derived.WalkSpells
import Derived.Deep.Light
import Derived.LoopTactic
import Derived.Laws.Rows
import Derived.KernelRfl
import Derived.Below
import Derived.Test.YtadaoelabimmkaaGreatDoorX9
set_option linter.all false
namespace Go.Yec
open Go Go.Xec
variable [GT]
section
variable {D : Type} {V : D → List (PV D)} {P : Program} {hk : Hook} {X : Nat → Prop} {R : Type} {tbl : Tbl D} {sz : Nat}
def CRun (P : Program) (hk : Hook) (fn : FuncId) (sz : Nat) (c : Code) (T : Tm) (H : Hp) (n : Nat) (e : Ex) (T' : Tm) (H' : Hp) (n' : Nat) : Prop := ∃ k0, ∀ k, k0 ≤ k → run P hk k (.code none fn sz c T) H n = .ok e T' H' n'
theorem CRun.of {fn : FuncId} {c : Code} {T T' : Tm} {H H' : Hp} {n n' : Nat} {e : Ex} {k0 : Nat} (h : ∀ k, k0 ≤ k → codeStep P (run P hk k) none fn sz T H n c = .ok e T' H' n') : CRun P hk fn sz c T H n e T' H' n' :=
  ⟨k0 + 1, fun k hk' => by
    obtain ⟨j, rfl⟩ : ∃ j, k = j + 1 := ⟨k - 1, by omega⟩
    exact h j (by omega)⟩
def CodeOk (P : Program) (hk : Hook) (V : D → List (PV D)) (X : Nat → Prop) (fn : FuncId) (sz : Nat) (c : Code) (asg : List Nat) (μ : Mu) (st : Y D) (T : Tm) (H : Hp) (n : Nat) (e : Ex) (st' : Y D) : Prop :=
  ∃ T' H' n', CRun P hk fn sz c T H n e T' H' n' ∧ NoOpt st'.T ∧ (∃ μ', SR V X μ' st' T' H' n' ∧ Gr μ st.B st.m H n μ' st'.B st'.m H' n') ∧ ∀ t, t ∉ asg → pget st'.T t = pget st.T t
theorem drawL_cons (x : YD) (l : List YD) (st : Y D) (W : Ws) (mk : Nat) (K : Y D → Option R) : Yec.drawL tbl (x :: l) st W mk K = drawO tbl x st W mk fun st W mk => Yec.drawL tbl l st W mk K := rfl
theorem CodeOk.mono {fn : FuncId} {c : Code} {a a' : List Nat} {μ : Mu} {st st' : Y D} {T : Tm} {H : Hp} {n : Nat} {e : Ex} (h : CodeOk P hk V X fn sz c a μ st T H n e st') (hs : ∀ t, t ∈ a → t ∈ a') : CodeOk P hk V X fn sz c a' μ st T H n e st' := by
  obtain ⟨T', H', n', h1, h2, h3, h4⟩ := h
  exact ⟨T', H', n', h1, h2, h3, fun t ht => h4 t fun hm => ht (hs t hm)⟩
end
end Go.Yec
namespace Go.Yec
open Go
def hSz (n : Nat) (s : List UInt8) : Bool := decide (s.length < n)
def punL : List UInt8 := [123, 65, 66, 67, 68, 69, 70, 71, 72, 73, 125, 74, 75, 76, 77, 78, 79, 80, 81, 82]
end Go.Yec
namespace Go.Proofs
open Go.RowKit
open Go.Yec (punL)
def punV : Array Value := #[.int .u8 123, .int .u8 65, .int .u8 66, .int .u8 67, .int .u8 68, .int .u8 69, .int .u8 70, .int .u8 71, .int .u8 72, .int .u8 73, .int .u8 125, .int .u8 74, .int .u8 75, .int .u8 76, .int .u8 77, .int .u8 78, .int .u8 79, .int .u8 80, .int .u8 81, .int .u8 82]
theorem run_index_arr {P : Program} {t e n : Nat} {d : TypeDesc} (hu : P.underlying t = some (.array n e)) (he : P.underlying e = some d) (hd : (match d with | .struct _ | .array _ _ => true | _ => false) = false) (hs : ∀ w, (sizeOf e).run P w = .ok 1 w) (c : Array Value) (x : Int) (v : Value) (w : World) (h0 : 0 ≤ x) (hk : x.toNat < n) (hc : c[x.toNat]? = some v) :
    (Instr.index t (.agg c) (.int .i64 x)).run P w = .ok v w := by
  have h1 : x < (n : Int) := by omega
  have ha : (isAgg e).run P w = .ok false w := by
    unfold isAgg
    rw [Sem.run_bind, run_underlying he w]
    cases d <;> simp_all
  unfold Instr.index
  simp only [Sem.run_bind, asIntOf, Sem.run_pure, Result.andThen_ok, run_underlying hu]
  rw [if_pos ⟨h0, h1⟩]
  simp only [Sem.run_bind, hs, Result.andThen_ok, part, ha, Nat.mul_one]
  simp [hc]
theorem wpList_index_arr {P : Program} {ops : Array Oper} {rest : List Oper} {o : Oper} {a : Act} {w : World} {Q : Exit → Act → World → Prop} (hgd : o.guard = none) (t : TypeId) (x i : Operand) (ho : o.op = .index t x i) (c : Array Value) (k : Int) (v : Value)
    (hx : a.eval x = .agg c) (hi : a.eval i = .int .i64 k) (hr : (Instr.index t (.agg c) (.int .i64 k)).run P w = .ok v w) (h : wpList P ops Q rest (a.put o.dst v) w) : wpList P ops Q (o :: rest) a w :=
  wpList_plain hgd fun _ hK => by
    unfold Oper.wp execOp
    simp only [ho, hx, hi, Sem.run_bind, hr, Result.andThen_ok, Sem.run_pure]
    exact hK _ _ h
end Go.Proofs
namespace Go.Yec
open Go Go.Xec Go.Proofs
instance gtSeat : GT := ⟨fun g => cond (Nat.beq g 1) (some punV) none⟩
end Go.Yec
namespace Go.Proofs
open Go.RowKit
theorem bound_names : Xec.namesB Tryz.prog = true := by kernel_rfl
theorem bound_mixed : Tryz.prog.follows .mixedOrders = true := by kernel_rfl
end Go.Proofs
