/-
  M6
-/
import Derived.Test.YtadaoelabimmkaaGreatDoorM1
import Derived.Test.YtadaoelabimmkaaGreatDoorY4
set_option linter.all false
namespace Go.Proofs.YtadaoelabimmkaaGreatDoor
open Go.RowKit
open Go.Xec (Glob)
abbrev bit1 : Value := .agg #[.int .i64 4, .int .i64 1, .int .i64 0, .bool false, .string ⟨#[]⟩]
abbrev bitV (b : UInt8) : Value := .agg #[.int .i64 0, .string ⟨#[b]⟩]
theorem plain_call {f : FuncId} {args : List Value} {v : Value} {k : Nat} (h : Xec.givesB Tryz.prog k f args v = true) (w : World) (hg : Glob w) : Calls Tryz.prog f args.toArray w fun e w' => e = .returned v ∧ Below w.heap.size w w' :=
  Calls.mono (Xec.closed_call bound_mixed bound_names h w hg) fun _ _ ⟨h1, h2, h3, h4, h5, h6⟩ => ⟨h1, h4, h6, h5, h3, h2⟩
theorem scalar1 (w : World) (hg : Glob w) : Calls Tryz.prog 62 #[bit1] w fun e w' => e = .returned (.bool true) ∧ Below w.heap.size w w' := plain_call (k := 1000) (args := [bit1]) (by kernel_rfl) w hg
theorem size1 (w : World) (hg : Glob w) : Calls Tryz.prog 19 #[bit1] w fun e w' => e = .returned (.int .i64 1) ∧ Below w.heap.size w w' := plain_call (k := 1000) (args := [bit1]) (by kernel_rfl) w hg
theorem enc0 (w : World) (hg : Glob w) : Calls Tryz.prog 23 #[bit1, bitV 48] w fun e w' => e = .returned (.tuple #[.string ⟨#[48]⟩, .int .i64 0]) ∧ Below w.heap.size w w' := plain_call (k := 1000) (args := [bit1, bitV 48]) (by kernel_rfl) w hg
theorem enc1 (w : World) (hg : Glob w) : Calls Tryz.prog 23 #[bit1, bitV 49] w fun e w' => e = .returned (.tuple #[.string ⟨#[49]⟩, .int .i64 0]) ∧ Below w.heap.size w w' := plain_call (k := 1000) (args := [bit1, bitV 49]) (by kernel_rfl) w hg
theorem dec0 (w : World) (hg : Glob w) : Calls Tryz.prog 25 #[bit1, .string ⟨#[48]⟩] w fun e w' => e = .returned (.tuple #[bitV 48, .int .i64 0]) ∧ Below w.heap.size w w' := plain_call (k := 1000) (args := [bit1, .string ⟨#[48]⟩]) (by kernel_rfl) w hg
theorem dec1 (w : World) (hg : Glob w) : Calls Tryz.prog 25 #[bit1, .string ⟨#[49]⟩] w fun e w' => e = .returned (.tuple #[bitV 49, .int .i64 0]) ∧ Below w.heap.size w w' := plain_call (k := 1000) (args := [bit1, .string ⟨#[49]⟩]) (by kernel_rfl) w hg
theorem bits1 (w : World) (hg : Glob w) : Calls Tryz.prog 37 #[.int .i64 1] w fun e w' => e = .returned bit1 ∧ Below w.heap.size w w' := plain_call (k := 1000) (args := [.int .i64 1]) (by kernel_rfl) w hg
theorem lz_mask (j : Nat) (hj : j < 8) (w : World) (hg : Glob w) : Calls Tryz.prog 87 #[.int .u8 (128 / 2 ^ j)] w fun e w' => e = .returned (.int .i64 j) ∧ Below w.heap.size w w' := by
  match j, hj with
  | 0, _ => exact plain_call (k := 1000) (args := [.int .u8 128]) (by kernel_rfl) w hg
  | 1, _ => exact plain_call (k := 1000) (args := [.int .u8 64]) (by kernel_rfl) w hg
  | 2, _ => exact plain_call (k := 1000) (args := [.int .u8 32]) (by kernel_rfl) w hg
  | 3, _ => exact plain_call (k := 1000) (args := [.int .u8 16]) (by kernel_rfl) w hg
  | 4, _ => exact plain_call (k := 1000) (args := [.int .u8 8]) (by kernel_rfl) w hg
  | 5, _ => exact plain_call (k := 1000) (args := [.int .u8 4]) (by kernel_rfl) w hg
  | 6, _ => exact plain_call (k := 1000) (args := [.int .u8 2]) (by kernel_rfl) w hg
  | 7, _ => exact plain_call (k := 1000) (args := [.int .u8 1]) (by kernel_rfl) w hg
end Go.Proofs.YtadaoelabimmkaaGreatDoor
