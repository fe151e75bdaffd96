/-
  THE CLOSED RUN: 'pliantlaw09.sane()' returns true in every world, and leaves what was there as it was: by the verified executor, one run by the kernel.
-/
import Derived.Test.YtadaoelabimmkaaGreatDoorXSound
import Derived.Test.YtadaoelabimmkaaGreatDoorChecked
import Derived.KernelRfl
import Derived.Below
namespace Go.Proofs.YtadaoelabimmkaaGreatDoor
open Go.RowKit
theorem sane_ends : Xec.endsWith Tryz.prog 100000 9 (.bool true) = true := by kernel_rfl
theorem sane_names : Xec.namesB Tryz.prog = true := by kernel_rfl
theorem sane_mixed : Tryz.prog.follows .mixedOrders = true := by kernel_rfl
theorem sane_any (w : World) : Calls Tryz.prog 9 #[] w fun e w' => e = .returned (.bool true) ∧ Below w.heap.size w w' :=
  Calls.mono (Xec.closed_run sane_mixed sane_names sane_ends w) fun _ _ ⟨h1, h2, h3, h4, h5, h6⟩ => ⟨h1, h4, h6, h5, h3, h2⟩
#print axioms sane_any
end Go.Proofs.YtadaoelabimmkaaGreatDoor
