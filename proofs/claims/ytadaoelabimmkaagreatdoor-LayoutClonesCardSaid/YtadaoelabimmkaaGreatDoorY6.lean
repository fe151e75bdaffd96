/-
  FUNCTIONS OF THE LIBRARY WHOSE LAWS THE SHELF GIVES: as a hook of the executor, as entries of the pure executor's table.; THE CLOSED RUN: 'pliantlaw09.sane()' returns true in every world, and leaves what was there as it was.
-/
import Derived.Shelf.Small.Strs
import Derived.Shelf.Strings.Count
import Derived.Shelf.Strings.Search3
import Derived.Shelf.Strings.Prefix
import Derived.Shelf.Strings.LastIndex
import Derived.Shelf.Strings.IndexAnyAll
import Derived.Shelf.Strings.SlTrimAscii
import Derived.Shelf.Strings.Repeat
import Derived.Shelf.Strconv.Atoi
import Derived.Lib.AtoiErrMem
import Derived.Test.YtadaoelabimmkaaGreatDoorY5
import Derived.Test.YtadaoelabimmkaaGreatDoorY4
import Derived.Test.YtadaoelabimmkaaGreatDoorX9
set_option linter.all false
namespace Go.Proofs
open Go.Shelf
open Go.RowKit Go.Lib
theorem Tryz.count (s : ByteArray) (c : UInt8) (w : World) : Calls Tryz.prog 197 #[.string s, .string ⟨#[c]⟩] w fun e w' => e = .returned (.int .i64 (Lib.countByte s.data.toList c)) ∧ w' = w := Any.strings_Count_one Tryz.lays138 s c w
end Go.Proofs
namespace Go.Yec
open Go Go.Xec Go.Proofs
section
variable {D : Type} {V : D → List (PV D)} {hk : Hook}
end
end Go.Yec
namespace Go.Proofs
open Go.RowKit
theorem sane_ends : Xec.endsWith Tryz.prog 100000 9 (.bool true) = true := by kernel_rfl
theorem sane_any (w : World) (hg : Xec.Glob w) : Calls Tryz.prog 9 #[] w fun e w' => e = .returned (.bool true) ∧ Below w.heap.size w w' :=
  Calls.mono (Xec.closed_run bound_mixed bound_names sane_ends w hg) fun _ _ ⟨h1, h2, h3, h4, h5, h6⟩ => ⟨h1, h4, h6, h5, h3, h2⟩
end Go.Proofs
