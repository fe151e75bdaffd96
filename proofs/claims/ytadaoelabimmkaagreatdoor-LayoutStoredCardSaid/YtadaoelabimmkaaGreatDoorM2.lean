/-
  M6
-/
import Derived.Test.YtadaoelabimmkaaGreatDoorM1
import Derived.Test.YtadaoelabimmkaaGreatDoorY13
set_option linter.all false
namespace Go.Proofs.YtadaoelabimmkaaGreatDoor
open Go.RowKit
open Go.Xec (Glob)
end Go.Proofs.YtadaoelabimmkaaGreatDoor
