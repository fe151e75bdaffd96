/-
  PLAIN LEAN, LayoutApart: what holds of a shape that fits.
-/
import Derived.Test.YtadehgdfijjikaaGreatDoorZ5
import Derived.Test.YtadehgdfijjikaaGreatDoorS11
set_option linter.all false
namespace Go.Shp
open Go Go.Yec Go.Proofs
end Go.Shp
