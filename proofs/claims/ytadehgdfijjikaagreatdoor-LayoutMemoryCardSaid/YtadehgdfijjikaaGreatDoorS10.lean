/- each of the law's file -/
import Derived.Test.YtadehgdfijjikaaGreatDoorS9
import Derived.Test.YtadehgdfijjikaaGreatDoorS5
set_option linter.all false
namespace Go.Shp
open Go Go.Yec Go.Proofs
end Go.Shp
namespace Go.Proofs
open Go.RowKit Go.Yec Go.Shp Go.Deep
open Go.Xec (QF)
end Go.Proofs
