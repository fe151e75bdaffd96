/- At of the layout -/
import Derived.Test.YtadehgdfijjikaaGreatDoorS11
import Derived.Test.YtadehgdfijjikaaGreatDoorS10
set_option linter.all false
namespace Go.Proofs
open Go.RowKit Go.Yec Go.Shp Go.Deep
open Go.Xec (QF)
end Go.Proofs
namespace Go.Shp
open Go Go.Yec Go.Proofs
end Go.Shp
namespace Go.Proofs
open Go.RowKit Go.Yec Go.Shp Go.Deep
open Go.Xec (QF)
end Go.Proofs
namespace Go.Shp
open Go Go.Yec Go.Proofs
end Go.Shp
