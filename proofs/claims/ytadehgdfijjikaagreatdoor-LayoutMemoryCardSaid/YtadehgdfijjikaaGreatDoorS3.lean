/- few -/
import Derived.Test.YtadehgdfijjikaaGreatDoorS2
import Derived.Test.YtadehgdfijjikaaGreatDoorY10
set_option linter.all false
namespace Go.Proofs
open Go.RowKit Go.Yec Go.Shp
end Go.Proofs
