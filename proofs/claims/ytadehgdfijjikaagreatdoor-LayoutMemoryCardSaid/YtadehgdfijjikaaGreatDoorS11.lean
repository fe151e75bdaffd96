/- slices -/
import Derived.Shelf.Spec.SlicesGrow
import Derived.RangeFuncRecord
import Derived.RangeFuncSeq
import Derived.RangeFuncNested
import Derived.Stop.RegionWithIn
import Derived.RangeFuncCalls
import Derived.TacticsInMore
import Derived.OwnWalkIn
import Derived.LoopIn
import Derived.Test.YtadehgdfijjikaaGreatDoorS9
set_option linter.all false
namespace Go.Proofs
open Go.RowKit Go.Yec Go.Shp Go.Deep
open Go.Shelf
end Go.Proofs
namespace Go.Proofs
open Go.RowKit Go.Yec Go.Shp Go.Deep
end Go.Proofs
namespace Go.Shp
open Go Go.Yec Go.Proofs
end Go.Shp
namespace Go.Proofs
open Go.RowKit Go.Yec Go.Shp Go.Deep
open Go.Xec (QF)
end Go.Proofs
namespace Go.Proofs
open Go Go.RowKit
variable {P:Program}
end Go.Proofs
namespace Go.Proofs
open Go.RowKit Go.Yec Go.Shp Go.Deep
open Go.Xec (QF)
attribute [local go_sem] Oper.semAt_some
attribute [local go_sem] Oper.semAt_some
attribute [local go_sem] Oper.semAt_some
attribute [local go_sem] Oper.semAt_some
attribute [local go_sem] Oper.semAt_some
end Go.Proofs
namespace Go.Shp
end Go.Shp
namespace Go.Proofs
open Go.RowKit Go.Yec Go.Shp Go.Deep
open Go.Xec (QF)
end Go.Proofs
namespace Go.Shp
open Go Go.Yec Go.Proofs
end Go.Shp
namespace Go.Proofs
open Go.RowKit Go.Yec Go.Shp Go.Deep
open Go.Xec (QF)
end Go.Proofs
namespace Go.Shp
open Go Go.Yec Go.Proofs
end Go.Shp
namespace Go.Proofs
open Go.RowKit Go.Yec Go.Shp Go.Deep
open Go.Xec (QF)
end Go.Proofs
namespace Go.Shp
open Go Go.Yec Go.Proofs
end Go.Shp
namespace Go.Proofs
open Go.RowKit Go.Yec Go.Shp Go.Deep
open Go.Xec (QF)
end Go.Proofs
namespace Go.Shp
open Go Go.Yec Go.Proofs
end Go.Shp
