/- SHAPES IN MEMORY -/
import Derived.Test.YtadehgdfijjikaaGreatDoorT1
import Derived.Test.YtadehgdfijjikaaGreatDoorZ6
import Derived.Test.YtadehgdfijjikaaGreatDoorS1
set_option linter.all false
namespace Go.Proofs
open Go.RowKit Go.Yec Go.Shp
def tyC (t:Ty):List Value:=[.int .i64 t.k,.int .i64 t.p,.int .i64 t.q,.bool t.v,.string t.pic]
end Go.Proofs
