/- LAYOUTGAP -/
import Derived.Test.YtadehgdfijjikaaGreatDoorChecked
import Derived.WalkKit
import Derived.WalkSpells
import Derived.Deep.Light
import Derived.LoopTactic
import Derived.Test.YtadehgdfijjikaaGreatDoorX1
set_option linter.all false
namespace Go.Proofs
open Go.RowKit
def al (m:Int):Prop:=m=1\/m=8\/m=16\/m=32\/m=64
instance (m:Int):Decidable (al m):=inferInstanceAs (Decidable (_\/_))
def good (s b a:Int):Prop:=al a/\0<=s/\s<a/\0<=b/\b<=524288
instance (s b a:Int):Decidable (good s b a):=inferInstanceAs (Decidable (_/\_))
end Go.Proofs
