/- whole -/
import Derived.Lib.BufferMore
import Derived.Test.YtadehgdfijjikaaGreatDoorS4
set_option linter.all false
namespace Go.Proofs
open Go.RowKit Go.Yec Go.Shp Go.Deep
open Go.Xec (QF)
section
variable {w w':World} {base e n sz B t:Nat} {v:Value} {xs:List Value} {c:Array Value}
theorem owm_other {base' e' m sz':Nat}{v':Value}{ys:List Value}(he:e≠e')(h:w.ownsRow base e sz v n xs)(h':w.ownsRow base' e' sz' v' m ys)(hg:w.grownBy w' v.ownBlock):w'.ownsRow base' e' sz' v' m ys:=v2V h' fun g ja=>hg.block g (z6J h' ja) fun eX=>by obtain⟨-,c,hc⟩:=x5R h eX.symm;obtain⟨-,c',aO⟩:=x5R h' ja;rw[hc]at aO;cases aO;exact he rfl
end
end Go.Proofs
