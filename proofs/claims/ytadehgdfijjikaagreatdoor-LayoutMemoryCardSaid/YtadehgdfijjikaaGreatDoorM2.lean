/- M6 -/
import Derived.Test.YtadehgdfijjikaaGreatDoorM1
import Derived.Test.YtadehgdfijjikaaGreatDoorY8
set_option linter.all false
namespace Go.Proofs.YtadehgdfijjikaaGreatDoor
open Go.RowKit
open Go.Xec (QF)
theorem plain_call {f:FuncId}{args:List Value}{v:Value}{k:Nat}(h:Xec.givesB Tryz.prog k f args v=true)(w:World)(hg:QF w):Calls Tryz.prog f args.toArray w fun e w'=>e=.returned v/\Below w.heap.size w w':=Jk (Xec.closed_call x2P x2N h w hg) fun _ _ ⟨h1,h2,h3,h4,h5,h6⟩=>⟨h1,h4,h6,h5,h3,h2⟩
end Go.Proofs.YtadehgdfijjikaaGreatDoor
