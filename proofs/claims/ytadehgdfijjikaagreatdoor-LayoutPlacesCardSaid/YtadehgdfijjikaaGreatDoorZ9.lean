/- PLAIN LEAN -/
import Derived.Test.YtadehgdfijjikaaGreatDoorZ7
set_option linter.all false
namespace Go.Shp
open Go Go.Yec Go.Proofs
def cntS:List Stp->Nat|[]=>1|x::L=>(x.2.1-x.1+1).toNat*cntS L
def idS:List Pl->Int|[]=>0|p::L=>p.b*WS p.st+idS L
theorem idS_app:∀A B:List Pl,idS (A++B)=idS A+idS B|[],B=>by simp[idS]|p::A,B=>by rw[Qz,idS,idS,idS_app A B];omega
end Go.Shp
