/- The table of punched characters lies as the rows list it -/
import Derived.Test.YtadehgdfijjikaaGreatDoorRows
import Derived.ProofKit
import Derived.OpenShut
import Derived.LaidMore
import Derived.Lay
import Derived.Lib.LaidU8
import Derived.Test.YtadehgdfijjikaaGreatDoorY12
set_option linter.all false
namespace Go.Proofs.YtadehgdfijjikaaGreatDoor
open Go.RowKit
theorem v1J:ownKnob Tryz.prog.godebug=none:=by kernel_rfl
theorem glob_of {W:World} {l:List (String×DataW Unit)} (hL:laidMet Tryz.prog l W) (hm:("pliant/picture.punched",Rows.laid_pliant_picture_punched)∈l):Xec.Ke W:=by(obtain⟨g,t,cs,fuel,p,h1,h2,h3,h4⟩:=Lib.laidMet.reads hL hm;have hg:Tryz.prog.globalNamed "pliant/picture.punched" =some 0:=by kernel_rfl);(have ht:(Tryz.prog.globals[0]?).map (·.type)=some 274:=by kernel_rfl);(have hu:Tryz.prog.underlying 274=some (.array 20 5):=by kernel_rfl);have hc:Tryz.prog.cellsOf 274=20:=by{kernel_rfl};have AI:Tryz.prog.cellsOf 5=1:=by{kernel_rfl};obtain rfl:=QW (hg.symm.trans h1);obtain rfl:=QW (ht.symm.trans h2);have hd:(Rows.laid_pliant_picture_punched:DataW Unit)=Lib.tabData .u8 [123,65,66,67,68,69,70,71,72,73,125,74,75,76,77,78,79,80,81,82]:=rfl;rw[hd]at h4;have iP:=Lib.cells_of_tab hu Tryz.underlying5 AI hc h4;have yf:cs=UN:=Jl iP;intro g' cs' e;have e:cond (Nat.beq g' 0) (some UN) none=some cs':=e;cases hb:Nat.beq g' 0;{rw[hb]at e;cases e};rw[hb]at e;cases e;have:=Ju hb;subst this;unfold World.var? at h3;rw[hg]at h3;simp only[JK]at h3;split at h3;{rename_i c t fz hh;cases h3;exact⟨t,fz,by rw[<-yf];exact hh⟩};cases h3
end Go.Proofs.YtadehgdfijjikaaGreatDoor
