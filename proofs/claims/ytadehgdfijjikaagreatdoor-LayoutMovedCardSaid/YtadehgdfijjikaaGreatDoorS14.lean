/-
  Grouped shapes in memory.;slices.Equal of two lists of steps that are the same, walked.
-/
import Derived.Test.YtadehgdfijjikaaGreatDoorS13
import Derived.Test.YtadehgdfijjikaaGreatDoorO1
import Derived.Test.YtadehgdfijjikaaGreatDoorZ9
import Derived.Test.YtadehgdfijjikaaGreatDoorS7
set_option linter.all false
namespace Go.Proofs
open Go.RowKit Go.Yec Go.Shp Go.Deep
open Go.Xec (Glob)
theorem v5S (a b:Int)(w:World)(hb:1 <= b)(aO:b <= 1000000) :
    Calls Tryz.prog 30 #[.int .i64 a, .int .i64 b] w fun e w'=>(∃ r:Int,e = .returned (.int .i64 r)/\0 <= r/\r<b)/\w'=w:=by
  have hw:IntKind.u64.wrap b=b:=by rw [IntKind.wrap_u64];omega
  have h0:¬ IntKind.u64.wrap b=0:=by omega
  have hx:0 <= IntKind.u64.wrap a:=by rw [IntKind.wrap_u64];omega
  have h1:=Int.emod_lt_of_pos (IntKind.u64.wrap a) (show 0<b by omega)
  have h2:=Int.emod_nonneg (IntKind.u64.wrap a) (show b≠0 by omega)
  have h3:wrap64 (IntKind.u64.wrap a%b)=IntKind.u64.wrap a%b:=by unfold wrap64;omega
  go_enter Tryz.func30,Tryz.ntmps30;go_wp2;go_ret;exact ⟨⟨_,rfl,h2,h1⟩,rfl⟩
section
open Go.ChangeShapes Go.WideShapes Go.ChangeAt Go.Joins
variable {H:Type} {enc:TypeId×Value->H} {w:World} {base:Nat} {spare:Nat->Bool} {held:Bool}
end
end Go.Proofs
namespace Go.Proofs
open Go.RowKit Go.Yec Go.Shp Go.Deep
set_option maxRecDepth 100000 in
set_option maxHeartbeats 2000000 in
theorem eqSteps_any (L:List Stp)(w:World)(v v':Value)(h:x9C w v L)(h':x9C w v' L)(hL:L.length <= 1000000) :
    Calls Tryz.prog 37 #[v,v'] w fun e w'=>e = .returned (.bool true)/\Below w.heap.size w w':=by
  obtain ⟨a,cap,rfl⟩:=h.form;obtain ⟨a',cap',rfl⟩:=h'.form;go_enter Tryz.func37,Tryz.ntmps37;go_wp2
  go_loopw [13] (fun vx wr=> ∃ x:Int,vx = .int .i64 x/\0 <= x/\x <= L.length/\Below w.heap.size w wr) (fun vx _=>(L.length-intOf vx).toNat)
  case atStart=>exact ⟨0,rfl,by omega,by omega,Below.refl _ _⟩
  case round =>
    obtain ⟨x,rfl,x0,x1,hb⟩:=hrel
    by_cases ai:x<(L.length:Int)
    . obtain ⟨b,o,cap1,y,hv,aM,hy,c0,c1,c2⟩:=(StepsS.below h hb).at (i:=x.toNat) (by omega)
      obtain ⟨b',o',cap1',y',kH,xe,iS,c0',c1',c2'⟩:=(StepsS.below h' hb).at (i:=x.toNat) (by omega)
      cases hv;cases kH;rw [hy] at iS;cases iS;obtain ⟨y1,y2,y3⟩:=y;simp only at c0 c1 c2 c0' c1' c2';clear h h' hy;go_wp2
      go_quiet (fail)
      go_wp2
      go_roundw
      case rel=>exact ⟨_,rfl,by omega,by omega,x8A hb _⟩
      case measure=>simp [intOf];omega
    . have:x=L.length:=by omega
      subst this;clear h h';go_wp2;go_ret;exact ⟨rfl,hb⟩
end Go.Proofs
