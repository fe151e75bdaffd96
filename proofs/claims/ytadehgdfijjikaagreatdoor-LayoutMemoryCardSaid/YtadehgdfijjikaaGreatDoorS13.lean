/- LayoutCopied's closure over the elements of a leaf -/
import Derived.OrdersHeld
import Derived.Deep.RegionHeld
import Derived.Test.YtadehgdfijjikaaGreatDoorM8
import Derived.Test.YtadehgdfijjikaaGreatDoorS12
set_option linter.all false
namespace Go.Proofs
open Go.RowKit Go.Yec Go.Shp Go.Deep
open Go.Xec (QF)
end Go.Proofs
namespace Go
end Go
namespace Go.Proofs
open Go.RowKit Go.Yec Go.Shp Go.Deep
open Go.Xec (QF)
attribute [local go_sem] Oper.semAt_some
theorem idx_any (b n:Int)(h0:1<=n)(h1:n<=1000000000):∃r:Int,0<=r/\r<n/\∀w,Calls Tryz.prog 30 #[.int .i64 b,.int .i64 n] w fun e w'=>e=.returned (.int .i64 r)/\w'=w:=by(have hn:IntKind.u64.wrap n=n:=by rw[IntKind.wrap_u64];omega);have hz:¬n=0:=by{omega};have h2:∃r:Int,wrap64 ((IntKind.u64.wrap b).tmod n)=r/\0<=r/\r<n:=by{(refine⟨_,rfl,?_⟩;have hb:0<=IntKind.u64.wrap b:=by rw[IntKind.wrap_u64];exact Int.emod_nonneg _ (by decide));rw[qg hb];have e1:=Int.emod_nonneg (IntKind.u64.wrap b) (show n≠0 by omega);have e2:=Int.emod_lt_of_pos (IntKind.u64.wrap b) (show 0<n by omega);rw[wrap_id (by omega)];exact⟨e1,e2⟩};obtain⟨r,hr,r0,r1⟩:=h2;refine⟨r,r0,r1,fun w=>?_⟩;clear r0 r1;go_enter Tryz.func30,Tryz.ntmps30;go_wp2;go_ret;subst hr;exact⟨rfl,rfl⟩
end Go.Proofs
