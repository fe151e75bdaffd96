/- PLAIN LEAN -/
import Derived.Test.YtadehgdfijjikaaGreatDoorZ7
set_option linter.all false
namespace Go.Shp
open Go Go.Yec Go.Proofs
theorem map_some {s:Sh}(h:(WM s).2=0):EE s 0 1=true/\∃n,mpS s=some n/\(WM s).1=n.u:=by unfold WM at h|-;cases hv:EE s 0 1;{rw[hv]at h;cases h};cases hm:mpS s with|none=>{rw[hv,hm]at h;cases h}|some n=>exact⟨rfl,n,rfl,rfl⟩
theorem u1H:∀(p1 p2:List Int) (s:Sh) (n:Nd) (off:Int) (st:List Stp),fnd (p1++p2) s n off st=(fnd p1 s n off st).bind fun x=>fnd p2 x.1 x.2.1 x.2.2.1 x.2.2.2|[],p2,s,n,off,st=>by rw[fnd];rfl|i::p1,p2,s,n,off,st=>by rw[Qz,fnd,fnd];split;{split;{exact u1H p1 p2 _ _ _ _};rfl};rfl
theorem v4V {S:Sh}{N:Nd}(hv:EE S 0 1=true)(hm:mpS S=some N):∀x∈lvS S N [] N.u.s [],x.path.length<=99/\∃s n,s.P=[]/\fnd x.path S N N.u.s (Ww S N)=some (s,n,x.off,x.st)/\x=plc s n x.path x.off x.st:=by refine lvS_all (M:=fun s n path off st=>(∃dm,EE s dm (path.length+1)=true)/\fnd path S N N.u.s (Ww S N)=some (s,n,off,st++Ww s n)) ?_ ?_ S N [] N.u.s [] ?_;{rintro D t g n path off st ⟨⟨dm,hv⟩,hf⟩;have:=(x3C hv).2.1;exact⟨by show path.length<=99;omega,_,n,rfl,hf,rfl⟩};{rintro s n path off st i p m a ⟨⟨dm,hv⟩,hf⟩ hp aV uO;have hi:=(JK.1 hp).1;refine⟨⟨_,by rw[JR];simpa using y0S hv hp⟩,?_⟩;rw[u1H,hf,JW];simp only;rw[fnd,JV ⟨by omega,by omega⟩];simp only[QU,hp,aV,uO,fnd]};exact⟨⟨0,hv⟩,rfl⟩
end Go.Shp
