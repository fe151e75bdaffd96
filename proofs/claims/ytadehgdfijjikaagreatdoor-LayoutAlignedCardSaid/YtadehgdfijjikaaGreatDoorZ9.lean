/-
  PLAIN LEAN: the first parts of a structure, put into a structure of their own.; PLAIN LEAN: where the parts lie, grouped and by themselves.; PLAIN LEAN: Find of a part, grouped and by itself.; PLAIN LEAN: where variables lie one behind the other (Frame), and on another one (Defined).; PLAIN LEAN: what Check and Map say of grouped shapes.; PLAIN LEAN, LayoutMoved: places along a path.
-/
import Derived.Test.YtadehgdfijjikaaGreatDoorZ7
import Derived.Test.YtadehgdfijjikaaGreatDoorS5
import Derived.Test.YtadehgdfijjikaaGreatDoorZ8
set_option linter.all false
namespace Go.Shp
open Go Go.Yec Go.Proofs
end Go.Shp
namespace Go.Shp
open Go Go.Yec Go.Proofs
end Go.Shp
namespace Go.Shp
open Go Go.Yec Go.Proofs
theorem fndR_at {s:Sh} {n:Nd} {path:List Int} {s':Sh} {n':Nd} {off:Int} {st:List Stp} (hv:valS s 0 1=true) (hm:mpS s=some n) (hf:fnd path s n n.u.s (stpN s n)=some (s',n',off,st)):fndR s path=(plc s' n' path off st, 0):=by
  unfold fndR;rw [hv,hm];simp only [cond_true];rw [hf]
end Go.Shp
namespace Go.Shp
open Go Go.Yec Go.Proofs
theorem map_some {s:Sh} (h:(mapR s).2=0):valS s 0 1=true/\∃ n,mpS s=some n/\(mapR s).1=n.u:=by
  unfold mapR at h |-
  cases hv:valS s 0 1
  . rw [hv] at h; cases h
  . cases hm:mpS s with
    | none=>rw [hv,hm] at h; cases h
    | some n=>exact ⟨rfl,n,rfl,rfl⟩
end Go.Shp
namespace Go.Shp
open Go Go.Yec Go.Proofs
theorem chk_some {s:Sh} (h:chk s=0):valS s 0 1=true/\∃ n,mpS s=some n/\mapR s=(n.u, 0):=by
  unfold chk at h;unfold mapR;cases hv:valS s 0 1
  . rw [hv] at h; cases h
  . rw [hv] at h;cases hm:mpS s with
    | none=>rw [hm] at h; cases h
    | some n=>exact ⟨rfl,n,rfl,rfl⟩
end Go.Shp
namespace Go.Shp
open Go Go.Yec Go.Proofs
theorem v6E:∀ (p1 p2:List Int) (s:Sh) (n:Nd) (off:Int) (st:List Stp),fnd (p1++p2) s n off st=(fnd p1 s n off st).bind fun x=>fnd p2 x.1 x.2.1 x.2.2.1 x.2.2.2
  | [],p2,s,n,off,st=>by rw [fnd]; rfl
  | i::p1,p2,s,n,off,st=>by
    rw [List.cons_append,fnd,fnd];split
    . split
      . exact v6E p1 p2 _ _ _ _
      . rfl
    . rfl
theorem lvS_fnd {S:Sh} {N:Nd} (hv:valS S 0 1=true) (hm:mpS S=some N):∀ x∈lvS S N [] N.u.s [],x.path.length <= 99/\∃ s n,s.P=[]/\fnd x.path S N N.u.s (stpN S N)=some (s,n,x.off,x.st)/\x=plc s n x.path x.off x.st:=by
  refine v5C (M:=fun s n path off st=>(∃ dm,valS s dm (path.length+1)=true)/\fnd path S N N.u.s (stpN S N)=some (s,n,off,st++stpN s n)) ?_ ?_ S N [] N.u.s [] ?_
  . rintro D t g n path off st ⟨⟨dm,hv⟩,hf⟩
    have:=(x2L hv).2.1
    exact ⟨by show path.length <= 99; omega,_,n,rfl,hf,rfl⟩
  . rintro s n path off st i p m a ⟨⟨dm,hv⟩,hf⟩ hp hmi hai;have hi:=(List.getElem?_eq_some_iff.1 hp).1;refine ⟨⟨_,by rw [List.length_append]; simpa using y4G hv hp⟩, ?_⟩
    rw [v6E,hf,Option.bind_some];simp only;rw [fnd,if_pos ⟨by omega,by omega⟩]
    simp only [Int.toNat_natCast,hp,hmi,hai,fnd]
  . exact ⟨⟨0,hv⟩,rfl⟩
theorem prt_ok:∀ (p:List Int) (s:Sh) {s':Sh}, okS s->prtS s p=some s'->okS s'/\scnt s' <= scnt s
  | [],s,s',h,hp=>by rw [prtS] at hp; cases hp; exact ⟨h,Int.le_refl _⟩
  | i::p,s,s',h,hp=>by
    rw [prtS] at hp;split at hp
    . split at hp
      . rename_i q hq;obtain ⟨h1,h2⟩:=prt_ok p q (u0T h hq) hp;refine ⟨h1,Int.le_trans h2 ?_⟩;obtain ⟨D,P,t,g⟩:=s;have h3:=y5V q (List.mem_of_getElem? hq);have h4:scnt (.node D P t g)=1+x1L P:=by rw [scnt]
        simp only [Sh.P] at h3;omega
      . cases hp
    . cases hp
end Go.Shp
