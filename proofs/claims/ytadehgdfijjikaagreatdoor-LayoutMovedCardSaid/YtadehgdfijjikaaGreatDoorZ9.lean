/-
  PLAIN LEAN: the first parts of a structure, put into a structure of their own.;PLAIN LEAN: where the parts lie, grouped and by themselves.;PLAIN LEAN: Find of a part, grouped and by itself.;PLAIN LEAN: where variables lie one behind the other (Frame), and on another one (Defined).;PLAIN LEAN: what Check and Map say of grouped shapes.;PLAIN LEAN, LayoutMoved: places along a path.
-/
import Derived.Test.YtadehgdfijjikaaGreatDoorZ7
import Derived.Test.YtadehgdfijjikaaGreatDoorS5
import Derived.Test.YtadehgdfijjikaaGreatDoorZ8
set_option linter.all false
namespace Go.Shp
open Go Go.Yec Go.Proofs
theorem u1K {s:Sh}{n:Nd}{path:List Int}{s':Sh}{n':Nd}{off:Int}{st:List Stp}(hv:valS s 0 1=true)(hm:mpS s=some n)(hf:fnd path s n n.u.s (stpN s n)=some (s',n',off,st)):fndR s path=(plc s' n' path off st, 0):=by
  unfold fndR;rw [hv,hm];simp only [cond_true];rw [hf]
theorem map_some {s:Sh}(h:(mapR s).2=0):valS s 0 1=true/\∃ n,mpS s=some n/\(mapR s).1=n.u:=by
  unfold mapR at h |-
  cases hv:valS s 0 1
  . rw [hv] at h;cases h
  . cases hm:mpS s with
    | none=>rw [hv,hm] at h;cases h
    | some n=>exact ⟨rfl,n,rfl,rfl⟩
theorem y5E {s:Sh}(h:chk s=0):valS s 0 1=true/\∃ n,mpS s=some n/\mapR s=(n.u, 0):=by
  unfold chk at h;unfold mapR;cases hv:valS s 0 1
  . rw [hv] at h;cases h
  . rw [hv] at h;cases hm:mpS s with
    | none=>rw [hm] at h;cases h
    | some n=>exact ⟨rfl,n,rfl,rfl⟩
theorem u1H:∀ (p1 p2:List Int) (s:Sh) (n:Nd) (off:Int) (st:List Stp),fnd (p1++p2) s n off st=(fnd p1 s n off st).bind fun x=>fnd p2 x.1 x.2.1 x.2.2.1 x.2.2.2
  | [],p2,s,n,off,st=>by rw [fnd];rfl
  | i::p1,p2,s,n,off,st=>by
    rw [List.cons_append,fnd,fnd];split
    . split
      . exact u1H p1 p2 _ _ _ _
      . rfl
    . rfl
theorem z7L:∀ (p:List Int) (s:Sh) (n:Nd) (off d:Int) (st0 st:List Stp),fnd p s n (off+d) (st0++st)=(fnd p s n off st).map fun x=>(x.1,x.2.1,x.2.2.1+d,st0++x.2.2.2)
  | [],s,n,off,d,st0,st=>by rw [fnd,fnd];rfl
  | i::p,s,n,off,d,st0,st=>by
    rw [fnd,fnd];split
    . split
      . rename_i q m a _ _ _;rw [<- z7L p q m (off+a) d st0 (st++stpN q m),show off+d+a=off+a+d by omega,List.append_assoc]
      . rfl
    . rfl
theorem v6B:∀ (p:List Int) (s:Sh) (n:Nd) (off:Int) (st:List Stp) {s':Sh} {n':Nd} {off':Int} {st':List Stp}, fnd p s n off st=some (s',n',off',st')->prtS s p=some s'
  | [],s,n,off,st,s',n',off',st',h=>by rw [fnd] at h;cases h;rfl
  | i::p,s,n,off,st,s',n',off',st',h=>by
    rw [fnd] at h;rw [prtS];split at h
    . rename_i hi;rw [if_pos hi];split at h
      . rename_i q m a hq _ _;simp only [hq];exact v6B p q m _ _ h
      . cases h
    . cases h
theorem fnd_st:∀ (p:List Int) (s:Sh) (n:Nd) (off:Int) (st:List Stp) {s':Sh} {n':Nd} {off':Int} {st':List Stp}, (∃ st0,st=st0++stpN s n)->fnd p s n off st=some (s',n',off',st')->∃ st0,st'=st0++stpN s' n'
  | [],s,n,off,st,s',n',off',st',h0,h=>by rw [fnd] at h;cases h;exact h0
  | i::p,s,n,off,st,s',n',off',st',h0,h=>by
    rw [fnd] at h;split at h
    . split at h
      . exact fnd_st p _ _ _ _ ⟨_,rfl⟩ h
      . cases h
    . cases h
theorem val_mono:∀ (s:Sh) {dm lv dm' lv':Int}, valS s dm lv=true->dm' <= dm->lv' <= lv->valS s dm' lv'=true:=by
  intro s
  induction s using Sh.ind with
  | h D P t g ih =>
    intro dm lv dm' lv' h h1 h2;cases P with
    | nil =>
      unfold valS at h |-
      simp only [Bool.and_eq_true,decide_eq_true_eq] at h |-
      exact ⟨by omega,by omega,h.2.2⟩
    | cons p P =>
      unfold valS at h |-
      simp only [Bool.and_eq_true,decide_eq_true_eq] at h |-
      obtain ⟨g1,g2,g3,g4,g5,g6⟩:=h;refine ⟨by omega,by omega,g3,g4,ih p (by simp) g5 (by omega) (by omega), ?_⟩
      have key:∀ Q:List Sh,(∀ q∈Q,q∈P)->valL Q (dm+D.length) (lv+1)=true->valL Q (dm'+D.length) (lv'+1)=true:=by
        intro Q
        induction Q with
        | nil=>intro _ _;unfold valL;rfl
        | cons q Q ihQ =>
          intro hm hq;unfold valL at hq |-
          simp only [Bool.and_eq_true] at hq |-
          exact ⟨ih q (by simp [hm q (by simp)]) hq.1 (by omega) (by omega),ihQ (fun x hx=>hm x (by simp [hx])) hq.2⟩
      exact key P (fun _ h=>h) g6
theorem v4V {S:Sh}{N:Nd}(hv:valS S 0 1=true)(hm:mpS S=some N):∀ x∈lvS S N [] N.u.s [],x.path.length <= 99/\∃ s n,s.P=[]/\fnd x.path S N N.u.s (stpN S N)=some (s,n,x.off,x.st)/\x=plc s n x.path x.off x.st:=by
  refine lvS_all (M:=fun s n path off st=>(∃ dm,valS s dm (path.length+1)=true)/\fnd path S N N.u.s (stpN S N)=some (s,n,off,st++stpN s n)) ?_ ?_ S N [] N.u.s [] ?_
  . rintro D t g n path off st ⟨⟨dm,hv⟩,hf⟩
    have:=(x3C hv).2.1
    exact ⟨by show path.length <= 99;omega,_,n,rfl,hf,rfl⟩
  . rintro s n path off st i p m a ⟨⟨dm,hv⟩,hf⟩ hp aS sx;have hi:=(List.getElem?_eq_some_iff.1 hp).1;refine ⟨⟨_,by rw [List.length_append];simpa using y0S hv hp⟩, ?_⟩
    rw [u1H,hf,Option.bind_some];simp only;rw [fnd,if_pos ⟨by omega,by omega⟩]
    simp only [Int.toNat_natCast,hp,aS,sx,fnd]
  . exact ⟨⟨0,hv⟩,rfl⟩
theorem prt_ok:∀ (p:List Int) (s:Sh) {s':Sh}, okS s->prtS s p=some s'->okS s'/\scnt s' <= scnt s
  | [],s,s',h,hp=>by rw [prtS] at hp;cases hp;exact ⟨h,Int.le_refl _⟩
  | i::p,s,s',h,hp=>by
    rw [prtS] at hp;split at hp
    . split at hp
      . rename_i q hq;obtain ⟨h1,h2⟩:=prt_ok p q (z2W h hq) hp;refine ⟨h1,Int.le_trans h2 ?_⟩;obtain ⟨D,P,t,g⟩:=s;have h3:=y5Y q (List.mem_of_getElem? hq);have h4:scnt (.node D P t g)=1+x1L P:=by rw [scnt]
        simp only [Sh.P] at h3;omega
      . cases hp
    . cases hp
theorem val_fnd:∀ (p:List Int) (s:Sh) (n:Nd) (dm lv off:Int) (st:List Stp) {s':Sh} {n':Nd} {off':Int} {st':List Stp}, valS s dm lv=true->0 <= dm->1 <= lv->fnd p s n off st=some (s',n',off',st')->valS s' 0 1=true:=by
  intro p
  induction p with
  | nil =>
    intro s n dm lv off st s' n' off' st' hv h0 h1 h;rw [fnd] at h;cases h;exact val_mono _ hv h0 h1
  | cons i p ih =>
    intro s n dm lv off st s' n' off' st' hv h0 h1 h;rw [fnd] at h;split at h
    . split at h
      . rename_i q m a hq _ _;exact ih q m _ _ _ _ (y0S hv hq) (by omega) (by omega) h
      . cases h
    . cases h
theorem v4Q {S:Sh}{N:Nd}(hc:chk S=0)(hm:mpS S=some N){x:Pl}(hx:x∈lvS S N [] N.u.s []){k:Nat}(hk:k <= x.path.length) :
    ∃ own,prtS S (x.path.take k)=some own/\chk own=0/\(mapR own).2=0/\(fndR S (x.path.take k)).2=0/\(fndR S x.path).2=0/\(fndR own (x.path.drop k)).2=0 /\
      (fndR S x.path).1.off-(fndR S (x.path.take k)).1.off=(fndR own (x.path.drop k)).1.off-(mapR own).1.s/\(fndR S x.path).1.b=(fndR own (x.path.drop k)).1.b/\(fndR S x.path).1.t=(fndR own (x.path.drop k)).1.t /\
      own.D.length <= (fndR S (x.path.take k)).1.st.length/\(fndR S x.path).1.st=(fndR S (x.path.take k)).1.st.take ((fndR S (x.path.take k)).1.st.length-own.D.length)++(fndR own (x.path.drop k)).1.st:=by
  obtain ⟨hv,N',uM, -⟩:=y5E hc;rw [hm] at uM;cases uM;obtain ⟨-, s,n,hs,hf,yw⟩:=v4V hv hm x hx;have lH:=hf;rw [<- List.take_append_drop k x.path,u1H] at hf;obtain ⟨⟨own,n1,off1,st1⟩,h1,h2⟩:=Option.bind_eq_some_iff.1 hf;simp only at h2;obtain ⟨-, -, -, -, bR, -⟩:=v6C _ S N 0 1 N.u.s (stpN S N) hv (by omega) hm (z9T hv hm) (x5S S 0 1 hv N hm).2.1 h1
  obtain ⟨st0,rfl⟩:=fnd_st _ _ _ _ _ ⟨[],rfl⟩ h1;have jL:=val_fnd _ S N 0 1 _ _ hv (by omega) (by omega) h1
  have aQ:chk own=0:=by
    unfold chk;rw [jL,bR];rfl
  have dC:mapR own=(n1.u, 0):=by
    unfold mapR;rw [jL,bR];rfl
  have jP:=z7L (x.path.drop k) own n1 n1.u.s (off1-n1.u.s) st0 (stpN own n1);rw [show n1.u.s+(off1-n1.u.s)=off1 by omega,h2] at jP
  obtain ⟨⟨s2,n2,off2,st2⟩,h3,h4⟩:=Option.map_eq_some_iff.1 jP.symm;simp only [Prod.mk.injEq] at h4;obtain ⟨rfl,rfl,h5,h6⟩:=h4;have e1:=u1K hv hm h1;have e2:=u1K hv hm lH;have e3:=u1K jL bR h3;have hl:=x6D bR;refine ⟨own,v6B _ _ _ _ _ h1,aQ,by rw [dC],by rw [e1],by rw [e2],by rw [e3], ?_,by rw [e2,e3];rfl,by rw [e2,e3];rfl,by rw [e1];show _ <= (st0++stpN own n1).length;rw [List.length_append];omega, ?_⟩
  . rw [e1,e2,e3,dC];show x.off-off1=off2-n1.u.s;omega
  . rw [e1,e2,e3];show x.st=(st0++stpN own n1).take ((st0++stpN own n1).length-own.D.length)++st2;rw [List.length_append,hl,show st0.length+own.D.length-own.D.length=st0.length by omega,List.take_left]
    exact h6.symm
end Go.Shp
