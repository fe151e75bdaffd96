/-
  PLAIN LEAN: what find finds lies in bounds;At.;PLAIN LEAN: the places of all leaves, in order.
-/
import Derived.Test.YtadehgdfijjikaaGreatDoorZ6
set_option linter.all false
namespace Go.Shp
open Go Go.Yec Go.Proofs
def stpOk (x:Stp):Prop:= -32768 <= x.1/\x.1 <= x.2.1/\x.2.1 <= 32767/\1 <= x.2.2/\x.2.2 <= 1048576
theorem mp_st {s:Sh}{dm lv:Int}(hv:valS s dm lv=true){n:Nd}(h:mpS s=some n):∀ x∈n.st, 1 <= x/\x <= 1048576:=by
  obtain ⟨D,P,t,g⟩:=s;obtain ⟨-, -, hd,ht,hP⟩:=x3C hv;unfold mpS at h;obtain ⟨⟨e,a,ns⟩,he,h⟩:=Option.bind_eq_some_iff.1 h;obtain ⟨⟨r,m⟩,hs,rfl⟩:=Option.map_eq_some_iff.1 h;show ∀ x∈m, 1 <= x/\x <= 1048576;have cn:=y5A (t:=t) (g:=g) (fun p hp n hn=>x5S p _ _ (hP p hp) n hn) (fun h=>(ht h).1) he;have h0:=v1T cn;refine stR_st (fun d rU=>?_) h0.1 h0.2 cn.2.2.2.1 (by intro x hx;cases hx) hs
  have:=x7F hd d (List.mem_reverse.1 rU)
  omega
theorem z9T {s:Sh}{dm lv:Int}(hv:valS s dm lv=true){n:Nd}(h:mpS s=some n):∀ x∈stpN s n,stpOk x:=by
  have h1:=mp_st hv h;have hd:x4C s.D=true:=by
    obtain ⟨D,P,t,g⟩:=s;exact (x3C hv).2.2.1
  intro x hx;obtain ⟨i,hi,he⟩:=List.mem_iff_getElem.1 hx;simp only [stpN,List.length_zipWith] at hi;simp only [stpN,List.getElem_zipWith] at he;subst he;have h2:=x7F hd s.D[i] (List.getElem_mem (by omega))
  have h3:=h1 n.st[i] (List.getElem_mem (by omega))
  exact ⟨h2.1,h2.2.1,h2.2.2,h3.1,h3.2⟩
theorem v6C:∀ (path:List Int) (s:Sh) (n:Nd) (dm lv off:Int) (st:List Stp) {s':Sh} {n':Nd} {off':Int} {st':List Stp}, valS s dm lv=true->0 <= dm->mpS s=some n->(∀ x∈st,stpOk x)->0 <= off->fnd path s n off st=some (s',n',off',st') ->
    (∀ x∈st',stpOk x)/\off <= off'/\off' <= off+path.length*524352/\(st'.length:Int) <= st.length+3*path.length/\mpS s'=some n'/\∃ dm' lv', 0 <= dm'/\valS s' dm' lv'=true
  | [],s,n,dm,lv,off,st,s',n',off',st',hv,eQ,hm,aN,h0,h=>by
    rw [fnd] at h;cases h;exact ⟨aN,by omega,by simp,by simp,hm,dm,lv,eQ,hv⟩
  | i::path,s,n,dm,lv,off,st,s',n',off',st',hv,eQ,hm,aN,h0,h=>by
    rw [fnd] at h;split at h
    . rename_i hi;split at h
      . rename_i p m a hp jR ha;obtain ⟨m2,em,fT⟩:=(y6T hm).2.2.2 _ p hp;rw [jR] at em;cases em;have uy:=mp_at hv hm a (List.mem_of_getElem? ha);have iT:=y0S hv hp;have hD:(stpN p m).length <= 3:=by
          rw [x6D fT];obtain ⟨D,P,t,g⟩:=p
          have:=(x3C iT).1
          show D.length <= 3;omega
        obtain ⟨h1,h2,h3,h4,h5⟩:=v6C path p m _ _ (off+a) (st++stpN p m) iT (by omega) fT (fun x hx=>by
          rcases List.mem_append.1 hx with hx | hx
          . exact aN x hx
          . exact z9T iT fT x hx) (by omega) h
        refine ⟨h1,by omega, ?_, ?_,h5⟩
        . simp only [List.length_cons];omega
        . simp only [List.length_cons,List.length_append] at h4 |-
          omega
      . cases h
    . cases h
theorem u1J {s:Sh}{path:List Int}(h:(fndR s path).2=0)(hL:path.length <= 200):∃ n s' n' , valS s 0 1=true/\mpS s=some n/\fnd path s n n.u.s (stpN s n)=some (s',n',(fndR s path).1.off,(fndR s path).1.st)/\(fndR s path).1=plc s' n' path (fndR s path).1.off (fndR s path).1.st/\(∀ x∈(fndR s path).1.st,stpOk x)/\0 <= (fndR s path).1.off/\(fndR s path).1.off <= 200000000/\(fndR s path).1.st.length <= 700:=by
  unfold fndR at h |-
  cases hv:valS s 0 1
  . rw [hv] at h;cases h
  . cases hm:mpS s with
    | none=>rw [hv,hm] at h;cases h
    | some n =>
      rw [hv,hm] at h;simp only [cond_true] at h |-
      cases hf:fnd path s n n.u.s (stpN s n) with
      | none=>rw [hf] at h;cases h
      | some R =>
        obtain ⟨s',n',off,st⟩:=R;have hg:=x5S s 0 1 hv n hm;have ha:=x3L hg.1;obtain ⟨-, lG,iN,wG,wF⟩:=hg;have hD:(stpN s n).length <= 3:=by
          rw [x6D hm];obtain ⟨D,P,t,g⟩:=s
          have:=(x3C hv).1
          show D.length <= 3;omega
        obtain ⟨h1,h2,h3,h4, -⟩:=v6C path s n 0 1 n.u.s (stpN s n) hv (by omega) hm (z9T hv hm) lG hf
        refine ⟨n,s',n',(by first | rfl | trivial),(by first | rfl | trivial),hf,rfl,h1, ?_, ?_, ?_⟩
        . show 0 <= off;omega
        . show off <= 200000000;omega
        . show st.length <= 700;omega
def lv2 (f:Nd->Int->List Pl)(ms:List Nd)(az:List Int):List Pl:=match ms,az with
  | m::_,a::_=>f m a
  | _,_=>[]
mutual
def lvS:Sh->Nd->List Int->Int->List Stp->List Pl
  | .node D P t g,n,path,off,st=>bif P.isEmpty then [plc (.node D P t g) n path off (st++stpN (.node D P t g) n)] else lvL P n.ps n.at' 0 path off (st++stpN (.node D P t g) n)
def lvL:List Sh->List Nd->List Int->Nat->List Int->Int->List Stp->List Pl
  | [],_,_,_,_,_,_=>[]
  | p::P,ms,az,i,path,off,st=>lv2 (fun m a=>lvS p m (path++[(i:Int)]) (off+a) st) ms az++lvL P ms.tail az.tail (i+1) path off st
end
theorem y4U {D:List (Int×Int)}{t:Ty}{g:Bool}{n:Nd}{path:List Int}{off:Int}{st:List Stp}:lvS (.node D [] t g) n path off st=[plc (.node D [] t g) n path off (st++stpN (.node D [] t g) n)]:=by
  unfold lvS;rfl
theorem y4T {D:List (Int×Int)}{p:Sh}{P:List Sh}{t:Ty}{g:Bool}{n:Nd}{path:List Int}{off:Int}{st:List Stp}:lvS (.node D (p::P) t g) n path off st=lvL (p::P) n.ps n.at' 0 path off (st++stpN (.node D (p::P) t g) n):=by
  unfold lvS;rfl
theorem u5K {p:Sh}{P:List Sh}{m:Nd}{ms:List Nd}{a:Int}{az:List Int}{i:Nat}{path:List Int}{off:Int}{st:List Stp}:lvL (p::P) (m::ms) (a::az) i path off st=lvS p m (path++[(i:Int)]) (off+a) st++lvL P ms az (i+1) path off st:=by
  rw [lvL];rfl
theorem lvL_drop {P:List Sh}{ms:List Nd}{az:List Int}{i:Nat}{p:Sh}{m:Nd}{a:Int}(hp:P[i]? = some p)(hm:ms[i]? = some m)(ha:az[i]? = some a)(path:List Int)(off:Int)(st:List Stp):lvL (P.drop i) (ms.drop i) (az.drop i) i path off st=lvS p m (path++[(i:Int)]) (off+a) st++lvL (P.drop (i+1)) (ms.drop (i+1)) (az.drop (i+1)) (i+1) path off st:=by
  obtain ⟨h1,rfl⟩:=List.getElem?_eq_some_iff.1 hp;obtain ⟨h2,rfl⟩:=List.getElem?_eq_some_iff.1 hm;obtain ⟨h3,rfl⟩:=List.getElem?_eq_some_iff.1 ha;rw [List.drop_eq_getElem_cons h1,List.drop_eq_getElem_cons h2,List.drop_eq_getElem_cons h3,u5K]
theorem u0X (ms:List Nd)(az:List Int)(i:Nat)(path:List Int)(off:Int)(st:List Stp):lvL [] ms az i path off st=[]:=by unfold lvL;rfl
theorem lvS_all {M:Sh->Nd->List Int->Int->List Stp->Prop}{R:Pl->Prop}
    (og:∀ D t g n path off st,M (.node D [] t g) n path off st->R (plc (.node D [] t g) n path off (st++stpN (.node D [] t g) n)))
    (nv:∀ (s:Sh) (n:Nd) path off st (i:Nat) (p:Sh) (m:Nd) (a:Int),M s n path off st->s.P[i]? = some p->n.ps[i]? = some m->n.at'[i]? = some a->M p m (path++[(i:Int)]) (off+a) (st++stpN s n)) :
    ∀ (s:Sh) (n:Nd) (path:List Int) (off:Int) (st:List Stp),M s n path off st->∀ x∈lvS s n path off st,R x:=by
  intro s
  induction s using Sh.ind with
  | h D P t g ih =>
    intro n path off st hM;cases P with
    | nil =>
      rw [y4U];intro x hx;simp only [List.mem_singleton] at hx;subst hx;exact og D t g n path off st hM
    | cons q Q =>
      rw [y4T];have key:∀ (P:List Sh) (ms:List Nd) (az:List Int) (i:Nat),(∀ p∈P,p∈q::Q)->(∀ j p m a,P[j]? = some p->ms[j]? = some m->az[j]? = some a->(q::Q)[i+j]? = some p/\n.ps[i+j]? = some m/\n.at'[i+j]? = some a)->∀ x∈lvL P ms az i path off (st++stpN (.node D (q::Q) t g) n),R x:=by
        intro P
        induction P with
        | nil =>
          intro ms az i _ _ x hx;rw [u0X] at hx;cases hx
        | cons p P ihP =>
          intro ms az i aY hget x hx;have nh:∀ j p' m a,P[j]? = some p'->ms.tail[j]? = some m->az.tail[j]? = some a->(q::Q)[i+1+j]? = some p'/\n.ps[i+1+j]? = some m/\n.at'[i+1+j]? = some a:=fun j p' m a h1 h2 h3=>by
            rw [List.getElem?_tail] at h2 h3
            have:=hget (j+1) p' m a (by simpa using h1) h2 h3
            rwa [show i+1+j=i+(j+1) by omega]
          rw [lvL] at hx;rcases List.mem_append.1 hx with hx | hx
          . cases ms with
            | nil=>cases hx
            | cons m ms =>
              cases az with
              | nil=>cases hx
              | cons a az =>
                simp only [lv2] at hx;obtain ⟨h1,h2,h3⟩:=hget 0 p m a rfl rfl rfl;exact ih p (aY p (by simp)) m _ _ _ (nv (.node D (q::Q) t g) n path off st (i+0) p m a hM h1 h2 h3) x hx
          . exact ihP _ _ _ (fun p' fv=>aY p' (by simp [fv])) nh x hx
      exact key (q::Q) n.ps n.at' 0 (fun _ h=>h) (fun j p m a h1 h2 h3=>by rw [Nat.zero_add];exact ⟨h1,h2,h3⟩)
theorem v4U:∀ (s:Sh) (n:Nd) (path:List Int) (off:Int) (st:List Stp),((lvS s n path off st).length:Int) <= scnt s:=by
  intro s
  induction s using Sh.ind with
  | h D P t g ih =>
    intro n path off st;cases P with
    | nil =>
      rw [y4U];simp [scnt,x1L]
    | cons q Q =>
      rw [y4T];have key:∀ (P:List Sh) (ms:List Nd) (az:List Int) (i:Nat) st,(∀ p∈P,p∈q::Q)->((lvL P ms az i path off st).length:Int) <= x1L P:=by
        intro P
        induction P with
        | nil =>
          intro ms az i st _;rw [u0X];simp [x1L]
        | cons p P ihP =>
          intro ms az i st aY;rw [lvL];have h1:=ihP ms.tail az.tail (i+1) st (fun p' fv=>aY p' (by simp [fv]))
          have h2:((lv2 (fun m a=>lvS p m (path++[(i:Int)]) (off+a) st) ms az).length:Int) <= scnt p:=by
            have:=x7P p
            unfold lv2;split
            . exact ih p (aY p (by simp)) _ _ _ _
            . simp only [List.length_nil];omega
          rw [List.length_append];simp only [x1L];omega
      have:=key (q::Q) n.ps n.at' 0 (st++stpN (.node D (q::Q) t g) n) (fun _ h=>h)
      simp only [scnt];omega
end Go.Shp
