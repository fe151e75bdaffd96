/-
  PLAIN LEAN: what find finds lies in bounds; At.; PLAIN LEAN: the first parts of a structure, put into a structure of their own.
-/
import Derived.Test.YtadehgdfijjikaaGreatDoorZ6
set_option linter.all false
namespace Go.Shp
open Go Go.Yec Go.Proofs
def stpOk (x : Stp) : Prop:= -32768 <= x.1 /\ x.1 <= x.2.1 /\ x.2.1 <= 32767 /\ 1 <= x.2.2 /\ x.2.2 <= 1048576
theorem mp_st {s : Sh} {dm lv : Int} (hv : valS s dm lv = true) {n : Nd} (h : mpS s = some n) : ∀ x ∈ n.st, 1 <= x /\ x <= 1048576:=by
  obtain ⟨D,P,t,g⟩:=s;obtain ⟨-, -, hd,ht,hP⟩:=x4E hv;unfold mpS at h;obtain ⟨⟨e,a,ns⟩,he,h⟩:=Option.bind_eq_some_iff.1 h;obtain ⟨⟨r,m⟩,hs,rfl⟩:=Option.map_eq_some_iff.1 h;show ∀ x ∈ m, 1 <= x /\ x <= 1048576;have hge:=y4Q (t:=t) (g:=g) (fun p hp n hn=>x8K p _ _ (hP p hp) n hn) (fun h=>(ht h).1) he;have h0:=v2B hge;refine stR_st (fun d hd'=> ?_) h0.1 h0.2 hge.2.2.2.1 (by intro x hx; cases hx) hs
  have:=x6S hd d (List.mem_reverse.1 hd')
  omega
theorem v2C {s : Sh} {dm lv : Int} (hv : valS s dm lv = true) {n : Nd} (h : mpS s = some n) : ∀ x ∈ stpN s n,stpOk x:=by
  have h1:=mp_st hv h;have hd : x3U s.D = true:=by
    obtain ⟨D,P,t,g⟩:=s;exact (x4E hv).2.2.1
  intro x hx;obtain ⟨i,hi,he⟩:=List.mem_iff_getElem.1 hx;simp only [stpN,List.length_zipWith] at hi;simp only [stpN,List.getElem_zipWith] at he;subst he;have h2:=x6S hd s.D[i] (List.getElem_mem (by omega))
  have h3:=h1 n.st[i] (List.getElem_mem (by omega))
  exact ⟨h2.1,h2.2.1,h2.2.2,h3.1,h3.2⟩
theorem fnd_ok : ∀ (path : List Int) (s : Sh) (n : Nd) (dm lv off : Int) (st : List Stp) {s' : Sh} {n' : Nd} {off' : Int} {st' : List Stp}, valS s dm lv = true -> 0 <= dm -> mpS s = some n -> (∀ x ∈ st,stpOk x) -> 0 <= off -> fnd path s n off st = some (s',n',off',st') ->
    (∀ x ∈ st',stpOk x) /\ off <= off' /\ off' <= off + path.length * 524352 /\ (st'.length : Int) <= st.length + 3 * path.length /\ mpS s' = some n' /\ ∃ dm' lv', 0 <= dm' /\ valS s' dm' lv' = true
  | [],s,n,dm,lv,off,st,s',n',off',st',hv,hdm,hm,hst,h0,h=>by
    rw [fnd] at h;cases h;exact ⟨hst,by omega,by simp,by simp,hm,dm,lv,hdm,hv⟩
  | i :: path,s,n,dm,lv,off,st,s',n',off',st',hv,hdm,hm,hst,h0,h=>by
    rw [fnd] at h;split at h
    . rename_i hi;split at h
      . rename_i p m a hp hpm ha;obtain ⟨m2,hpm2,hmp⟩:=(z6D hm).2.2.2 _ p hp;rw [hpm] at hpm2;cases hpm2;have hab:=mp_at hv hm a (List.mem_of_getElem? ha);have hvp:=u3Y hv hp;have hD : (stpN p m).length <= 3:=by
          rw [y0K hmp];obtain ⟨D,P,t,g⟩:=p
          have:=(x4E hvp).1
          show D.length <= 3;omega
        obtain ⟨h1,h2,h3,h4,h5⟩:=fnd_ok path p m _ _ (off + a) (st ++ stpN p m) hvp (by omega) hmp (fun x hx=>by
          rcases List.mem_append.1 hx with hx | hx
          . exact hst x hx
          . exact v2C hvp hmp x hx) (by omega) h
        refine ⟨h1,by omega, ?_, ?_,h5⟩
        . simp only [List.length_cons];omega
        . simp only [List.length_cons,List.length_append] at h4 |-
          omega
      . cases h
    . cases h
theorem fndR_ok {s : Sh} {path : List Int} (h : (fndR s path).2 = 0) (hL : path.length <= 200) : ∃ n s' n' , valS s 0 1 = true /\ mpS s = some n /\ fnd path s n n.u.s (stpN s n) = some (s',n',(fndR s path).1.off,(fndR s path).1.st) /\ (fndR s path).1 = plc s' n' path (fndR s path).1.off (fndR s path).1.st /\ (∀ x ∈ (fndR s path).1.st,stpOk x) /\ 0 <= (fndR s path).1.off /\ (fndR s path).1.off <= 200000000 /\ (fndR s path).1.st.length <= 700:=by
  unfold fndR at h |-
  cases hv : valS s 0 1
  . rw [hv] at h; cases h
  . cases hm : mpS s with
    | none=>rw [hv,hm] at h; cases h
    | some n =>
      rw [hv,hm] at h;simp only [cond_true] at h |-
      cases hf : fnd path s n n.u.s (stpN s n) with
      | none=>rw [hf] at h; cases h
      | some R =>
        obtain ⟨s',n',off,st⟩:=R;have hg:=x8K s 0 1 hv n hm;have ha:=x3K hg.1;obtain ⟨-, hg1,hg2,hg3,hg4⟩:=hg;have hD : (stpN s n).length <= 3:=by
          rw [y0K hm];obtain ⟨D,P,t,g⟩:=s
          have:=(x4E hv).1
          show D.length <= 3;omega
        obtain ⟨h1,h2,h3,h4, -⟩:=fnd_ok path s n 0 1 n.u.s (stpN s n) hv (by omega) hm (v2C hv hm) hg1 hf
        refine ⟨n,s',n',(by first | rfl | trivial),(by first | rfl | trivial),hf,rfl,h1, ?_, ?_, ?_⟩
        . show 0 <= off;omega
        . show off <= 200000000;omega
        . show st.length <= 700;omega
end Go.Shp
namespace Go.Shp
open Go Go.Yec Go.Proofs
theorem z0L : ∀ (P Q : List Sh) (e : Un) (a : List Int) (ns : List Nd),goL (P ++ Q) e a ns = (goL P e a ns).bind fun x=>goL Q x.1 x.2.1 x.2.2
  | [],Q,e,a,ns=>by simp [goL]
  | p :: P,Q,e,a,ns=>by
    rw [List.cons_append,goL,goL];cases mpS p with
    | none=>rfl
    | some n =>
      simp only [Option.bind_some];split
      . rfl
      . exact z0L P Q _ _ _
theorem y0Z : ∀ (P : List Sh) (e : Un) (a : List Int) (ns : List Nd),goL P e a ns = (goL P e [] []).map fun x=>(x.1,a ++ x.2.1,ns ++ x.2.2)
  | [],e,a,ns=>by simp [goL]
  | p :: P,e,a,ns=>by
    rw [goL,goL];cases mpS p with
    | none=>rfl
    | some n =>
      simp only [Option.bind_some];split
      . rfl
      . rw [y0Z P _ (a ++ _) (ns ++ _),y0Z P _ ([] ++ _) ([] ++ _),Option.map_map];congr 1;funext x;simp
def grp (P : List Sh) : Sh:= .node [] P ty00 false
theorem mp_grp (P : List Sh) : mpS (grp P) = (elL P ty00 false).map fun x=> .mk x.1 x.1 [] x.2.1 x.2.2:=by
  unfold grp mpS;cases elL P ty00 false with
  | none=>rfl
  | some x=>simp [stR]
theorem mp_one (s : Sh) : (mpS (grp [s])).map Nd.u = (mpS s).map Nd.u:=by
  rw [mp_grp,elL];cases mpS s with
  | none=>rfl
  | some n=>simp [goL,Nd.u]
theorem el_grp {P Q : List Sh} {p : Sh} {t : Ty} {g : Bool} {e : Un} {a : List Int} {ns : List Nd} (h : elL ((p :: P) ++ Q) t g = some (e,a,ns)) :
    ∃ e1 a1 a2 n1 n2,elL (p :: P) ty00 false = some (e1,a1,n1) /\ a = a1 ++ a2 /\ ns = n1 ++ n2 /\ a1.length = P.length + 1 /\ n1.length = P.length + 1 /\ elL (grp (p :: P) :: Q) ty00 false = some (e, 0 :: a2, .mk e1 e1 [] a1 n1 :: n2):=by
  rw [List.cons_append,elL] at h;obtain ⟨n,hp,h⟩:=Option.bind_eq_some_iff.1 h;rw [z0L] at h;obtain ⟨⟨e1,a1,n1⟩,h1,h2⟩:=Option.bind_eq_some_iff.1 h;simp only at h2;rw [y0Z] at h2;obtain ⟨⟨e2,a2,n2⟩,h3,h4⟩:=Option.map_eq_some_iff.1 h2;simp only [Prod.mk.injEq] at h4;obtain ⟨rfl,rfl,rfl⟩:=h4;have hel : elL (p :: P) ty00 false = some (e1,a1,n1):=by
    rw [elL,hp];exact h1
  obtain ⟨b,m,hb,hm,hbl,hml, -⟩:=u1L h1;refine ⟨e1,a1,a2,n1,n2,hel,rfl,rfl,by rw [hb]; simp [hbl],by rw [hm]; simp [hml], ?_⟩
  rw [elL,mp_grp,hel];simp only [Option.map_some,Option.bind_some,Nd.u];rw [y0Z,h3];rfl
end Go.Shp
