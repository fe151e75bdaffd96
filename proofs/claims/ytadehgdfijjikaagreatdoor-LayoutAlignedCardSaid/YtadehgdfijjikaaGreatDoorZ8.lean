/-
  PLAIN LEAN, LayoutAligned: how parts lie within a structure; alignments; offsets.
-/
import Derived.Test.YtadehgdfijjikaaGreatDoorZ7
set_option linter.all false
namespace Go.Shp
open Go Go.Yec Go.Proofs
theorem v7X {a b:Int} (ha:al a) (hb:al b) (h:a <= b):a∣b:=by
  rcases ha with rfl | rfl | rfl | rfl | rfl <;> rcases hb with rfl | rfl | rfl | rfl | rfl <;> first | (exfalso; omega) | decide
theorem y1K (x m:Int):m∣x-x%m:=⟨x/m,by have:=Int.emod_add_mul_ediv x m; omega⟩
theorem u9F {u v:Un} (h1:x2B u) (h2:x2B v):u.a∣(x1Q u v).s-u.s:=by
  by_cases h:v.a <= u.a
  . have:(x1Q u v).s=u.s:=by simp [x1Q,h]
    rw [this];exact ⟨0,by omega⟩
  . have hd:=v7X h1.1 h2.1 (by omega)
    have hg:gapU u v=(v.s-u.s-u.b)%u.a:=by simp [gapU,h]
    have hs:(x1Q u v).s=(v.s-gapU u v-u.b)%v.a:=by simp [x1Q,h]
    have d1:=Int.dvd_trans hd (y1K (v.s-gapU u v-u.b) v.a);have d2:=y1K (v.s-u.s-u.b) u.a;rw [<- hg] at d2;rw [<- hs] at d1
    have:=Int.dvd_sub d2 d1
    rwa [show v.s-u.s-u.b-gapU u v-(v.s-gapU u v-u.b-(x1Q u v).s)=(x1Q u v).s-u.s by omega] at this
theorem u1B {u v:Un}:v.a∣(x1Q u v).s+(u.b+gapU u v)-v.s:=by
  by_cases h:v.a <= u.a
  . have hg:gapU u v=(v.s-u.s-u.b)%v.a:=by simp [gapU,h]
    have hs:(x1Q u v).s=u.s:=by simp [x1Q,h]
    have d2:=y1K (v.s-u.s-u.b) v.a;rw [<- hg] at d2;rw [hs]
    have:=(Int.dvd_neg (a:=v.a)).2 d2
    rwa [show -(v.s-u.s-u.b-gapU u v)=u.s+(u.b+gapU u v)-v.s by omega] at this
  . have hs:(x1Q u v).s=(v.s-gapU u v-u.b)%v.a:=by simp [x1Q,h]
    have d1:=y1K (v.s-gapU u v-u.b) v.a;rw [<- hs] at d1
    have:=(Int.dvd_neg (a:=v.a)).2 d1
    rwa [show -(v.s-gapU u v-u.b-(x1Q u v).s)=(x1Q u v).s+(u.b+gapU u v)-v.s by omega] at this
structure PtIn (e:Un) (az:List Int) (ms:List Nd):Prop where
  len:az.length=ms.length
  one:∀ (i:Nat) (m:Nd) (a:Int),ms[i]? = some m->az[i]? = some a->m.u.a <= e.a/\m.u.a∣e.s+a-m.u.s/\0 <= a/\a+m.u.b <= e.b
  two:∀ (i j:Nat) (m:Nd) (a b:Int),i<j->ms[i]? = some m->az[i]? = some a->az[j]? = some b->a+m.u.b <= b
theorem x9K {α:Type} {l:List α} {x y:α} {i:Nat} (h:(l++[x])[i]? = some y):(i<l.length/\l[i]? = some y)\/(i=l.length/\y=x):=by
  rcases Nat.lt_or_ge i l.length with hi | hi
  . rw [List.getElem?_append_left hi] at h;exact .inl ⟨hi,h⟩
  . rw [List.getElem?_append_right hi] at h;have h2:=(List.getElem?_eq_some_iff.1 h).1;simp only [List.length_cons,List.length_nil] at h2;have:i-l.length=0:=by omega
    rw [this] at h;simp only [List.getElem?_cons_zero,Option.some.injEq] at h;exact .inr ⟨by omega,h.symm⟩
theorem PtIn.push {e:Un} {az:List Int} {ms:List Nd} {n:Nd} (h:PtIn e az ms) (he:x2B e) (hn:x2B n.u) (hm:∀ m∈ms,x2B m.u):PtIn (x1Q e n.u) (az++[e.b+gapU e n.u]) (ms++[n]):=by
  have hg:=u6Y he hn;have hnb:=hn.2.2.2.1;have heb:=he.2.2.2.1;have hbb:(x1Q e n.u).b=e.b+gapU e n.u+n.u.b:=rfl;have haa:e.a <= (x1Q e n.u).a/\n.u.a <= (x1Q e n.u).a:=by
    show e.a <= (if n.u.a <= e.a then e.a else n.u.a)/\n.u.a <= (if n.u.a <= e.a then e.a else n.u.a)
    split <;> omega
  refine ⟨by simp [h.len],fun i m a h1 h2=> ?_,fun i j m a b hij h1 h2 h3=> ?_⟩
  . rcases x9K h1 with ⟨i1,h1⟩ | ⟨i1,rfl⟩
    . rcases x9K h2 with ⟨i2,h2⟩ | ⟨i2, -⟩
      . obtain ⟨k1,k2,k3,k4⟩:=h.one i m a h1 h2;have hmg:=hm m (List.mem_of_getElem? h1);refine ⟨by omega, ?_,k3,by rw [hbb]; omega⟩
        have:=Int.dvd_add (Int.dvd_trans (v7X hmg.1 he.1 k1) (u9F he hn)) k2
        rwa [show (x1Q e n.u).s-e.s+(e.s+a-m.u.s)=(x1Q e n.u).s+a-m.u.s by omega] at this
      . have:=h.len; omega
    . rcases x9K h2 with ⟨i2, -⟩ | ⟨i2,rfl⟩
      . have:=h.len; omega
      . exact ⟨haa.2,u1B,by omega,by rw [hbb]; omega⟩
  . have hl:=h.len;rcases x9K h1 with ⟨i1,h1⟩ | ⟨i1,rfl⟩
    . rcases x9K h2 with ⟨i2,h2⟩ | ⟨i2, -⟩
      . rcases x9K h3 with ⟨i3,h3⟩ | ⟨i3,rfl⟩
        . exact h.two i j m a b hij h1 h2 h3
        . have:=(h.one i m a h1 h2).2.2.2
          omega
      . omega
    . have:=(List.getElem?_eq_some_iff.1 h3).1
      simp at this;omega
theorem goL_in:∀ {P:List Sh} {e e':Un} {a a':List Int} {ns ns':List Nd}, PtIn e a ns->x2B e->(∀ m∈ns,x2B m.u)->(∀ p∈P, ∀ n,mpS p=some n->x2B n.u)->goL P e a ns=some (e',a',ns')->PtIn e' a' ns'/\x2B e'
  | [],e,e',a,a',ns,ns',h,he,_,_,hg=>by
    unfold goL at hg;cases hg;exact ⟨h,he⟩
  | p::P,e,e',a,a',ns,ns',h,he,hm,hP,hg=>by
    unfold goL at hg;obtain ⟨n,hn,hg⟩:=Option.bind_eq_some_iff.1 hg;have hng:=hP p (by simp) n hn
    split at hg
    . cases hg
    . rename_i hle;refine goL_in (h.push he hng hm) (x8Q he hng (by omega)) (fun m hm'=> ?_) (fun q hq=>hP q (by simp [hq])) hg
      rcases List.mem_append.1 hm' with hm' | hm'
      . exact hm m hm'
      . simp at hm';subst hm';exact hng
theorem x9G {s:Sh} {dm lv:Int} (hv:valS s dm lv=true) {n:Nd} (h:mpS s=some n):PtIn n.e n.at' n.ps/\x2B n.e/\n.u.s=n.e.s/\n.u.a=n.e.a/\n.e.b <= n.u.b/\(∀ x∈n.st,n.e.a∣x)/\(s.P=[]->n.e=x8E s.t s.g):=by
  obtain ⟨D,P,t,g⟩:=s;obtain ⟨-, -, hd,ht,hP⟩:=x2L hv;unfold mpS at h;obtain ⟨⟨e,a,ns⟩,he,h⟩:=Option.bind_eq_some_iff.1 h;obtain ⟨⟨r,m⟩,hs,rfl⟩:=Option.map_eq_some_iff.1 h;have hpg:∀ p∈P, ∀ n,mpS p=some n->x2B n.u:=fun p hp n hn=>x6P p _ _ (hP p hp) n hn;have hge:=y1H (t:=t) (g:=g) hpg (fun h=>(ht h).1) he;have h0:=z9Y hge;have hpt:PtIn e a ns:=by
    cases P with
    | nil =>
      unfold elL at he;cases he;exact ⟨rfl,fun i m a h=>by simp at h,fun i j m a b _ h=>by simp at h⟩
    | cons q P =>
      unfold elL at he;obtain ⟨n,hq,he⟩:=Option.bind_eq_some_iff.1 he;have hng:=hpg q (by simp) n hq
      refine (goL_in (a:=[0]) (ns:=[n]) ⟨rfl,fun i m a h1 h2=> ?_,fun i j m a b hij h1 h2 h3=> ?_⟩ hng (by simpa using hng) (fun p hp=>hpg p (by simp [hp])) he).1
      . cases i with
        | zero =>
          simp at h1 h2;subst h1 h2;exact ⟨Int.le_refl _,⟨0,by omega⟩,Int.le_refl _,by omega⟩
        | succ i=>simp at h1
      . have:=(List.getElem?_eq_some_iff.1 h3).1
        simp at this;omega
  have hst:∀ x∈m,e.a∣x:=by
    have key:∀ {D:List (Int×Int)} {nx all r:Int} {l m:List Int}, e.a∣nx->(∀ x∈l,e.a∣x)->stR D nx all l=some (r,m)->∀ x∈m,e.a∣x:=by
      intro D
      induction D with
      | nil =>
        intro nx all r l m _ hl h;unfold stR at h;cases h;exact hl
      | cons d D ih =>
        intro nx all r l m hn hl h;unfold stR at h;split at h
        . cases h
        . refine ih (Int.dvd_trans hn ⟨_,rfl⟩) (fun x hx=> ?_) h;rcases List.mem_cons.1 hx with rfl | hx
          . exact hn
          . exact hl x hx
    refine key ?_ (fun x hx=>by cases hx) hs
    unfold str0;have hup:e.a∣upS e.b e.a:=by
      have:=y1K (-e.b) e.a
      have:=(Int.dvd_neg (a:=e.a)).2 this
      rwa [show -(-e.b - -e.b%e.a)=upS e.b e.a by unfold upS; omega] at this
    rcases Int.le_total e.a (upS e.b e.a) with h | h
    . rw [Int.max_eq_right h]; exact hup
    . rw [Int.max_eq_left h]; exact ⟨1,by omega⟩
  have hr:=v3B (fun d hd'=>(x5R hd d (List.mem_reverse.1 hd')).2.1) h0.1 hge.2.2.2.1 hge.2.2.2.2 hs;refine ⟨hpt,hge,rfl,rfl,hr.1,hst,fun hP'=> ?_⟩;have hP'':P=[]:=hP';subst hP'';unfold elL at he;cases he;rfl
def prtS:Sh->List Int->Option Sh
  | s,[]=>some s
  | s,i::path=>if 0 <= i/\i<s.P.length then (match s.P[i.toNat]? with | some p=>prtS p path | none=>none) else none
theorem y0Y:∀ (path:List Int) (s q p:Sh) (i:Nat),prtS s path=some q->q.P[i]? = some p->prtS s (path++[(i:Int)])=some p
  | [],s,q,p,i,h,hp=>by
    rw [prtS] at h;cases h
    have:=(List.getElem?_eq_some_iff.1 hp).1
    rw [List.nil_append,prtS,if_pos ⟨by omega,by omega⟩,Int.toNat_natCast,hp]
    rfl
  | j::path,s,q,p,i,h,hp=>by
    rw [prtS] at h;rw [List.cons_append,prtS];split at h
    . rename_i hj;rw [if_pos hj];split at h
      . rename_i r hr
        first
          | (simp only [hr]; exact y0Y path r q p i h hp)
          | (rw [hr]; exact y0Y path r q p i h hp)
          | exact y0Y path r q p i h hp
      . cases h
    . cases h
def alnP (S:Sh) (A:Int) (x:Pl):Prop:= ∃ l:Sh,prtS S x.path=some l/\l.P=[]/\tyB l.t=true/\x.t=l.t/\al (x8E l.t l.g).a/\(x8E l.t l.g).a∣A/\(x8E l.t l.g).a∣x.off/\∀ z∈x.st,(x8E l.t l.g).a∣z.2.2/\y4C z
theorem lvS_aln {S:Sh} {N:Nd} (hv:valS S 0 1=true) (hm:mpS S=some N):∀ x∈lvS S N [] N.u.s [],alnP S N.u.a x:=by
  refine v5C (M:=fun s n path off st=>mpS s=some n/\(∃ dm lv,valS s dm lv=true)/\n.e.a∣off-n.e.s/\(∀ z∈st,n.e.a∣z.2.2/\y4C z)/\n.e.a∣N.u.a/\prtS S path=some s) ?_ ?_ S N [] N.u.s [] ?_
  . rintro D t g n path off st ⟨hmp,⟨dm,lv,hv⟩,ho,hst,hA,hp⟩;obtain ⟨-, hge, -, -, -, hs2,hl⟩:=x9G hv hmp;have hle:=hl rfl;have hty:=(x2L hv).2.2.2.1 rfl;have h0:n.e.s=0:=by rw [hle]; rfl
    rw [h0] at ho;simp only [Sh.t,Sh.g] at hle;refine ⟨.node D [] t g,hp,rfl,hty.1,rfl,by simp only [Sh.t,Sh.g]; rw [<- hle]; exact hge.1,by simp only [Sh.t,Sh.g]; rw [<- hle]; exact hA,by simp only [Sh.t,Sh.g]; rw [<- hle]; show n.e.a∣off; simpa using ho,fun z hz=> ?_⟩
    simp only [Sh.t,Sh.g];rw [<- hle];rcases List.mem_append.1 hz with hz | hz
    . exact hst z hz
    . refine ⟨?_,z2E hv hmp z hz⟩;obtain ⟨i,hi,he⟩:=List.mem_iff_getElem.1 hz;simp only [stpN,List.length_zipWith] at hi;simp only [stpN,List.getElem_zipWith] at he;subst he;exact hs2 _ (List.getElem_mem (by omega))
  . rintro s n path off st i p m a ⟨hmp,⟨dm,lv,hv⟩,ho,hst,hA,hpt⟩ hp hmi hai;obtain ⟨hin,hge, -, -, -, hs2, -⟩:=x9G hv hmp;obtain ⟨m2,hm2,hmpm⟩:=(y6Q hmp).2.2.2 i p hp;rw [hmi] at hm2;cases hm2;have hvp:=y4G hv hp;obtain ⟨-, hgm,hus,hua, -, -, -⟩:=x9G hvp hmpm;obtain ⟨k1,k2,k3,k4⟩:=hin.one i m a hmi hai;rw [hua] at k1 k2;rw [hus] at k2;have hd:=v7X hgm.1 hge.1 k1;refine ⟨hmpm,⟨_,_,hvp⟩, ?_,fun z hz=> ?_,Int.dvd_trans hd hA,y0Y path S s p i hpt hp⟩
    . have:=Int.dvd_add (Int.dvd_trans hd ho) k2
      rwa [show off-n.e.s+(n.e.s+a-m.e.s)=off+a-m.e.s by omega] at this
    . rcases List.mem_append.1 hz with hz | hz
      . exact ⟨Int.dvd_trans hd (hst z hz).1,(hst z hz).2⟩
      . refine ⟨?_,z2E hv hmp z hz⟩;obtain ⟨j,hj,he⟩:=List.mem_iff_getElem.1 hz;simp only [stpN,List.length_zipWith] at hj;simp only [stpN,List.getElem_zipWith] at he;subst he;exact Int.dvd_trans hd (hs2 _ (List.getElem_mem (by omega)))
  . obtain ⟨-, -, hus,hua, -, -, -⟩:=x9G hv hm;exact ⟨hm,⟨_,_,hv⟩,⟨0,by omega⟩,fun z hz=>(by cases hz),by rw [hua]; exact ⟨1,by omega⟩,rfl⟩
theorem lvS_off:∀ (s:Sh) (n:Nd) (dm lv:Int) (path:List Int) (off:Int) (st:List Stp),valS s dm lv=true->mpS s=some n->(∀ x∈lvS s n path off st,off <= x.off/\x.off <= off+n.e.b)/\(lvS s n path off st).Pairwise (fun x y=>x.off <= y.off):=by
  intro s
  induction s using Sh.ind with
  | h D P t g ih =>
    intro n dm lv path off st hv hm;obtain ⟨hin,hge, -, -, -, -, -⟩:=x9G hv hm;have hlen:=y6Q hm;have heb:=hge.2.2.2.1;cases P with
    | nil =>
      rw [y4W];refine ⟨fun x hx=> ?_,List.pairwise_singleton _ _⟩;simp only [List.mem_singleton] at hx;subst hx;exact ⟨Int.le_refl _,by show off <= off+n.e.b; omega⟩
    | cons q Q =>
      rw [y4V];have key:∀ (P:List Sh) (ms:List Nd) (az:List Int) (i:Nat) (lo:Int) st, lo <= n.e.b->(∀ p∈P, p∈q::Q)->ms.length=P.length->az.length=P.length ->
          (∀ (j:Nat) (p:Sh) (m:Nd) (a:Int),P[j]? = some p->ms[j]? = some m->az[j]? = some a->mpS p=some m/\lo <= a/\a+m.u.b <= n.e.b/\∀ (k:Nat) (b:Int),j<k->az[k]? = some b->a+m.u.b <= b) ->
          (∀ x∈lvL P ms az i path off st,off+lo <= x.off/\x.off <= off+n.e.b)/\(lvL P ms az i path off st).Pairwise (fun x y=>x.off <= y.off):=by
        intro P
        induction P with
        | nil =>
          intro ms az i lo st _ _ _ _ _;rw [z3A];exact ⟨fun x hx=>(by cases hx),List.Pairwise.nil⟩
        | cons p P ihP =>
          intro ms az i lo st hlo hmem hml hal hget;cases ms with
          | nil=>simp at hml
          | cons m ms =>
            cases az with
            | nil=>simp at hal
            | cons a az =>
              rw [u6J];obtain ⟨g1,g2,g3,g4⟩:=hget 0 p m a rfl rfl rfl;have hvp:valS p (dm+D.length) (lv+1)=true:=(x2L hv).2.2.2.2 p (hmem p (by simp))
              obtain ⟨i1,i2⟩:=ih p (hmem p (by simp)) m _ _ (path++[(i:Int)]) (off+a) st hvp g1
              obtain ⟨-, hgm, -, -, hub, -, -⟩:=x9G hvp g1;have hmb:=hgm.2.2.2.1;obtain ⟨j1,j2⟩:=ihP ms az (i+1) (a+m.u.b) st g3 (fun p' hp'=>hmem p' (by simp [hp'])) (by simpa using hml) (by simpa using hal) (fun j p' m' a' h1 h2 h3=>by
                obtain ⟨f1,f2,f3,f4⟩:=hget (j+1) p' m' a' (by simpa using h1) (by simpa using h2) (by simpa using h3)
                exact ⟨f1,g4 (j+1) a' (by omega) (by simpa using h3),f3,fun k b hk hb=>f4 (k+1) b (by omega) (by simpa using hb)⟩)
              refine ⟨fun x hx=> ?_,List.pairwise_append.2 ⟨i2,j2,fun x hx y hy=> ?_⟩⟩
              . rcases List.mem_append.1 hx with hx | hx
                . have:=i1 x hx
                  omega
                . have:=j1 x hx
                  omega
              . have:=i1 x hx
                have:=j1 y hy
                omega
      have:=key (q::Q) n.ps n.at' 0 0 (st++stpN (.node D (q::Q) t g) n) heb (fun _ h=>h) hlen.2.2.1 hlen.2.1 (fun j p m a h1 h2 h3=>by
        obtain ⟨m2,hm2,hmp⟩:=hlen.2.2.2 j p h1;rw [h2] at hm2;cases hm2;obtain ⟨k1,k2,k3,k4⟩:=hin.one j m a h2 h3;exact ⟨hmp,k3,k4,fun k b hk hb=>hin.two j k m a b hk h2 h3 hb⟩)
      exact ⟨fun x hx=>by have:=this.1 x hx; omega,this.2⟩
end Go.Shp
