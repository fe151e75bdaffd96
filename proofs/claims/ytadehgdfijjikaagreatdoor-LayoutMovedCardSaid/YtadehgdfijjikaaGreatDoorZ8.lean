/-
  PLAIN LEAN, LayoutAligned: pQ parts lie within a structure;alignments;offsets.
-/
import Derived.Test.YtadehgdfijjikaaGreatDoorZ7
set_option linter.all false
namespace Go.Shp
open Go Go.Yec Go.Proofs
theorem al_dvd {a b:Int}(ha:al a)(hb:al b)(h:a <= b):a∣b:=by
  rcases ha with rfl | rfl | rfl | rfl | rfl <;> rcases hb with rfl | rfl | rfl | rfl | rfl <;> first | (exfalso;omega) | decide
theorem y5B (x m:Int):m∣x-x%m:=⟨x/m,by have:=Int.emod_add_mul_ediv x m;omega⟩
theorem u8K {u v:Un}(h1:x2S u)(h2:x2S v):u.a∣(x1Q u v).s-u.s:=by
  by_cases h:v.a <= u.a
  . have:(x1Q u v).s=u.s:=by simp [x1Q,h]
    rw [this];exact ⟨0,by omega⟩
  . have hd:=al_dvd h1.1 h2.1 (by omega)
    have hg:gapU u v=(v.s-u.s-u.b)%u.a:=by simp [gapU,h]
    have hs:(x1Q u v).s=(v.s-gapU u v-u.b)%v.a:=by simp [x1Q,h]
    have d1:=Int.dvd_trans hd (y5B (v.s-gapU u v-u.b) v.a);have d2:=y5B (v.s-u.s-u.b) u.a;rw [<- hg] at d2;rw [<- hs] at d1
    have:=Int.dvd_sub d2 d1
    rwa [show v.s-u.s-u.b-gapU u v-(v.s-gapU u v-u.b-(x1Q u v).s)=(x1Q u v).s-u.s by omega] at this
theorem u0Y {u v:Un}:v.a∣(x1Q u v).s+(u.b+gapU u v)-v.s:=by
  by_cases h:v.a <= u.a
  . have hg:gapU u v=(v.s-u.s-u.b)%v.a:=by simp [gapU,h]
    have hs:(x1Q u v).s=u.s:=by simp [x1Q,h]
    have d2:=y5B (v.s-u.s-u.b) v.a;rw [<- hg] at d2;rw [hs]
    have:=(Int.dvd_neg (a:=v.a)).2 d2
    rwa [show -(v.s-u.s-u.b-gapU u v)=u.s+(u.b+gapU u v)-v.s by omega] at this
  . have hs:(x1Q u v).s=(v.s-gapU u v-u.b)%v.a:=by simp [x1Q,h]
    have d1:=y5B (v.s-gapU u v-u.b) v.a;rw [<- hs] at d1
    have:=(Int.dvd_neg (a:=v.a)).2 d1
    rwa [show -(v.s-gapU u v-u.b-(x1Q u v).s)=(x1Q u v).s+(u.b+gapU u v)-v.s by omega] at this
structure PtIn (e:Un) (az:List Int) (ms:List Nd):Prop where
  len:az.length=ms.length
  one:∀ (i:Nat) (m:Nd) (a:Int),ms[i]? = some m->az[i]? = some a->m.u.a <= e.a/\m.u.a∣e.s+a-m.u.s/\0 <= a/\a+m.u.b <= e.b
  two:∀ (i j:Nat) (m:Nd) (a b:Int),i<j->ms[i]? = some m->az[i]? = some a->az[j]? = some b->a+m.u.b <= b
theorem x9N {α:Type}{l:List α}{x y:α}{i:Nat}(h:(l++[x])[i]? = some y):(i<l.length/\l[i]? = some y)\/(i=l.length/\y=x):=by
  rcases Nat.lt_or_ge i l.length with hi | hi
  . rw [List.getElem?_append_left hi] at h;exact .inl ⟨hi,h⟩
  . rw [List.getElem?_append_right hi] at h;have h2:=(List.getElem?_eq_some_iff.1 h).1;simp only [List.length_cons,List.length_nil] at h2;have:i-l.length=0:=by omega
    rw [this] at h;simp only [List.getElem?_cons_zero,Option.some.injEq] at h;exact .inr ⟨by omega,h.symm⟩
theorem PtIn.push {e:Un}{az:List Int}{ms:List Nd}{n:Nd}(h:PtIn e az ms)(he:x2S e)(hn:x2S n.u)(hm:∀ m∈ms,x2S m.u):PtIn (x1Q e n.u) (az++[e.b+gapU e n.u]) (ms++[n]):=by
  have hg:=u5Y he hn;have df:=hn.2.2.2.1;have km:=he.2.2.2.1;have bq:(x1Q e n.u).b=e.b+gapU e n.u+n.u.b:=rfl;have xq:e.a <= (x1Q e n.u).a/\n.u.a <= (x1Q e n.u).a:=by
    show e.a <= (if n.u.a <= e.a then e.a else n.u.a)/\n.u.a <= (if n.u.a <= e.a then e.a else n.u.a)
    split <;> omega
  refine ⟨by simp [h.len],fun i m a h1 h2=>?_,fun i j m a b ke h1 h2 h3=>?_⟩
  . rcases x9N h1 with ⟨i1,h1⟩ | ⟨i1,rfl⟩
    . rcases x9N h2 with ⟨i2,h2⟩ | ⟨i2, -⟩
      . obtain ⟨k1,k2,k3,k4⟩:=h.one i m a h1 h2;have vZ:=hm m (List.mem_of_getElem? h1);refine ⟨by omega, ?_,k3,by rw [bq];omega⟩
        have:=Int.dvd_add (Int.dvd_trans (al_dvd vZ.1 he.1 k1) (u8K he hn)) k2
        rwa [show (x1Q e n.u).s-e.s+(e.s+a-m.u.s)=(x1Q e n.u).s+a-m.u.s by omega] at this
      . have:=h.len;omega
    . rcases x9N h2 with ⟨i2, -⟩ | ⟨i2,rfl⟩
      . have:=h.len;omega
      . exact ⟨xq.2,u0Y,by omega,by rw [bq];omega⟩
  . have hl:=h.len;rcases x9N h1 with ⟨i1,h1⟩ | ⟨i1,rfl⟩
    . rcases x9N h2 with ⟨i2,h2⟩ | ⟨i2, -⟩
      . rcases x9N h3 with ⟨i3,h3⟩ | ⟨i3,rfl⟩
        . exact h.two i j m a b ke h1 h2 h3
        . have:=(h.one i m a h1 h2).2.2.2
          omega
      . omega
    . have:=(List.getElem?_eq_some_iff.1 h3).1
      simp at this;omega
def prtS:Sh->List Int->Option Sh
  | s,[]=>some s
  | s,i::path=>if 0 <= i/\i<s.P.length then (match s.P[i.toNat]? with | some p=>prtS p path | none=>none) else none
end Go.Shp
