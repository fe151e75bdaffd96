/-
  THE EXECUTOR: a region that draws its order comes, in every order, to what the executor's one order comes to.; THE EXECUTOR: a region that draws its order: facts of the executor's own run.
-/
import Derived.Test.YtadehgdfijjikaaGreatDoorX7
set_option linter.all false
namespace Go.Xec
open Go
variable [GT]
section
variable {P : Program} {self : Task -> Hp -> Nat -> R}
theorem u2E {x : PI} {s s' : DS} {r : OR} (h : y0M x s r = some s') : ∃ v H1 n1,r = .ok v H1 n1 /\ ((n1 = s.n /\ s'.H = s.H) \/ (n1 = s.n + 1 /\ ∃ o,hget H1 s.n = some o /\ s'.H = hset s.H s.n o)) /\ s'.T = put s.T x.c.dst v /\ s'.n = n1 /\ s'.K = s.K /\ s'.E = s.E /\ s'.A = cond (Nat.beq n1 s.n) s.A (Nat.lor s.A (bit x.i)) /\ s'.W = s.W:=by
  cases r with
  | bad=>cases h
  | ok v H1 n1 =>
    have h : (joinH s.H H1 s.n n1).map (fun H''=>({ s with T:=put s.T x.c.dst v,H:=H'',n:=n1,A:=cond (Nat.beq n1 s.n) s.A (Nat.lor s.A (bit x.i)) } : DS)) = some s':=h
    cases hj : joinH s.H H1 s.n n1 with
    | none=>rw [hj] at h; cases h
    | some H2 =>
      rw [hj] at h; cases h
      refine ⟨v,H1,n1,rfl, ?_,rfl,rfl,rfl,rfl,rfl,rfl⟩
      unfold joinH at hj
      cases hb : Nat.beq n1 s.n with
      | true=>rw [hb,cond_true] at hj; cases hj; exact .inl ⟨x0S hb,rfl⟩
      | false =>
        rw [hb,cond_false] at hj
        cases hb2 : Nat.beq n1 (Nat.succ s.n) with
        | false=>rw [hb2] at hj; cases hj
        | true =>
          rw [hb2,cond_true] at hj
          cases ho : hget H1 s.n with
          | none=>rw [ho] at hj; cases hj
          | some o=>rw [ho] at hj; cases hj; exact .inr ⟨x0S hb2,o,rfl,rfl⟩
theorem u2D {x : PI} {s s' : DS} {r : OR} (h : y4A x s r = some s') : ∃ v H1 n1,r = .ok v H1 n1 /\ sub s.E x.D = true /\ s'.T = put s.T x.c.dst v /\ s'.H = s.H /\ s'.n = s.n /\ s'.K = s.K /\ s'.E = s.E /\ s'.A = s.A /\ s'.W = ⟨x.i,x.c,s.T,v⟩ :: s.W:=by
  cases r with
  | bad=>cases h
  | ok v H1 n1 =>
    have h : cond (sub s.E x.D) (some ({ s with T:=put s.T x.c.dst v,W:=⟨x.i,x.c,s.T,v⟩ :: s.W } : DS)) none = some s':=h
    cases hb : sub s.E x.D with
    | false=>rw [hb] at h; cases h
    | true=>rw [hb] at h; cases h; exact ⟨v,H1,n1,rfl,rfl,rfl,rfl,rfl,rfl,rfl,rfl,rfl⟩
theorem v0B {x : PI} {s s' : DS} {r : OR} (h : z3N self x s r = some s') : ∃ v H1 n1,r = .ok v H1 n1 /\ sub s.E x.D = true /\ sub s.A x.D = true /\ y8A self x.D H1 n1 s.W = true /\ s'.T = put s.T x.c.dst v /\ s'.H = H1 /\ s'.n = n1 /\ s'.K = H1 /\ s'.E = Nat.lor s.E (bit x.i) /\ s'.A = s.A /\ s'.W = s.W:=by
  cases r with
  | bad=>cases h
  | ok v H1 n1 =>
    have h : cond (cond (sub s.E x.D) (cond (sub s.A x.D) (y8A self x.D H1 n1 s.W) false) false) (some ({ s with T:=put s.T x.c.dst v,H:=H1,n:=n1,K:=H1,E:=Nat.lor s.E (bit x.i) } : DS)) none = some s':=h
    cases hb : cond (sub s.E x.D) (cond (sub s.A x.D) (y8A self x.D H1 n1 s.W) false) false with
    | false=>rw [hb] at h; cases h
    | true =>
      rw [hb] at h; cases h
      obtain ⟨b1,b2⟩:=x0D hb
      obtain ⟨b3,b4⟩:=x0D b2
      exact ⟨v,H1,n1,rfl,b1,b3,b4,rfl,rfl,rfl,rfl,rfl,rfl,rfl⟩
noncomputable def y5X (self : Task -> Hp -> Nat -> R) (x : PI) (s : DS) : OR:=match x.kd with
  | .free=>x3A self s.T .leaf s.n x.c
  | .load=>x3A self s.T s.K s.n x.c
  | .eff=>x3A self s.T s.H s.n x.c
def valR : OR -> Value
  | .ok v _ _=>v
  | .bad=>undef
structure DRun (P : Program) (sf : Task -> Hp -> Nat -> R) (sz : Nat) (all : List Oper) (L : List PI) (st : Nat -> DS) : Prop where
  plan : Plan P sz all L
  step : ∀ (p : Nat) (x : PI),L[p]? = some x -> x2K sf x (st p) = some (st (p + 1))
  e0 : (st 0).E = 0
  a0 : (st 0).A = 0
  k0 : (st 0).K = (st 0).H
theorem drawL_cons (x : PI) (l : List PI) (s : DS) : drawL self (x :: l) s = (match x2K self x s with | some s=>drawL self l s | none=> .bad):=rfl
theorem z8C : ∀ (l : List PI) (s : DS) (ex : Ex) (T' : Tm) (H' : Hp) (n' : Nat),drawL self l s = .ok ex T' H' n' -> ∃ st : Nat -> DS,st 0 = s /\ (∀ (p : Nat) (x : PI),l[p]? = some x -> x2K self x (st p) = some (st (p + 1))) /\ ex = .normal /\ T' = (st l.length).T /\ H' = (st l.length).H /\ n' = (st l.length).n
  | [],s,ex,T',H',n',h=>by cases h; exact ⟨fun _=>s,rfl,fun p x hx=>by simp at hx,rfl,rfl,rfl,rfl⟩
  | x :: l,s,ex,T',H',n',h=>by
    rw [drawL_cons] at h
    cases hs : x2K self x s with
    | none=>rw [hs] at h; cases h
    | some s1 =>
      rw [hs] at h
      obtain ⟨st,h1,h2,h3,h4,h5,h6⟩:=z8C l s1 ex T' H' n' h
      refine ⟨fun p=>match p with | 0=>s | p + 1=>st p,rfl,fun p y hy=> ?_,h3,h4,h5,h6⟩
      cases p with
      | zero=>simp at hy; subst hy; simp only [h1]; exact hs
      | succ p=>exact h2 p y (by simpa using hy)
section
variable {sz : Nat} {all : List Oper} {L : List PI} {st : Nat -> DS}
structure FreeS (sf : Task -> Hp -> Nat -> R) (x : PI) (s s' : DS) (v : Value) (H1 : Hp) : Prop where
  run : x3A sf s.T .leaf s.n x.c = .ok v H1 s'.n
  heap : (s'.n = s.n /\ s'.H = s.H) \/ (s'.n = s.n + 1 /\ ∃ o,hget H1 s.n = some o /\ s'.H = hset s.H s.n o)
  K : s'.K = s.K
  E : s'.E = s.E
  A : s'.A = cond (Nat.beq s'.n s.n) s.A (Nat.lor s.A (bit x.i))
  W : s'.W = s.W
structure LoadS (sf : Task -> Hp -> Nat -> R) (x : PI) (s s' : DS) (v : Value) : Prop where
  run : ∃ H1 n1,x3A sf s.T s.K s.n x.c = .ok v H1 n1
  dep : sub s.E x.D = true
  H : s'.H = s.H
  n : s'.n = s.n
  K : s'.K = s.K
  E : s'.E = s.E
  A : s'.A = s.A
  W : s'.W = ⟨x.i,x.c,s.T,v⟩ :: s.W
structure EffS (sf : Task -> Hp -> Nat -> R) (x : PI) (s s' : DS) (v : Value) : Prop where
  run : x3A sf s.T s.H s.n x.c = .ok v s'.H s'.n
  dep : sub s.E x.D = true
  depA : sub s.A x.D = true
  wts : y8A sf x.D s'.H s'.n s.W = true
  K : s'.K = s'.H
  E : s'.E = Nat.lor s.E (bit x.i)
  A : s'.A = s.A
  W : s'.W = s.W
theorem DRun.free (d : DRun P self sz all L st) {p : Nat} {x : PI} (hx : L[p]? = some x) (hk : x.kd = .free) : ∃ v H1,FreeS self x (st p) (st (p + 1)) v H1 /\ (st (p + 1)).T = put (st p).T x.c.dst v /\ valR (y5X self x (st p)) = v:=by
  have h:=d.step p x hx
  unfold x2K at h
  rw [hk] at h
  obtain ⟨v,H1,n1,h1,h2,h3,rfl,h5,h6,h7,h8⟩:=u2E h
  exact ⟨v,H1,⟨h1,h2,h5,h6,h7,h8⟩,h3,by unfold y5X; rw [hk]; simp only [h1]; rfl⟩
theorem DRun.load (d : DRun P self sz all L st) {p : Nat} {x : PI} (hx : L[p]? = some x) (hk : x.kd = .load) : ∃ v,LoadS self x (st p) (st (p + 1)) v /\ (st (p + 1)).T = put (st p).T x.c.dst v /\ valR (y5X self x (st p)) = v:=by
  have h:=d.step p x hx
  unfold x2K at h
  rw [hk] at h
  obtain ⟨v,H1,n1,h1,h2,h3,h4,h5,h6,h7,h8,h9⟩:=u2D h
  exact ⟨v,⟨⟨H1,n1,h1⟩,h2,h4,h5,h6,h7,h8,h9⟩,h3,by unfold y5X; rw [hk]; simp only [h1]; rfl⟩
theorem DRun.eff (d : DRun P self sz all L st) {p : Nat} {x : PI} (hx : L[p]? = some x) (hk : x.kd = .eff) : ∃ v,EffS self x (st p) (st (p + 1)) v /\ (st (p + 1)).T = put (st p).T x.c.dst v /\ valR (y5X self x (st p)) = v:=by
  have h:=d.step p x hx
  unfold x2K at h
  rw [hk] at h
  obtain ⟨v,H1,n1,h1,h2,h3,h4,h5,rfl,rfl,h8,h9,h10,h11⟩:=v0B h
  exact ⟨v,⟨h1,h2,h3,h4,h8,h9,h10,h11⟩,h5,by unfold y5X; rw [hk]; simp only [h1]; rfl⟩
theorem DRun.val (d : DRun P self sz all L st) {p : Nat} {x : PI} (hx : L[p]? = some x) : (st (p + 1)).T = put (st p).T x.c.dst (valR (y5X self x (st p))):=by
  cases hk : x.kd with
  | free=>obtain ⟨v,H1,_,h2,h3⟩:=d.free hx hk; rw [h3]; exact h2
  | load=>obtain ⟨v,_,h2,h3⟩:=d.load hx hk; rw [h3]; exact h2
  | eff=>obtain ⟨v,_,h2,h3⟩:=d.eff hx hk; rw [h3]; exact h2
end
end
end Go.Xec
namespace Go.Xec
open Go
variable [GT]
section
variable {P : Program} {self : Task -> Hp -> Nat -> R}
theorem x7X {T : Tm} {H H' : Hp} {n n' : Nat} {o : Oper} {v : Value} (h : x0V P T H n o = .ok v H' n') : H' = H /\ n' = n:=by
  unfold x0V at h
  split at h
  . obtain ⟨_,h2⟩:=x2R h; cases h2; exact ⟨rfl,rfl⟩
  . cases h
theorem v0L {o : Oper} {T : Tm} {H H' : Hp} {n n' : Nat} {v : Value} (hk : kdOf P o.op = .load) (h : (x0N P o).f T H n = .ok v H' n') : H' = H /\ n' = n:=by
  unfold kdOf at hk
  split at hk <;> first | (cases hk; done) | skip
  . rename_i t a ho
    unfold x0N at h
    rw [ho] at h
    unfold z8K at h
    simp only at h
    cases hb : x1X (P.underlying t) with
    | true =>
      rw [hb,cond_true] at h
      obtain ⟨_,_,h2⟩:=x1N h
      obtain ⟨_,_,h3⟩:=x3Z h2
      obtain ⟨_,_,h4⟩:=x1J h3
      obtain ⟨_,_,h5⟩:=x1J h4
      cases h5; exact ⟨rfl,rfl⟩
    | false =>
      rw [hb,cond_false] at h
      obtain ⟨_,_,h2⟩:=x1N h
      obtain ⟨_,_,h3⟩:=x3Z h2
      obtain ⟨_,_,h4⟩:=x1J h3
      obtain ⟨_,_,h5⟩:=x1J h4
      cases h5; exact ⟨rfl,rfl⟩
  . rename_i s d x ho
    unfold x0N at h
    rw [ho] at h
    unfold x4A at h
    simp only at h
    cases hb : x9E (P.underlying d) with
    | false =>
      rw [hb,cond_false] at h
      split at h
      . unfold y0T at h
        obtain ⟨_,h2⟩:=x4N h
        cases hs : x9E (P.underlying s) with
        | true =>
          exfalso
          rw [y3V hs] at hk
          cases hk
        | false =>
          rw [hs,cond_false] at h2
          obtain ⟨_,h3⟩:=x4N h2
          obtain ⟨_,_,_,_,h4⟩:=z2J h3
          obtain ⟨_,_,h5⟩:=x1J h4
          cases h5; exact ⟨rfl,rfl⟩
      . exact x7X (x2R h).2
    | true =>
      rw [hb,cond_true] at h
      split at h
      . obtain ⟨_,h2⟩:=x4N h
        simp only at h2
        unfold v3B at h2
        split at h2
        . obtain ⟨_,_,h4⟩:=x1J h2
          obtain ⟨_,_,h5⟩:=x1J h4
          obtain ⟨_,_,h6⟩:=x1J h5
          cases h6; exact ⟨rfl,rfl⟩
        . exact x7X (x2R h2).2
      . exact x7X (x2R h).2
theorem v3V {sz : Nat} {all : List Oper} {o : Oper} {T : Tm} {H H' : Hp} {n n' : Nat} {v : Value} (hk : kdOf P o.op = .load) (h : x3A self T H n (compI P sz all o) = .ok v H' n') : H' = H /\ n' = n:=by
  have hK : ∀ {v : Value} {H' : Hp} {n' : Nat}, y3D self T H n (x5J P o) = .ok v H' n' -> H' = H /\ n' = n:=fun {v H' n'} h=>by
    unfold x5J at h
    split at h
    . rename_i f args ts ho
      rw [ho] at hk; cases hk
    . cases hc : x5F o.op.operands.toList with
      | false=>rw [hc] at h; cases h
      | true=>rw [hc,cond_true] at h; exact v0L hk h
  unfold compI at h
  cases hd : y8Q sz o.dst with
  | false=>rw [hd] at h; cases h
  | true =>
    rw [hd,cond_true] at h
    split at h
    . exact hK h
    . split at h
      . rename_i j want _ _ t ht
        have h : (match tget T t with | .bool b=>cond (cond want b (!b)) (y3D self T H n (x5J P o)) (.ok undef H n) | _=> .ok undef H n) = .ok v H' n':=h
        split at h
        . rename_i b _
          cases hc : cond want b (!b) with
          | true=>rw [hc,cond_true] at h; exact hK h
          | false=>rw [hc,cond_false] at h; cases h; exact ⟨rfl,rfl⟩
        . cases h; exact ⟨rfl,rfl⟩
      . cases h
theorem v1L {a b : Value} (h : veq0 a b = true) : a = b:=by
  unfold veq0 at h
  split at h
  . rename_i x y; cases x <;> cases y <;> first | rfl | cases h
  . obtain ⟨h1,h2⟩:=x0D h
    rw [of_decide_eq_true h1,of_decide_eq_true h2]
  . rename_i x y
    have:=of_decide_eq_true h
    rw [show x = y from by cases x; cases y; simp at this; exact congrArg _ this]
  . rfl
  . obtain ⟨h1,h2⟩:=x0D h
    rw [x0S h1,x0S h2]
  . obtain ⟨h1,h2⟩:=x0D h
    rw [x0S h1,x0S h2]
  . obtain ⟨h1,h2⟩:=x0D h
    obtain ⟨h3,h4⟩:=x0D h1
    obtain ⟨h5,h6⟩:=x0D h2
    rw [x0S h3,x0S h4,x0S h5,x0S h6]
  . rfl
  . rfl
  . cases h
theorem x9M : ∀ {l m : List Value}, veqL l m = true -> l = m
  | [],[],_=>rfl
  | [],_ :: _,h=>by cases h
  | _ :: _,[],h=>by cases h
  | x :: l,y :: m,h=>by
    have h : cond (veq0 x y) (veqL l m) false = true:=h
    obtain ⟨h1,h2⟩:=x0D h
    rw [v1L h1,x9M h2]
theorem u3L {a b : Value} (h : veq a b = true) : a = b:=by
  unfold veq at h
  split at h
  . rename_i x y; rw [show x = y from Array.ext' (x9M h)]
  . rename_i f x y g c d
    obtain ⟨h1,h2⟩:=x0D h
    obtain ⟨h3,h4⟩:=x0D h2
    rw [x0S h1,show x = c from Array.ext' (x9M h3),show y = d from Array.ext' (x9M h4)]
  . rename_i f x y g c d
    obtain ⟨h1,h2⟩:=x0D h
    obtain ⟨h3,h4⟩:=x0D h2
    rw [x0S h1,show x = c from Array.ext' (x9M h3),show y = d from Array.ext' (x9M h4)]
  . rename_i x y; rw [show x = y from Array.ext' (x9M h)]
  . exact v1L h
section
variable {sz : Nat} {all : List Oper} {L : List PI} {st : Nat -> DS}
theorem DRun.mono1 (d : DRun P self sz all L st) (hN : x2Y P) (hself : ∀ t H n,x6D P t H n (self t H n)) {p : Nat} {x : PI} (hx : L[p]? = some x) : NoneOut (st p).H (st p).n (st (p + 1)).H (st (p + 1)).n:=by
  cases hk : x.kd with
  | free =>
    obtain ⟨v,H1,f,_,_⟩:=d.free hx hk
    rcases f.heap with ⟨h1,h2⟩ | ⟨h1,o,h2,h3⟩
    . rw [h1,h2]; exact NoneOut.refl _ _
    . rw [h1,h3]; exact ⟨by omega,fun i hi h0=>by rw [x0E,if_neg (by omega)]; exact h0⟩
  | load =>
    obtain ⟨v,f,_,_⟩:=d.load hx hk
    rw [f.H,f.n]; exact NoneOut.refl _ _
  | eff =>
    obtain ⟨v,f,_,_⟩:=d.eff hx hk
    obtain ⟨o,ho,_,hc⟩:=d.plan.item p x hx
    have h:=f.run
    rw [hc] at h
    exact (x2M hN hself h).1.1
theorem DRun.mono (d : DRun P self sz all L st) (hN : x2Y P) (hself : ∀ t H n,x6D P t H n (self t H n)) {p : Nat} : ∀ {q : Nat}, p <= q -> q <= L.length -> NoneOut (st p).H (st p).n (st q).H (st q).n
  | 0,h1,h2=>by
    have : p = 0:=by omega
    subst this; exact NoneOut.refl _ _
  | q + 1,h1,h2=>by
    rcases Nat.lt_or_ge q p with h | h
    . have : p = q + 1:=by omega
      subst this; exact NoneOut.refl _ _
    . exact (d.mono hN hself h (by omega)).trans (d.mono1 hN hself (List.getElem?_eq_getElem (by omega)))
theorem DRun.effs (d : DRun P self sz all L st) : ∀ (p : Nat),p <= L.length -> ∀ (q : Nat) (y : PI),L[q]? = some y -> y.kd = .eff -> q < p -> tb (st p).E y.i = true
  | 0,_,_,_,_,_,h=>by omega
  | p + 1,hp,q,y,hy,hk,h=>by
    have hx : L[p]? = some L[p]:=List.getElem?_eq_getElem (by omega)
    have old : q < p -> tb (st p).E y.i = true:=fun h=>d.effs p (by omega) q y hy hk h
    by_cases hq : q = p
    . subst hq
      rw [hy] at hx; cases hx
      obtain ⟨v,f,_,_⟩:=d.eff hy hk
      rw [f.E,y8H,z5L]; simp
    . have old:=old (by omega)
      cases hkx : L[p].kd with
      | free=>obtain ⟨v,H1,f,_,_⟩:=d.free hx hkx; rw [f.E]; exact old
      | load=>obtain ⟨v,f,_,_⟩:=d.load hx hkx; rw [f.E]; exact old
      | eff=>obtain ⟨v,f,_,_⟩:=d.eff hx hkx; rw [f.E,y8H,old]; rfl
theorem DRun.makers (d : DRun P self sz all L st) : ∀ (p : Nat),p <= L.length -> ∀ (q : Nat) (y : PI),L[q]? = some y -> y.kd = .free -> (st (q + 1)).n = (st q).n + 1 -> q < p -> tb (st p).A y.i = true
  | 0,_,_,_,_,_,_,h=>by omega
  | p + 1,hp,q,y,hy,hk,ha,h=>by
    have hx : L[p]? = some L[p]:=List.getElem?_eq_getElem (by omega)
    by_cases hq : q = p
    . subst hq
      rw [hy] at hx; cases hx
      obtain ⟨v,H1,f,_,_⟩:=d.free hy hk
      rw [f.A,ha,x0J (by omega),cond_false,y8H,z5L]; simp
    . have old:=d.makers p (by omega) q y hy hk ha (by omega)
      cases hkx : L[p].kd with
      | free =>
        obtain ⟨v,H1,f,_,_⟩:=d.free hx hkx
        rw [f.A]
        cases Nat.beq (st (p + 1)).n (st p).n
        . rw [cond_false,y8H,old]; rfl
        . exact old
      | load=>obtain ⟨v,f,_,_⟩:=d.load hx hkx; rw [f.A]; exact old
      | eff=>obtain ⟨v,f,_,_⟩:=d.eff hx hkx; rw [f.A]; exact old
theorem DRun.loads (d : DRun P self sz all L st) : ∀ (p : Nat),p <= L.length -> ∀ (q : Nat) (y : PI),L[q]? = some y -> y.kd = .load -> q < p -> (⟨y.i,y.c,(st q).T,valR (y5X self y (st q))⟩ : Wt) ∈ (st p).W
  | 0,_,_,_,_,_,h=>by omega
  | p + 1,hp,q,y,hy,hk,h=>by
    have hx : L[p]? = some L[p]:=List.getElem?_eq_getElem (by omega)
    by_cases hq : q = p
    . subst hq
      obtain ⟨v,f,_,hv⟩:=d.load hy hk
      rw [f.W,hv]; simp
    . have old:=d.loads p (by omega) q y hy hk (by omega)
      cases hkx : L[p].kd with
      | free=>obtain ⟨v,H1,f,_,_⟩:=d.free hx hkx; rw [f.W]; exact old
      | load=>obtain ⟨v,f,_,_⟩:=d.load hx hkx; rw [f.W]; exact List.mem_cons_of_mem _ old
      | eff=>obtain ⟨v,f,_,_⟩:=d.eff hx hkx; rw [f.W]; exact old
theorem z4R {D : Nat} {H : Hp} {n : Nat} : ∀ {W : List Wt} {x : Wt}, y8A self D H n W = true -> x ∈ W -> wtOk self D H n x = true
  | y :: W,x,h,hx=>by
    have h : cond (wtOk self D H n y) (y8A self D H n W) false = true:=h
    obtain ⟨h1,h2⟩:=x0D h
    rcases List.mem_cons.1 hx with rfl | hx
    . exact h1
    . exact z4R h2 hx
def IsCut (L : List PI) (c : Nat) : Prop:=c = 0 \/ ∃ q y,c = q + 1 /\ L[q]? = some y /\ y.kd = .eff
def Calm (L : List PI) (c p : Nat) : Prop:= ∀ q y,c <= q -> q < p -> L[q]? = some y -> y.kd ≠ .eff
theorem DRun.behind (d : DRun P self sz all L st) {c : Nat} (hc : IsCut L c) : ∀ (p : Nat),c <= p -> p <= L.length -> Calm L c p -> (st p).K = (st c).H:=by
  intro p
  induction p with
  | zero =>
    intro h1 h2 h3
    have : c = 0:=by omega
    subst this; exact d.k0
  | succ p ih =>
    intro h1 h2 h3
    have hx : L[p]? = some L[p]:=List.getElem?_eq_getElem (by omega)
    rcases Nat.lt_or_ge p c with h | h
    . have : c = p + 1:=by omega
      subst this
      rcases hc with hc | ⟨q,y,e,hy,hk⟩
      . omega
      . have : q = p:=by omega
        subst this
        obtain ⟨v,f,_,_⟩:=d.eff hy hk
        exact f.K
    . have ih:=ih h (by omega) fun q y a b=>h3 q y a (by omega)
      cases hk : L[p].kd with
      | free=>obtain ⟨v,H1,f,_,_⟩:=d.free hx hk; rw [f.K]; exact ih
      | load=>obtain ⟨v,f,_,_⟩:=d.load hx hk; rw [f.K]; exact ih
      | eff=>exact absurd hk (h3 p _ h (by omega) hx)
theorem DRun.grow (d : DRun P self sz all L st) (hN : x2Y P) (hself : ∀ t H n,x6D P t H n (self t H n)) (h0 : ∀ i,(st 0).n <= i -> i < (st L.length).n -> hget (st 0).H i = none) {c : Nat} : ∀ (p : Nat),c <= p -> p <= L.length -> Calm L c p -> ∀ i o,hget (st c).H i = some o -> hget (st p).H i = some o:=by
  intro p
  induction p with
  | zero =>
    intro h1 h2 h3 i o h
    have : c = 0:=by omega
    subst this; exact h
  | succ p ih =>
    intro h1 h2 h3 i o h
    rcases Nat.lt_or_ge p c with hpc | hpc
    . have : c = p + 1:=by omega
      subst this; exact h
    . have hx : L[p]? = some L[p]:=List.getElem?_eq_getElem (by omega)
      have ih:=ih hpc (by omega) (fun q y a b=>h3 q y a (by omega)) i o h
      cases hk : L[p].kd with
      | free =>
        obtain ⟨v,H1,f,_,_⟩:=d.free hx hk
        rcases f.heap with ⟨_,h5⟩ | ⟨h4,o',_,h5⟩
        . rw [h5]; exact ih
        . rw [h5,x0E]
          split
          . rename_i e
            subst e
            have m0:=d.mono hN hself (Nat.zero_le p) (by omega)
            have m1:=d.mono hN hself (show p + 1 <= L.length by omega) (Nat.le_refl _)
            rw [m0.2 _ (.inr (Nat.le_refl _)) (h0 _ m0.1 (by have:=m1.1; omega))] at ih
            cases ih
          . exact ih
      | load=>obtain ⟨v,f,_,_⟩:=d.load hx hk; rw [f.H]; exact ih
      | eff=>exact absurd hk (h3 p _ hpc (by omega) hx)
theorem DRun.grown (d : DRun P self sz all L st) {c : Nat} : ∀ (p : Nat),c <= p -> p <= L.length -> Calm L c p -> ∀ i o,hget (st p).H i = some o -> hget (st c).H i = some o \/ ∃ q y,c <= q /\ q < p /\ L[q]? = some y /\ y.kd = .free /\ (st (q + 1)).n = (st q).n + 1 /\ i = (st q).n /\ hget (st (q + 1)).H i = some o:=by
  intro p
  induction p with
  | zero =>
    intro h1 h2 h3 i o h
    have : c = 0:=by omega
    subst this; exact .inl h
  | succ p ih =>
    intro h1 h2 h3 i o h
    rcases Nat.lt_or_ge p c with hpc | hpc
    . have : c = p + 1:=by omega
      subst this; exact .inl h
    . have hx : L[p]? = some L[p]:=List.getElem?_eq_getElem (by omega)
      have ih : hget (st p).H i = some o -> _:=ih hpc (by omega) (fun q y a b=>h3 q y a (by omega)) i o
      have next : hget (st p).H i = some o -> hget (st c).H i = some o \/ ∃ q y,c <= q /\ q < p + 1 /\ L[q]? = some y /\ y.kd = .free /\ (st (q + 1)).n = (st q).n + 1 /\ i = (st q).n /\ hget (st (q + 1)).H i = some o:=fun h=>by
        rcases ih h with h | ⟨q,y,a1,a2,a3⟩
        . exact .inl h
        . exact .inr ⟨q,y,a1,by omega,a3⟩
      cases hk : L[p].kd with
      | free =>
        obtain ⟨v,H1,f,_,_⟩:=d.free hx hk
        rcases f.heap with ⟨_,h5⟩ | ⟨h4,o',_,h5⟩
        . rw [h5] at h; exact next h
        . by_cases e : i = (st p).n
          . exact .inr ⟨p,_,hpc,by omega,hx,hk,h4,e,h⟩
          . rw [h5,x0E,if_neg e] at h; exact next h
      | load=>obtain ⟨v,f,_,_⟩:=d.load hx hk; rw [f.H] at h; exact next h
      | eff=>exact absurd hk (h3 p _ hpc (by omega) hx)
theorem DRun.dst (d : DRun P self sz all L st) (hN : x2Y P) (hself : ∀ t H n,x6D P t H n (self t H n)) {p : Nat} {x : PI} {o : Oper} (hx : L[p]? = some x) (ho : all[x.i]? = some o) : x.c.dst = o.dst /\ ∀ t,o.dst = some t -> t < sz:=by
  obtain ⟨o',ho',_,hc⟩:=d.plan.item p x hx
  rw [ho] at ho'; cases ho'
  cases hk : x.kd with
  | free=>obtain ⟨v,H1,f,_,_⟩:=d.free hx hk; have h:=f.run; rw [hc] at h |-; exact (x2M hN hself h).2
  | load=>obtain ⟨v,f,_,_⟩:=d.load hx hk; obtain ⟨_,_,h⟩:=f.run; rw [hc] at h |-; exact (x2M hN hself h).2
  | eff=>obtain ⟨v,f,_,_⟩:=d.eff hx hk; have h:=f.run; rw [hc] at h |-; exact (x2M hN hself h).2
theorem tget_put (T : Tm) (d : Option Tmp) (v : Value) (t : Nat) : tget (put T d v) t = if d = some t then v else tget T t:=by
  cases d with
  | none=>simp [put]
  | some e =>
    simp only [put,x7U,Option.some.injEq]
    by_cases h : t = e
    . simp [h]
    . rw [if_neg h,if_neg (fun x=>h x.symm)]
def Writes (L : List PI) (all : List Oper) (t : Tmp) (q : Nat) (y : PI) : Prop:=L[q]? = some y /\ ∃ o,all[y.i]? = some o /\ o.dst = some t
theorem Writes.uniq (pl : Plan P sz all L) {t : Tmp} {p q : Nat} {x y : PI} (h1 : Writes L all t p x) (h2 : Writes L all t q y) : p = q /\ x = y:=by
  obtain ⟨a1,o1,a2,a3⟩:=h1
  obtain ⟨b1,o2,b2,b3⟩:=h2
  by_cases e : p = q
  . subst e; rw [a1] at b1; cases b1; exact ⟨rfl,rfl⟩
  . exact absurd a3 (pl.dsts p q x y o1 o2 t a1 b1 a2 b2 e b3)
theorem DRun.tmp (d : DRun P self sz all L st) (hN : x2Y P) (hself : ∀ t H n,x6D P t H n (self t H n)) (t : Tmp) : ∀ (p : Nat),p <= L.length -> ((∃ q y,q < p /\ Writes L all t q y /\ tget (st p).T t = valR (y5X self y (st q))) \/ ((∀ q y,q < p -> ¬ Writes L all t q y) /\ tget (st p).T t = tget (st 0).T t))
  | 0,_=> .inr ⟨fun q y h=>by omega,rfl⟩
  | p + 1,hp=>by
    have hx : L[p]? = some L[p]:=List.getElem?_eq_getElem (by omega)
    obtain ⟨o,ho,_,_⟩:=d.plan.item p _ hx
    obtain ⟨hd,_⟩:=d.dst hN hself hx ho
    have hv:=d.val hx
    rw [hv,tget_put,hd]
    by_cases e : o.dst = some t
    . rw [if_pos e]
      exact .inl ⟨p,_,by omega,⟨hx,o,ho,e⟩,rfl⟩
    . rw [if_neg e]
      rcases d.tmp hN hself t p (by omega) with ⟨q,y,h1,h2,h3⟩ | ⟨h1,h2⟩
      . exact .inl ⟨q,y,by omega,h2,h3⟩
      . refine .inr ⟨fun q y hq hw=> ?_,h2⟩
        by_cases hqp : q = p
        . subst hqp
          obtain ⟨w1,o',w2,w3⟩:=hw
          rw [hx] at w1; cases w1
          rw [ho] at w2; cases w2
          exact e w3
        . exact h1 q y (by omega) hw
end
end
end Go.Xec
