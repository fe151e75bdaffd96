/-
  THE EXECUTOR: a region that draws its order: in every order to the same.; THE EXECUTOR: a region that draws its order, whole.; THE EXECUTOR IS SOUND: what it comes to, the model comes to; and a closed call.
-/
import Derived.Test.YtadehgdfijjikaaGreatDoorX8
import Derived.Test.YtadehgdfijjikaaGreatDoorX7
set_option linter.all false
namespace Go.Xec
open Go
variable [GT]
section
variable {P : Program} {self : Task -> Hp -> Nat -> R}
theorem Ext.within {β γ δ : Bm} {G G' G'' : Gp} {n n' m m' : Nat} {w w' w'' : World} (h1 : Ext P β G n w γ G' n' w') (h2 : Ext P γ G' m w' δ G'' m' w'') (hl : ∀ i,i < n \/ n' <= i -> i < m \/ m' <= i) (hf : Fresh β n n') :
    Ext P β G n w δ G'' n' w'':=by
  have e1:=h1.le hf
  refine ⟨fun i hi=> ?_,h2.wr,Nat.le_trans h1.size h2.size,fun b hb ho=> ?_,fun i o b g1 g2 g3=> ?_,fun i g=>h2.keep i (h1.keep i g),fun i b g hb=> ?_,h2.os.trans h1.os,h2.out.trans h1.out,h2.tape.trans h1.tape⟩
  . rw [h2.same i (hl i hi),h1.same i hi]
  . rw [h2.frame b (by have:=h1.size; omega) ?_,h1.frame b hb ho]
    intro i o c g1 g2 g3 g4
    rcases h1.orig i o c g1 g2 g3 with h | ⟨j,p,d,q1,q2,q3,q4⟩
    . omega
    . exact ho j p d q1 q2 q3 (q4.trans g4)
  . rcases h2.orig i o b g1 g2 g3 with h | ⟨j,p,c,q1,q2,q3,q4⟩
    . exact .inl (Nat.le_trans h1.size h)
    . rcases h1.orig j p c q1 q2 q3 with h | ⟨k,r,d,r1,r2,r3,r4⟩
      . exact .inl (q4 ▸ h)
      . exact .inr ⟨k,r,d,r1,r2,r3,r4.trans q4⟩
  . rw [h2.kept i b (h1.keep i g) (e1 i b hb),h1.kept i b g hb]
theorem y3Y : hget .leaf = fun _=>none:=rfl
theorem WR.lay {β : Bm} {G : Gp} {w : World} (h : WR P β G w) {i : Nat} {o : AObj} (hi : G i = some o) : β i ≠ none:=fun e=>by
  obtain ⟨b,q,h1,_⟩:=h.obj i o hi
  rw [e] at h1; cases h1
section
variable {sz : Nat} {all : List Oper} {L : List PI} {st : Nat -> DS}
def TV (self : Task -> Hp -> Nat -> R) (L : List PI) (all : List Oper) (st : Nat -> DS) (S : Nat -> Prop) (t : Tmp) (v : Value) : Prop :=
  (∃ q y,Writes L all t q y /\ S y.i /\ v = valR (y5X self y (st q))) \/ ((∀ q y,Writes L all t q y -> ¬ S y.i) /\ v = tget (st 0).T t)
def v6Z (L : List PI) (st : Nat -> DS) (q : Nat) (y : PI) : Prop:=L[q]? = some y /\ y.kd = .free /\ (st (q + 1)).n = (st q).n + 1
structure Inv (P : Program) (sf : Task -> Hp -> Nat -> R) (sz : Nat) (all : List Oper) (L : List PI) (st : Nat -> DS) (β0 : Bm) (w0 : World) (ds : List Deferred) (S : Nat -> Prop) (a : Act) (w : World) (β : Bm) (G : Gp) (c : Nat) : Prop where
  clo : u7B all S
  cle : c <= L.length
  cut : IsCut L c
  effs : ∀ q y,L[q]? = some y -> y.kd = .eff -> (S y.i ↔ q < c)
  inG : ∀ i o,hget (st c).H i = some o -> G i = some o
  outG : ∀ i o,G i = some o -> hget (st c).H i = some o \/ (hget (st c).H i = none /\ ∃ q y,c <= q /\ v6Z L st q y /\ S y.i /\ i = (st q).n)
  newG : ∀ q y,c <= q -> v6Z L st q y -> S y.i -> G (st q).n = hget (st (q + 1)).H (st q).n
  tmp : ∀ t v,TV sf L all st S t v -> VR β v (a.tmps.getD t undef)
  size : a.tmps.size = sz
  dfr : a.defers = ds
  ext : Ext P β0 (hget (st 0).H) (st 0).n w0 β G (st L.length).n w
  fresh : ∀ q y,L[q]? = some y -> ¬ S y.i -> Fresh β (st q).n (st (q + 1)).n
structure Hyp (P : Program) (sf : Task -> Hp -> Nat -> R) (sz : Nat) (all : List Oper) (L : List PI) (st : Nat -> DS) (β0 : Bm) : Prop where
  run : DRun P sf sz all L st
  names : x2Y P
  sound : ∀ t H n,x6D P t H n (sf t H n)
  none0 : ∀ i,(st 0).n <= i -> i < (st L.length).n -> hget (st 0).H i = none
  free0 : Fresh β0 (st 0).n (st L.length).n
variable {β0 : Bm} {w0 : World} {ds : List Deferred}
theorem Hyp.le (h : Hyp P self sz all L st β0) {p q : Nat} (hpq : p <= q) (hq : q <= L.length) : (st p).n <= (st q).n:=(h.run.mono h.names h.sound hpq hq).1
theorem Hyp.none (h : Hyp P self sz all L st β0) {p : Nat} (hp : p <= L.length) {i : Nat} (h1 : (st p).n <= i) (h2 : i < (st L.length).n) : hget (st p).H i = none:=by
  have m:=h.run.mono h.names h.sound (Nat.zero_le p) hp
  exact m.2 i (.inr h1) (h.none0 i (by have:=m.1; omega) h2)
theorem x7M {p : Nat} {x : PI} (hx : L[p]? = some x) : p < L.length:=(List.getElem?_eq_some_iff.1 hx).1
theorem Hyp.apart (h : Hyp P self sz all L st β0) {p q : Nat} {x y : PI} (hx : L[p]? = some x) (hy : L[q]? = some y) (hne : q ≠ p) {i : Nat} (h1 : (st q).n <= i) (h2 : i < (st (q + 1)).n) : i < (st p).n \/ (st (p + 1)).n <= i:=by
  have:=x7M hx
  have:=x7M hy
  rcases Nat.lt_or_ge q p with hl | hl
  . have:=h.le (show q + 1 <= p from hl) (by omega); omega
  . have:=h.le (show p + 1 <= q by omega) (by omega); omega
section
variable {S : Nat -> Prop} {a : Act} {w : World} {β : Bm} {G : Gp} {c : Nat}
theorem Inv.looked (v : Inv P self sz all L st β0 w0 ds S a w β G c) (h : Hyp P self sz all L st β0) {p : Nat} {x : PI} {o : Oper} (hx : L[p]? = some x) (ho : all[x.i]? = some o) (hS : ¬ S x.i) (he : ∀ e ∈ o.after.toList,Region.binds .any e = true -> S e.on)
    {t : Tmp} (ht : t ∈ looks all o) : VR β (tget (st p).T t) (a.tmps.getD t undef):=by
  refine v.tmp t _ ?_
  have pl:=h.run.plan
  have key : ∀ q y,Writes L all t q y -> (q < p -> S y.i) /\ (S y.i -> q < p):=fun q y hw=>by
    obtain ⟨b1,oy,b2,b3⟩:=hw
    by_cases hqp : q = p
    . subst hqp
      rw [hx] at b1; cases b1
      exact ⟨fun h=>by omega,fun h=>absurd h hS⟩
    . rcases pl.looked p q x y o oy t hx b1 ho b2 (fun e=>hqp e.symm) b3 ht with hd | hd
      . refine ⟨fun _=>pl.hang p x o S hx ho v.clo he _ hd,fun _=> ?_⟩
        obtain ⟨q',y',c1,c2,c3⟩:=pl.ahead p x _ hx hd
        have:=pl.uniq q q' y y' b1 c2 c3.symm
        omega
      . obtain ⟨q',y',c1,c2,c3⟩:=pl.ahead q y _ b1 hd
        have:=pl.uniq p q' x y' hx c2 c3.symm
        refine ⟨fun hl=>by omega,fun hs=>absurd (pl.hang q y oy S b1 b2 v.clo (v.clo _ _ b2 hs) _ hd) hS⟩
  rcases h.run.tmp h.names h.sound t p (Nat.le_of_lt (x7M hx)) with ⟨q,y,a1,a2,a3⟩ | ⟨a1,a2⟩
  . exact .inl ⟨q,y,a2,(key q y a2).1 a1,a3⟩
  . exact .inr ⟨fun q y hw hs=>a1 q y ((key q y hw).2 hs) hw,a2⟩
theorem Inv.tmp' (v : Inv P self sz all L st β0 w0 ds S a w β G c) (h : Hyp P self sz all L st β0) {p : Nat} {x : PI} {o : Oper} (hx : L[p]? = some x) (ho : all[x.i]? = some o) {γ : Bm} {cv : Value} (hv : VR γ (valR (y5X self x (st p))) cv) (hle : ∀ i c, β i = some c -> γ i = some c)
    (t : Tmp) (u : Value) (hu : TV self L all st (fun i=>S i \/ i = x.i) t u) : VR γ u ((a.put o.dst cv).tmps.getD t undef):=by
  have pl:=h.run.plan
  have hdst:=(h.run.dst h.names h.sound hx ho).2
  have eq : (a.put o.dst cv).tmps.getD t undef = if o.dst = some t then cv else a.tmps.getD t undef:=by
    cases hd : o.dst with
    | none=>simp [Act.put]
    | some d =>
      simp only [Act.put,Option.some.injEq]
      rw [u5M _ _ _ _ (by rw [v.size]; exact hdst d hd)]
      by_cases e : t = d
      . simp [e]
      . rw [if_neg e,if_neg (fun x=>e x.symm)]
  rw [eq]
  by_cases e : o.dst = some t
  . rw [if_pos e]
    have hw : Writes L all t p x:=⟨hx,o,ho,e⟩
    rcases hu with ⟨q,y,h1,_,rfl⟩ | ⟨h1,_⟩
    . obtain ⟨rfl,rfl⟩:=hw.uniq pl h1
      exact hv
    . exact absurd (.inr rfl) (h1 p x hw)
  . rw [if_neg e]
    refine (v.tmp t u ?_).mono hle
    rcases hu with ⟨q,y,h1,h2 | h2,rfl⟩ | ⟨h1,rfl⟩
    . exact .inl ⟨q,y,h1,h2,rfl⟩
    . obtain ⟨b1,oy,b2,b3⟩:=h1
      have : oy = o:=by rw [h2,ho] at b2; exact (Option.some.inj b2).symm
      subst this
      exact absurd b3 e
    . exact .inr ⟨fun q y hw hs=>h1 q y hw (.inl hs),rfl⟩
theorem Inv.clo' (v : Inv P self sz all L st β0 w0 ds S a w β G c) {x : PI} {o : Oper} (ho : all[x.i]? = some o) (he : ∀ e ∈ o.after.toList,Region.binds .any e = true -> S e.on) : u7B all (fun i=>S i \/ i = x.i):=by
  intro i o' ho' hi e hm hb
  rcases hi with hi | rfl
  . exact .inl (v.clo i o' ho' hi e hm hb)
  . rw [ho] at ho'; cases ho'
    exact .inl (he e hm hb)
theorem x8L (a : Act) (d : Option Tmp) (v : Value) : (a.put d v).tmps.size = a.tmps.size /\ (a.put d v).defers = a.defers:=by
  cases d <;> simp [Act.put]
theorem Inv.made (v : Inv P self sz all L st β0 w0 ds S a w β G c) (h : Hyp P self sz all L st β0) {q : Nat} {y : PI} (hm : v6Z L st q y) (hq : q < c) : S y.i:=by
  rcases v.cut with rfl | ⟨e,z,rfl,hz,hk⟩
  . omega
  . have hne : q ≠ e := fun x => by
      subst x
      obtain ⟨m1,m2,_⟩:=hm
      rw [hz] at m1; cases m1
      rw [hk] at m2; cases m2
    obtain ⟨u,f,_,_⟩:=h.run.eff hz hk
    have hA:=h.run.makers e (Nat.le_of_lt (x7M hz)) q y hm.1 hm.2.1 hm.2.2 (by omega)
    obtain ⟨oz,hoz,_,_⟩:=h.run.plan.item e z hz
    have hSz : S z.i:=(v.effs e z hz hk).2 (by omega)
    exact h.run.plan.hang e z oz S hz hoz v.clo (v.clo _ _ hoz hSz) _ (z5N f.depA hA)
theorem Inv.free (v : Inv P self sz all L st β0 w0 ds S a w β G c) (h : Hyp P self sz all L st β0) {p : Nat} {x : PI} {o : Oper} (hx : L[p]? = some x) (ho : all[x.i]? = some o) (hk : x.kd = .free) (hS : ¬ S x.i) (he : ∀ e ∈ o.after.toList,Region.binds .any e = true -> S e.on)
    {ops : Array Oper} (hall : ops.toList = all) {ro : Option Nat} {Q : Exit -> Act -> World -> Prop} {K : Act -> World -> Prop}
    (hK : ∀ a' w' β' G' c',Inv P self sz all L st β0 w0 ds (fun i=>S i \/ i = x.i) a' w' β' G' c' -> K a' w') : wpOpIn (fen ro) 0 P ops Q x.i K a w:=by
  obtain ⟨u,H1,f,_,hval⟩:=h.run.free hx hk
  obtain ⟨o',ho',_,hc⟩:=h.run.plan.item p x hx
  rw [ho] at ho'; cases ho'
  have hrun:=f.run
  rw [hc] at hrun
  obtain ⟨⟨s1,s2⟩,_,_⟩:=x2M h.names h.sound hrun
  have hfr:=v.fresh p x hx hS
  refine s2 β w a ro K Q ops x.i hall (by rw [<- Array.getElem?_toList,hall]; exact ho) (fun t ht=>v.looked h hx ho hS he ht) (v.ext.wr.sub fun i o e=>by rw [y3Y] at e; cases e) hfr fun γ cv w' hv hE=>hK _ _ γ (fun i=>if (st p).n <= i /\ i < (st (p + 1)).n then hget H1 i else G i) c ?_
  have hp:=x7M hx
  have lenle : (st (p + 1)).n <= (st L.length).n:=h.le hp (Nat.le_refl _)
  have zle : (st 0).n <= (st p).n:=h.le (Nat.zero_le p) (Nat.le_of_lt hp)
  have hle:=hE.le hfr
  have noG : ∀ i o,(st p).n <= i /\ i < (st (p + 1)).n -> G i = some o -> False:=fun i o hi hg=>v.ext.wr.lay hg (hfr i hi.1 hi.2)
  have outN : ∀ i, ¬ ((st p).n <= i /\ i < (st (p + 1)).n) -> hget H1 i = none:=fun i hi=>s1.2 i (by omega) (by rw [y3Y])
  have hb:=hE.beside hfr v.ext.wr (fun i o e=>by rw [y3Y] at e; cases e) (K':=fun i=>if (st p).n <= i /\ i < (st (p + 1)).n then hget H1 i else G i) (fun i o e=>by
    by_cases hi : (st p).n <= i /\ i < (st (p + 1)).n
    . simp only [if_pos hi] at e; exact .inl e
    . simp only [if_neg hi] at e; exact .inr ⟨outN i hi,by rw [y3Y],e⟩) (fun i e=>by
    by_cases hi : (st p).n <= i /\ i < (st (p + 1)).n
    . exact (noG i _ hi e).elim
    . simp only [if_neg hi]; exact e)
  have hnew : ∀ (i : Nat),(st p).n <= i /\ i < (st (p + 1)).n -> hget H1 i = hget (st (p + 1)).H i:=fun i hi=>by
    rcases f.heap with ⟨h1,_⟩ | ⟨h1,o',h2,h3⟩
    . omega
    . have : i = (st p).n:=by omega
      subst this
      rw [h3,x0E,if_pos rfl,h2]
  have hSi : ∀ q y,L[q]? = some y -> (S y.i \/ y.i = x.i) -> q ≠ p -> S y.i:=fun q y hy hs hne=>by
    rcases hs with hs | hs
    . exact hs
    . exact absurd (h.run.plan.uniq q p y x hy hx hs) hne
  refine ⟨v.clo' ho he,v.cle,v.cut,fun q y hy hky=> ?_,fun i o e=> ?_,fun i o e=> ?_,fun q y hq hm hs=> ?_,v.tmp' h hx ho (by rw [hval]; exact hv) hle,(x8L a _ _).1.trans v.size,(x8L a _ _).2.trans v.dfr,v.ext.within hb (fun i hi=>by omega) h.free0,fun q y hy hns=> ?_⟩
  . rw [<- v.effs q y hy hky]
    refine ⟨fun hs=>hSi q y hy hs fun e=> ?_, .inl⟩
    subst e
    rw [hx] at hy; cases hy
    rw [hk] at hky; cases hky
  . by_cases hi : (st p).n <= i /\ i < (st (p + 1)).n
    . exact (noG i o hi (v.inG i o e)).elim
    . simp only [if_neg hi]; exact v.inG i o e
  . by_cases hi : (st p).n <= i /\ i < (st (p + 1)).n
    . refine .inr ⟨?_,p,x, ?_, ?_⟩
      . cases hg : hget (st c).H i with
        | none=>rfl
        | some o'=>exact (noG i o' hi (v.inG i o' hg)).elim
      . have hm : v6Z L st p x:=⟨hx,hk,by rcases f.heap with ⟨h1,_⟩ | ⟨h1,_⟩ <;> omega⟩
        rcases Nat.lt_or_ge p c with hl | hl
        . exact absurd (v.made h hm hl) hS
        . exact hl
      . rcases f.heap with ⟨h1,_⟩ | ⟨h1,_⟩
        . omega
        . exact ⟨⟨hx,hk,h1⟩, .inr rfl,by omega⟩
    . simp only [if_neg hi] at e
      rcases v.outG i o e with h1 | ⟨h1,q,y,h2,h3,h4,h5⟩
      . exact .inl h1
      . exact .inr ⟨h1,q,y,h2,h3, .inl h4,h5⟩
  . by_cases hqp : q = p
    . subst hqp
      have:=hm.2.2
      rw [if_pos (by omega)]
      exact hnew _ (by omega)
    . have:=h.apart hx hm.1 hqp (i:=(st q).n) (Nat.le_refl _) (by have:=hm.2.2; omega)
      rw [if_neg (by omega)]
      exact v.newG q y hq hm (hSi q y hm.1 hs hqp)
  . have hqp : q ≠ p:=fun e=>hns (by subst e; rw [hx] at hy; cases hy; exact .inr rfl)
    intro i h1 h2
    rw [hE.same i (h.apart hx hy hqp h1 h2)]
    exact v.fresh q y hy (fun hs=>hns (.inl hs)) i h1 h2
theorem Inv.load (v : Inv P self sz all L st β0 w0 ds S a w β G c) (h : Hyp P self sz all L st β0) {p : Nat} {x : PI} {o : Oper} (hx : L[p]? = some x) (ho : all[x.i]? = some o) (hk : x.kd = .load) (hS : ¬ S x.i) (he : ∀ e ∈ o.after.toList,Region.binds .any e = true -> S e.on)
    {ops : Array Oper} (hall : ops.toList = all) {ro : Option Nat} {Q : Exit -> Act -> World -> Prop} {K : Act -> World -> Prop}
    (hK : ∀ a' w' β' G' c',Inv P self sz all L st β0 w0 ds (fun i=>S i \/ i = x.i) a' w' β' G' c' -> K a' w') : wpOpIn (fen ro) 0 P ops Q x.i K a w:=by
  obtain ⟨u,f,_,hval⟩:=h.run.load hx hk
  obtain ⟨o',ho',hkd,hc⟩:=h.run.plan.item p x hx
  rw [ho] at ho'; cases ho'
  have hp:=x7M hx
  have ahead : ∀ q y,L[q]? = some y -> y.kd = .eff -> q < p -> q < c:=fun q y hy hky hq=>by
    have:=h.run.effs p (Nat.le_of_lt hp) q y hy hky hq
    exact (v.effs q y hy hky).1 (h.run.plan.hang p x o S hx ho v.clo he _ (z5N f.dep this))
  have now : ∃ m H1 n1,x3A self (st p).T (st c).H m x.c = .ok u H1 n1:=by
    rcases Nat.lt_or_ge p c with hl | hl
    . rcases v.cut with rfl | ⟨e,z,rfl,hz,hkz⟩
      . omega
      . have hne : p ≠ e := fun y => by
          subst y
          rw [hz] at hx; cases hx
          rw [hkz] at hk; cases hk
        obtain ⟨uz,fz,_,_⟩:=h.run.eff hz hkz
        have hw:=h.run.loads e (Nat.le_of_lt (x7M hz)) p x hx hk (by omega)
        have hw:=z4R fz.wts hw
        unfold wtOk at hw
        obtain ⟨oz,hoz,_,_⟩:=h.run.plan.item e z hz
        have hSz : S z.i:=(v.effs e z hz hkz).2 (by omega)
        cases hb : tb z.D x.i with
        | true=>exact absurd (h.run.plan.hang e z oz S hz hoz v.clo (v.clo _ _ hoz hSz) _ hb) hS
        | false =>
          simp only [hb,cond_false] at hw
          split at hw
          . rename_i v' H' n' hs
            refine ⟨(st (e + 1)).n,H',n', ?_⟩
            rw [hs, <- u3L hw,hval]
          . cases hw
    . have calm : Calm L c p:=fun q y h1 h2 hy hky=>by have:=ahead q y hy hky h2; omega
      have:=h.run.behind v.cut p hl (Nat.le_of_lt hp) calm
      obtain ⟨H1,n1,hr⟩:=f.run
      rw [this] at hr
      exact ⟨_,H1,n1,hr⟩
  obtain ⟨m,H1,n1,hrun⟩:=now
  rw [hc] at hrun
  obtain ⟨e1,e2⟩:=v3V (by rw [<- hkd]; exact hk) hrun
  subst e1; subst e2
  obtain ⟨⟨s1,s2⟩,_,_⟩:=x2M h.names h.sound hrun
  have hfr : Fresh β n1 n1:=fun i a b=>by omega
  refine s2 β w a ro K Q ops x.i hall (by rw [<- Array.getElem?_toList,hall]; exact ho) (fun t ht=>v.looked h hx ho hS he ht) (v.ext.wr.sub v.inG) hfr fun γ cv w' hv hE=>hK _ _ γ G c ?_
  have hle:=hE.le hfr
  have hb:=hE.beside hfr v.ext.wr v.inG (K':=G) (fun i o e=>by
    cases hg : hget (st c).H i with
    | some o'=>have:=v.inG i o' hg; rw [e] at this; cases this; exact .inl rfl
    | none=>exact .inr ⟨rfl,rfl,e⟩) (fun i e=>e)
  have hSi : ∀ (q : Nat) (y : PI),L[q]? = some y -> (S y.i \/ y.i = x.i) -> y.kd ≠ .load -> S y.i:=fun q y hy hs hne=>by
    rcases hs with hs | hs
    . exact hs
    . have:=h.run.plan.uniq q p y x hy hx hs
      subst this
      rw [hx] at hy; cases hy
      exact absurd hk hne
  refine ⟨v.clo' ho he,v.cle,v.cut,fun q y hy hky=> ?_,v.inG,fun i o e=> ?_,fun q y hq hm hs=> ?_,v.tmp' h hx ho (by rw [hval]; exact hv) hle,(x8L a _ _).1.trans v.size,(x8L a _ _).2.trans v.dfr,v.ext.within hb (fun i hi=>by omega) h.free0,fun q y hy hns=> ?_⟩
  . rw [<- v.effs q y hy hky]
    exact ⟨fun hs=>hSi q y hy hs (by rw [hky]; simp), .inl⟩
  . rcases v.outG i o e with h1 | ⟨h1,q,y,h2,h3,h4,h5⟩
    . exact .inl h1
    . exact .inr ⟨h1,q,y,h2,h3, .inl h4,h5⟩
  . exact v.newG q y hq hm (hSi q y hm.1 hs (by rw [hm.2.1]; simp))
  . intro i h1 h2
    rw [hE.same i (by omega)]
    exact v.fresh q y hy (fun hs=>hns (.inl hs)) i h1 h2
theorem Inv.eff (v : Inv P self sz all L st β0 w0 ds S a w β G c) (h : Hyp P self sz all L st β0) {p : Nat} {x : PI} {o : Oper} (hx : L[p]? = some x) (ho : all[x.i]? = some o) (hk : x.kd = .eff) (hS : ¬ S x.i) (he : ∀ e ∈ o.after.toList,Region.binds .any e = true -> S e.on)
    {ops : Array Oper} (hall : ops.toList = all) {ro : Option Nat} {Q : Exit -> Act -> World -> Prop} {K : Act -> World -> Prop}
    (hK : ∀ a' w' β' G' c',Inv P self sz all L st β0 w0 ds (fun i=>S i \/ i = x.i) a' w' β' G' c' -> K a' w') : wpOpIn (fen ro) 0 P ops Q x.i K a w:=by
  obtain ⟨u,f,_,hval⟩:=h.run.eff hx hk
  obtain ⟨o',ho',hkd,hc⟩:=h.run.plan.item p x hx
  rw [ho] at ho'; cases ho'
  have hp:=x7M hx
  have hpc : c <= p:=by
    rcases Nat.lt_or_ge p c with hl | hl
    . exact absurd ((v.effs p x hx hk).2 hl) hS
    . exact hl
  have ahead : ∀ q y,L[q]? = some y -> y.kd = .eff -> q < p -> S y.i:=fun q y hy hky hq =>
    h.run.plan.hang p x o S hx ho v.clo he _ (z5N f.dep (h.run.effs p (Nat.le_of_lt hp) q y hy hky hq))
  have calm : Calm L c p:=fun q y h1 h2 hy hky=>by have:=(v.effs q y hy hky).1 (ahead q y hy hky h2); omega
  have made : ∀ q y,v6Z L st q y -> q < p -> S y.i:=fun q y hm hq =>
    h.run.plan.hang p x o S hx ho v.clo he _ (z5N f.depA (h.run.makers p (Nat.le_of_lt hp) q y hm.1 hm.2.1 hm.2.2 hq))
  have subH : ∀ i o,hget (st p).H i = some o -> G i = some o:=fun i o e=>by
    rcases h.run.grown p hpc (Nat.le_of_lt hp) calm i o e with h1 | ⟨q,y,h1,h2,h3,h4,h5,rfl,h7⟩
    . exact v.inG i o h1
    . rw [v.newG q y h1 ⟨h3,h4,h5⟩ (made q y ⟨h3,h4,h5⟩ h2)]; exact h7
  have grow : ∀ i o,hget (st c).H i = some o -> hget (st p).H i = some o:=h.run.grow h.names h.sound h.none0 p hpc (Nat.le_of_lt hp) calm
  have hrun:=f.run
  rw [hc] at hrun
  obtain ⟨⟨s1,s2⟩,_,_⟩:=x2M h.names h.sound hrun
  have hfr:=v.fresh p x hx hS
  refine s2 β w a ro K Q ops x.i hall (by rw [<- Array.getElem?_toList,hall]; exact ho) (fun t ht=>v.looked h hx ho hS he ht) (v.ext.wr.sub subH) hfr fun γ cv w' hv hE=>hK _ _ γ (fun i=>match hget (st (p + 1)).H i with | some o=>some o | none=>match hget (st p).H i with | some _=>none | none=>G i) (p + 1) ?_
  have lenle : (st (p + 1)).n <= (st L.length).n:=h.le hp (Nat.le_refl _)
  have zle : (st 0).n <= (st p).n:=h.le (Nat.zero_le p) (Nat.le_of_lt hp)
  have hle:=hE.le hfr
  have hb:=hE.beside hfr v.ext.wr subH (K':=fun i=>match hget (st (p + 1)).H i with | some o=>some o | none=>match hget (st p).H i with | some _=>none | none=>G i) (fun i o e=>by
    cases h1 : hget (st (p + 1)).H i with
    | some o'=>simp only [h1] at e; exact .inl e
    | none =>
      cases h2 : hget (st p).H i with
      | some o'=>simp only [h1,h2] at e; cases e
      | none=>simp only [h1,h2] at e; exact .inr ⟨rfl,rfl,e⟩) (fun i e=>by
    cases h2 : hget (st p).H i with
    | some o' =>
      have:=subH i o' h2
      rw [e] at this; cases this
      rw [hE.keep i h2]
    | none =>
      cases h1 : hget (st (p + 1)).H i with
      | none=>exact e
      | some o' =>
        by_cases hi : (st p).n <= i /\ i < (st (p + 1)).n
        . exact absurd (hfr i hi.1 hi.2) (v.ext.wr.lay e)
        . rw [s1.2 i (by omega) h2] at h1; cases h1)
  have hSi : ∀ q y,L[q]? = some y -> (S y.i \/ y.i = x.i) -> q ≠ p -> S y.i:=fun q y hy hs hne=>by
    rcases hs with hs | hs
    . exact hs
    . exact absurd (h.run.plan.uniq q p y x hy hx hs) hne
  refine ⟨v.clo' ho he,hp, .inr ⟨p,x,rfl,hx,hk⟩,fun q y hy hky=>⟨fun hs=> ?_,fun hq=> ?_⟩,fun i o e=> ?_,fun i o e=> ?_,fun q y hq hm hs=> ?_,v.tmp' h hx ho (by rw [hval]; exact hv) hle,(x8L a _ _).1.trans v.size,(x8L a _ _).2.trans v.dfr,v.ext.within hb (fun i hi=>by omega) h.free0,fun q y hy hns=> ?_⟩
  . by_cases e : q = p
    . omega
    . have:=(v.effs q y hy hky).1 (hSi q y hy hs e); omega
  . by_cases e : q = p
    . subst e; rw [hx] at hy; cases hy; exact .inr rfl
    . exact .inl (ahead q y hy hky (by omega))
  . simp only [e]
  . cases h1 : hget (st (p + 1)).H i with
    | some o'=>simp only [h1] at e; exact .inl e
    | none =>
      cases h2 : hget (st p).H i with
      | some o'=>simp only [h1,h2] at e; cases e
      | none =>
        simp only [h1,h2] at e
        refine .inr ⟨rfl, ?_⟩
        rcases v.outG i o e with g1 | ⟨g1,q,y,g2,g3,g4,g5⟩
        . rw [grow i o g1] at h2; cases h2
        . refine ⟨q,y, ?_,g3, .inl g4,g5⟩
          rcases Nat.lt_trichotomy q p with hl | hl | hl
          . have e':=v.newG q y g2 g3 g4
            rw [<- g5,e] at e'
            have cq : Calm L (q + 1) p:=fun r z r1 r2=>calm r z (by omega) r2
            have:=h.run.grow h.names h.sound h.none0 p (show q + 1 <= p from hl) (Nat.le_of_lt hp) cq i o e'.symm
            rw [h2] at this; cases this
          . subst hl
            obtain ⟨m1,m2,_⟩:=g3
            rw [hx] at m1; cases m1
            rw [hk] at m2; cases m2
          . omega
  . have hql:=x7M hm.1
    have hqp : q ≠ p:=by omega
    have l1:=h.le (show p + 1 <= q by omega) (Nat.le_of_lt hql)
    have l2:=h.le (show q + 1 <= L.length by omega) (Nat.le_refl _)
    have l3:=hm.2.2
    have z1 : hget (st (p + 1)).H (st q).n = none:=h.none hp l1 (by omega)
    have z2 : hget (st p).H (st q).n = none:=h.none (Nat.le_of_lt hp) (by have:=s1.1; omega) (by omega)
    simp only [z1,z2]
    exact v.newG q y (by omega) hm (hSi q y hm.1 hs hqp)
  . have hqp : q ≠ p:=fun e=>hns (by subst e; rw [hx] at hy; cases hy; exact .inr rfl)
    intro i h1 h2
    rw [hE.same i (h.apart hx hy hqp h1 h2)]
    exact v.fresh q y hy (fun hs=>hns (.inl hs)) i h1 h2
end
end
end
end Go.Xec
namespace Go.Xec
open Go
variable [GT]
section
variable {P : Program} {self : Task -> Hp -> Nat -> R} {sz : Nat} {all : List Oper} {L : List PI} {st : Nat -> DS} {β0 : Bm} {w0 : World} {ds : List Deferred}
def x7P (listed : Array Bool) (i : Nat) : Prop:=listed[i]? = some true
theorem u7P {listed : Array Bool} {i : Nat} (hi : i < listed.size) : x7P (listed.setIfInBounds i true) = fun j=>x7P listed j \/ j = i:=by
  funext j
  apply propext
  unfold x7P
  rw [Array.getElem?_setIfInBounds]
  by_cases e : i = j
  . subst e; simp [hi]
  . rw [if_neg e]
    exact ⟨.inl,fun h=>h.elim id fun h=>absurd h.symm e⟩
theorem x7D {listed : Array Bool} {i : Nat} (d : Bool) (hi : i < listed.size) : listed.getD i d = true ↔ x7P listed i:=by
  unfold x7P
  simp [Array.getD,hi]
theorem u6S (pl : Plan P sz all L) {ops : Array Oper} (hall : ops.toList = all) {listed : Array Bool} (hs : listed.size = ops.size) (hr : Region.ready .any ops listed = []) : ∀ (p : Nat) (x : PI),L[p]? = some x -> x7P listed x.i:=by
  intro p
  induction p using Nat.strongRecOn with
  | _ p ih =>
    intro x hx
    obtain ⟨o,ho,_,_⟩:=pl.item p x hx
    have hi : x.i < listed.size:=by
      rw [hs, <- Array.length_toList (xs:=ops),hall]; exact (List.getElem?_eq_some_iff.1 ho).1
    apply Classical.byContradiction
    intro hn
    have : x.i ∈ Region.ready .any ops listed:=by
      refine mem_ready.2 ⟨?_,o,by rw [<- Array.getElem?_toList,hall]; exact ho,fun e he hb=> ?_⟩
      . cases hd : listed.getD x.i true with
        | false=>rfl
        | true=>exact absurd ((x7D true hi).1 hd) hn
      . obtain ⟨q,y,h1,h2,h3⟩:=pl.ahead p x _ hx (pl.edge p x o e hx ho (by simpa using he) hb)
        have:=ih q h1 y h2
        rw [h3] at this
        have hlt : e.on < listed.size:=(Array.getElem?_eq_some_iff.1 this).1
        exact (x7D false hlt).2 this
    rw [hr] at this; cases this
theorem Inv.done {a : Act} {w : World} {β : Bm} {G : Gp} {c : Nat} {S : Nat -> Prop} (v : Inv P self sz all L st β0 w0 ds S a w β G c) (h : Hyp P self sz all L st β0) (hS : ∀ (p : Nat) (x : PI),L[p]? = some x -> S x.i) :
    Ext P β0 (hget (st 0).H) (st 0).n w0 β (hget (st L.length).H) (st L.length).n w /\ TR β (st L.length).T a.tmps /\ a.tmps.size = sz /\ a.defers = ds:=by
  have calm : Calm L c L.length:=fun q y h1 h2 hy hk=>by have:=(v.effs q y hy hk).1 (hS q y hy); omega
  have e : G = hget (st L.length).H:=by
    funext i
    cases hg : hget (st L.length).H i with
    | some o =>
      rcases h.run.grown _ v.cle (Nat.le_refl _) calm i o hg with h1 | ⟨q,y,h1,h2,h3,h4,h5,rfl,h7⟩
      . exact v.inG i o h1
      . rw [v.newG q y h1 ⟨h3,h4,h5⟩ (hS q y h3)]; exact h7
    | none =>
      cases hG : G i with
      | none=>rfl
      | some o =>
        rcases v.outG i o hG with h1 | ⟨_,q,y,h1,h2,h3,h4⟩
        . rw [h.run.grow h.names h.sound h.none0 _ v.cle (Nat.le_refl _) calm i o h1] at hg; cases hg
        . have e':=v.newG q y h1 h2 h3
          rw [<- h4,hG] at e'
          have cq : Calm L (q + 1) L.length:=fun r z r1 r2=>calm r z (by omega) r2
          rw [h.run.grow h.names h.sound h.none0 _ (x7M h2.1) (Nat.le_refl _) cq i o e'.symm] at hg; cases hg
  refine ⟨e ▸ v.ext,fun t=>v.tmp t _ ?_,v.size,v.dfr⟩
  rcases h.run.tmp h.names h.sound t L.length (Nat.le_refl _) with ⟨q,y,_,h2,h3⟩ | ⟨h1,h2⟩
  . exact .inl ⟨q,y,h2,hS _ _ h2.1,h3⟩
  . exact .inr ⟨fun q y hw=>absurd hw (h1 q y (x7M hw.1)),h2⟩
theorem u5Y (h : Hyp P self sz all L st β0) {ops : Array Oper} (hall : ops.toList = all) {ro : Option Nat} {Q : Exit -> Act -> World -> Prop}
    (hQ : ∀ a w β, Ext P β0 (hget (st 0).H) (st 0).n w0 β (hget (st L.length).H) (st L.length).n w -> TR β (st L.length).T a.tmps -> a.tmps.size = sz -> a.defers = ds -> Q .normal a w) :
    ∀ (fuel : Nat) (listed : Array Bool) (a : Act) (w : World) (β : Bm) (G : Gp) (c : Nat),listed.size = ops.size -> listed.toList.count false <= fuel -> Inv P self sz all L st β0 w0 ds (x7P listed) a w β G c -> wpAnyIn (fen ro) 0 P .any ops Q fuel listed a w
  | 0,listed,a,w, β, G,c,hs,hc,hv=>by
    have hr : Region.ready .any ops listed = []:=by
      cases hl : Region.ready .any ops listed with
      | nil=>rfl
      | cons i r =>
        have : i ∈ Region.ready .any ops listed:=by rw [hl]; simp
        obtain ⟨h1,o,h2,_⟩:=mem_ready.1 this
        have hlt : i < listed.size:=by rw [hs]; exact (Array.getElem?_eq_some_iff.1 h2).1
        have hm : false ∈ listed.toList:=by
          have : listed[i] = false:=by simpa [Array.getD,hlt] using h1
          rw [<- this]; simp
        have:=List.count_pos_iff.2 hm
        omega
    refine ⟨hr, ?_⟩
    obtain ⟨e1,e2,e3,e4⟩:=hv.done h (u6S h.run.plan hall hs hr)
    exact hQ a w β e1 e2 e3 e4
  | fuel + 1,listed,a,w, β, G,c,hs,hc,hv=>by
    refine ⟨fun hr=> ?_,fun i hi=> ?_⟩
    . obtain ⟨e1,e2,e3,e4⟩:=hv.done h (u6S h.run.plan hall hs hr)
      exact hQ a w β e1 e2 e3 e4
    . obtain ⟨h1,o,h2,h3⟩:=mem_ready.1 hi
      have ho : all[i]? = some o:=by rw [<- hall,Array.getElem?_toList]; exact h2
      have hlt : i < listed.size:=by rw [hs]; exact (Array.getElem?_eq_some_iff.1 h2).1
      obtain ⟨p,x,hx,rfl⟩:=h.run.plan.full i o ho
      have hS : ¬ x7P listed x.i:=fun hl=>by rw [(x7D true hlt).2 hl] at h1; cases h1
      have he : ∀ e ∈ o.after.toList,Region.binds .any e = true -> x7P listed e.on:=fun e hm hb=>by
        have:=h3 e (by simpa using hm) hb
        by_cases hlt' : e.on < listed.size
        . exact (x7D false hlt').1 this
        . simp [Array.getD,hlt'] at this
      have hK : ∀ a' w' β' G' c',Inv P self sz all L st β0 w0 ds (fun i=>x7P listed i \/ i = x.i) a' w' β' G' c' -> wpAnyIn (fen ro) 0 P .any ops Q fuel (listed.setIfInBounds x.i true) a' w':=fun a' w' β' G' c' hv'=>by
        refine u5Y h hall hQ fuel _ a' w' β' G' c' (by simpa using hs) ?_ (by rw [u7P hlt]; exact hv')
        have e0 : listed.toList[x.i]'(by simpa using hlt) = false:=by simpa [Array.getD,hlt] using h1
        rw [Array.toList_setIfInBounds,List.count_set (by simpa using hlt),e0]
        have b1 : ((false == false : Bool)) = true:=rfl
        have b2 : ((true == false : Bool)) = false:=rfl
        rw [b1,b2,if_pos rfl,if_neg (by simp)]
        omega
      cases hk : x.kd with
      | free=>exact hv.free h hx ho hk hS he hall hK
      | load=>exact hv.load h hx ho hk hS he hall hK
      | eff=>exact hv.eff h hx ho hk hS he hall hK
theorem v0A (hm : P.follows .mixedOrders = true) (hN : x2Y P) (hself : ∀ t H n,x6D P t H n (self t H n)) {rd : Option Nat} {sz id : Nat} {ops : Array Oper} {T T' : Tm} {H H' : Hp} {n n' : Nat} {ex : Ex}
    (h : z9S self T H n (y0E P sz ops.toList) = .ok ex T' H' n') : CodeS P rd sz (.region id ops true) T H n ex T' H' n':=by
  cases hp : y0E P sz ops.toList with
  | none=>rw [hp] at h; cases h
  | some L =>
    rw [hp] at h
    have h : drawL self L ⟨T,H,n,H, 0, 0,[]⟩ = .ok ex T' H' n':=h
    obtain ⟨st,h0,h1,rfl,rfl,rfl,rfl⟩:=z8C L _ _ _ _ _ h
    have d : DRun P self sz ops.toList L st:=⟨y9E hp,h1,by rw [h0],by rw [h0],by rw [h0]⟩
    have e1 : (st 0).H = H:=by rw [h0]
    have e2 : (st 0).n = n:=by rw [h0]
    have e3 : (st 0).T = T:=by rw [h0]
    have hno:=d.mono hN hself (Nat.zero_le L.length) (Nat.le_refl _)
    rw [e1,e2] at hno
    refine CodeS.mk' (by simp) hno fun β w a ro lo Q hT hz hW hf hr hM hQ=> ?_
    refine wpIn_region_any hm ?_
    have hW' : WR P β (hget H) { w with drawn:=w.drawn + 1 } :=hW.congr rfl
    have hy : Hyp P self sz ops.toList L st β :=⟨d,hN,hself,fun i a b=>by
      cases hg : hget (st 0).H i with
      | none=>rfl
      | some o=>rw [e1] at hg; rw [e2] at a; exact absurd (hf i a b) (hW.lay hg),by rw [e2]; exact hf⟩
    refine u5Y (w0:= { w with drawn:=w.drawn + 1 }) (ds:=a.defers) hy rfl (fun a' w' γ x1 x2 x3 x4=> ?_) ops.size _ a _ β (hget H) 0 (by simp) (Nat.le_trans List.count_le_length (by simp)) ?_
    . rw [e1,e2] at x1
      exact hQ γ a' w' ⟨x1.congr0 rfl rfl rfl rfl,x2,x3,by rw [x4]; exact hM.ext (x1.congr0 rfl rfl rfl rfl) hf hno.1⟩
    . have nl : ∀ i, ¬ x7P (Array.replicate ops.size false) i := fun i hl => by
        unfold x7P at hl
        rw [Array.getElem?_replicate] at hl
        split at hl <;> simp at hl
      refine ⟨fun i o _ hl=>absurd hl (nl i),Nat.zero_le _, .inl rfl,fun q y _ _=>⟨fun hl=>absurd hl (nl _),fun hl=>by omega⟩,fun i o e=>by rw [e1] at e; exact e,fun i o e=>by rw [e1]; exact .inl e,fun q y _ _ hl=>absurd hl (nl _),fun t v hv=> ?_,hz,rfl, ?_,fun q y hy' _=> ?_⟩
      . rcases hv with ⟨q,y,_,hl,_⟩ | ⟨_,rfl⟩
        . exact absurd hl (nl _)
        . rw [e3]; exact hT t
      . rw [e1]; exact { Ext.refl (n:=(st 0).n) hW' with same:=fun _ _=>rfl }
      . have hql:=x7M hy'
        have l1:=hy.le (Nat.zero_le q) (Nat.le_of_lt hql)
        have l2:=hy.le (show q + 1 <= L.length from hql) (Nat.le_refl _)
        intro i a b
        exact hf i (by omega) (by omega)
end
end Go.Xec
namespace Go.Xec
open Go
variable [GT]
section
variable {P : Program} {self : Task -> Hp -> Nat -> R}
theorem v0N (hm : P.follows .mixedOrders = true) (hN : x2Y P) (hself : ∀ t H n,x6D P t H n (self t H n)) {rd : Option Nat} {fn : FuncId} {sz : Nat} {c : Code} {T T' : Tm} {H H' : Hp} {n n' : Nat} {ex : Ex}
    (h : y4B P self rd fn sz T H n c = .ok ex T' H' n') : CodeS P rd sz c T H n ex T' H' n':=by
  cases c with
  | skip=>cases h; exact CodeS.stay (by simp) fun ro Q a w hq=>wpIn_skip hq
  | label l=>cases h; exact CodeS.stay (by simp) fun ro Q a w hq=>wpIn_label hq
  | exit id=>cases h; exact CodeS.stay (by simp) fun ro Q a w hq=>wpIn_exit hq
  | ret=>cases h; exact CodeS.stay (by simp) fun ro Q a w hq=>wpIn_ret hq
  | seq x y =>
    obtain ⟨h1,m,h2⟩:=z5Q hself (show seqK self rd fn sz y (self (.code rd fn sz x T) H n) = .ok ex T' H' n' from h)
    exact CodeS.mk' (by simp) h1 fun β w a ro lo Q x1 x2 x3 x4 x5 x6 x7=>wpIn_seq (wpIn_mono (h2 β w a ro lo Q x1 x2 x3 x4 x5 x6 x7) fun e a' w' hh=>by
      cases e <;> first | exact WpX.wp hh | exact hh)
  | cond c x y =>
    obtain ⟨h1,h2⟩:=y0P (show cond (okX c) (v6E self rd fn sz x y T H n (ev T c)) .bad = .ok ex T' H' n' from h)
    exact v0J hself h1 h2
  | block id b=>exact u2Q hself h
  | loop b =>
    obtain ⟨h1,m,h2⟩:=z5Q hself (show seqK self rd fn sz (.loop b) (self (.code rd fn sz b T) H n) = .ok ex T' H' n' from h)
    exact ⟨h1,m + 1,fun β w a ro lo Q x1 x2 x3 x4 x5 x6 x7=>h2 β w a ro lo Q x1 x2 x3 x4 x5 x6 x7⟩
  | region id ops b =>
    cases b with
    | true=>exact v0A hm hN hself h
    | false =>
      have h : y4X P self sz ops.toList ops.toList T H n = .ok ex T' H' n':=h
      obtain ⟨rfl,h2,h3⟩:=y2D hN hself (ops:=ops) rfl ops.toList [] T H n ex T' H' n' rfl h
      refine CodeS.mk' (by simp) h2 fun β w a ro lo Q x1 x2 x3 x4 x5 x6 x7=>wpIn_region ?_
      have:=h3 β w a ro lo Q x1 x2 x3 x4 x6 x7
      rw [List.range_eq_range']
      simpa using this
  | rangeFunc f ps assign body=>exact z9X hN hself h
  | _=>cases h
theorem u7E {hk : Hook} (hhk : HookOk P hk) (hm : P.follows .mixedOrders = true) (hN : x2Y P) (hself : ∀ t H n,x6D P t H n (self t H n)) (t : Task) (H : Hp) (n : Nat) : x6D P t H n (step P hk self t H n):=by
  cases hr : step P hk self t H n with
  | bad=>cases t <;> trivial
  | ok ex T' H' n' =>
    cases t with
    | code rd fn sz c T=>exact v0N hm hN hself hr
    | call f args=>exact v0P hhk hself hr
    | yield l args=>exact z9F hself hr
theorem y0A {hk : Hook} (hhk : HookOk P hk) (hm : P.follows .mixedOrders = true) (hN : x2Y P) : ∀ (k : Nat) (t : Task) (H : Hp) (n : Nat),x6D P t H n (run P hk k t H n)
  | 0,t,H,n=>by cases t <;> trivial
  | k + 1,t,H,n=>u7E hhk hm hN (y0A hhk hm hN k) t H n
def namesB (P : Program) : Bool:=P.funcs.all fun fn=> !(fn.name == "runtime.NumGoroutine")
theorem y5M (h : namesB P = true) : x2Y P:=fun f fn hf=>by
  have:=Array.all_eq_true_iff_forall_mem.1 h fn (Array.mem_of_getElem? hf)
  simpa using this
noncomputable def endsWith (P : Program) (k : Nat) (f : FuncId) (v : Value) : Bool:=match run P v3K k (.call f []) .leaf 0 with
  | .ok _ T _ _=>cond (plain v) (veq (tget T 0) v) false
  | .bad=>false
theorem closed_run (hm : P.follows .mixedOrders = true) (hN : namesB P = true) {k : Nat} {f : FuncId} {v : Value} (h : endsWith P k f v = true) (w : World) (hgl : Glob w) :
    Calls P f #[] w fun e w'=>e = .returned v /\ (∀ b,b < w.heap.size -> w'.heap[b]? = w.heap[b]?) /\ w.heap.size <= w'.heap.size /\ w'.os = w.os /\ w'.output = w.output /\ w'.tape = w.tape:=by
  unfold endsWith at h
  split at h
  . rename_i ex T' H' n' hr
    obtain ⟨h1,h2⟩:=x0D h
    have hs:=y0A z6N hm (y5M hN) k (.call f []) .leaf 0
    rw [hr] at hs
    have hs : v1C P f [] .leaf 0 (tget T' 0) H' n':=hs
    have no : ∀ i o,hget .leaf i = some o -> False:=fun i o e=>by
      rw [y0J] at e
      cases e
    have hW : WR P (fun _=>none) (hget .leaf) w:=⟨fun i o e=>(no i o e).elim,fun i j b c o p e=>(no i o e).elim,hgl,fun g cs hg i o c e=>(no i o e).elim⟩
    have:=hs.2.2 (fun _=>none) w [] .nil hW (fun _ _ _=>rfl)
    refine Calls.mono (callsIn_wide.1 this) ?_
    rintro e w' ⟨c, γ, rfl,hv,hE⟩
    refine ⟨?_,fun b hb=>hE.frame b hb fun i o c e=>(no i o e).elim,hE.size,hE.os,hE.out,hE.tape⟩
    rw [u3L h2] at hv
    rw [y3R h1 hv]
  . cases h
end
end Go.Xec
