/-
  THE PURE EXECUTOR: the two ways of a chain of guards.; THE PURE EXECUTOR: a region in the order of its text is sound.
-/
import Derived.Test.YtadehgdfijjikaaGreatDoorY10
set_option linter.all false
namespace Go.Yec
open Go Go.Xec
variable [GT]
section
variable {D : Type} {V : D -> List (PV D)} {μ : Mu} {H : Hp} {P : Program} {hk : Hook} {o : Oper} {T : Tm} {X : Nat -> Prop} {n m : Nat} {st : Y D} {dn : Dn} {C : Ch} {B : Bt D} {R : Type} {all : List Oper} {sz : Nat}
def TEq (T T' : Tt D) : Prop:= ∀ t,pget T' t = pget T t
theorem y6F {T T' : Tt D} (e : TEq T T') (C : Ch) : gOf T' C = gOf T C:=y0K fun p _=>e p.1
theorem u6E {T T' : Tt D} (e : TEq T T') : ∀ C : Ch,chOk T' C = chOk T C
  | []=>rfl
  | p :: C=>by rw [y0S,y0S,u6E e C,e p.1]
theorem RegI.teq {T T' : Tt D} (h : RegI T dn) (e : TEq T T') : RegI T' dn where
  opt t C g v hp:=by
    rw [e t] at hp
    obtain ⟨h1,h2,h3⟩:=h.opt t C g v hp
    exact ⟨h1,by rw [h2,y6F e],h3⟩
  has C t hm hne:=by rw [e t]; exact h.has C t hm hne
  cl:=h.cl
theorem Pre.teq (hp : Pre P V X all o C dn sz μ st T H n) {T' : Tt D} (e : TEq st.T T') : Pre P V X all o C dn sz μ ⟨T',st.B,st.m⟩ T H n where
  sr:=⟨hp.sr.hr,fun t=>by show Rep V μ H _ (pget T' t) _; rw [e t]; exact hp.sr.tr t⟩
  reg:=hp.reg.teq e
  fit:=hp.fit
  ok:=by rw [u6E e]; exact hp.ok
  gd:=hp.gd
  dst:=hp.dst
  new:=hp.new
theorem z6T {T0 T : Tt D} (hI : RegI T0 dn) (e : TEq T0 T) {t : Nat} {b : Bool} (hg : gOf T0 C = true) (hb : y5Y (x3E C (pget T0 t)) = true) (hv : x7N (x3E C (pget T t)) = b) : TEq T0 (y8P T t b):=fun u=>by
  rw [<- e t] at hb
  unfold y8P
  split
  . rename_i C' g v hp
    rw [x3G]
    split
    . rename_i hu; subst hu
      rw [hp] at hb hv
      have hs : x3E C (.opt C' g v) = cond (sufB C' C) v .undef:=rfl
      rw [hs] at hb hv
      cases hsb : sufB C' C with
      | false=>rw [hsb] at hb; cases hb
      | true =>
        rw [hsb] at hb hv
        simp only [cond_true] at hb hv
        have h1:=(hI.opt u C' g v (by rw [<- e u]; exact hp)).2.1
        rw [z9K hsb hg] at h1
        rw [<- e u,hp,h1]
        unfold y5Y at hb
        split at hb
        . cases hv; rfl
        . cases hb
    . exact e u
  . rename_i hp
    rw [x3G]
    split
    . rename_i hu; subst hu
      have hs : x3E C (pget T u) = pget T u:=by
        unfold x3E
        split
        . rename_i C' g v hq; exact absurd hq (hp C' g v)
        . rfl
      rw [hs] at hb hv
      rw [<- e u]
      unfold y5Y at hb
      split at hb
      . rename_i b' hq; rw [hq] at hv |-; cases hv; rfl
      . cases hb
    . exact e u
theorem z1V {T0 : Tt D} (hI : RegI T0 dn) {r : R} : ∀ {C : Ch} {T : Tt D} {kt kf : Tt D -> Option R}, TEq T0 T -> chOk T0 C = true -> u3V C T kt kf = some r -> (∃ T',TEq T0 T' /\ gOf T0 C = true /\ kt T' = some r) \/ (∃ T',TEq T0 T' /\ gOf T0 C = false /\ kf T' = some r)
  | [],T,kt,kf,e,_,h=> .inl ⟨T,e,rfl,h⟩
  | p :: C,T,kt,kf,e,hok,h=>by
    rw [y0S] at hok
    obtain ⟨o1,o2⟩:=x0D hok
    have h : u3V C T (fun T=>cond (x7N (x3E C (pget T p.1))) (cond p.2 (kt (y8P T p.1 true)) (kf (y8P T p.1 true))) (cond p.2 (kf (y8P T p.1 false)) (kt (y8P T p.1 false)))) kf = some r:=h
    rw [x8V]
    rcases z1V hI e o2 h with ⟨T',e',hg,h'⟩ | ⟨T',e',hg,h'⟩
    . rw [hg,cond_true]
      have hl : lit T0 C p = cond p.2 (x7N (x3E C (pget T' p.1))) (!(x7N (x3E C (pget T' p.1)))):=by unfold lit; rw [e' p.1]
      rw [hl]
      cases hb : x7N (x3E C (pget T' p.1)) with
      | true =>
        rw [hb,cond_true] at h'
        have ht:=z6T hI e' hg o1 hb
        cases hp : p.2 with
        | true=>rw [hp,cond_true] at h'; exact .inl ⟨_,ht,rfl,h'⟩
        | false=>rw [hp,cond_false] at h'; exact .inr ⟨_,ht,rfl,h'⟩
      | false =>
        rw [hb,cond_false] at h'
        have ht:=z6T hI e' hg o1 hb
        cases hp : p.2 with
        | true=>rw [hp,cond_true] at h'; exact .inr ⟨_,ht,rfl,h'⟩
        | false=>rw [hp,cond_false] at h'; exact .inl ⟨_,ht,rfl,h'⟩
    . rw [hg,cond_false]; exact .inr ⟨T',e',rfl,h'⟩
theorem u5V {M : Nat -> Prop} {v : PV D} {x : Value} (h : Rep V μ H M v x) : Rep V μ H M (dst1 C v) x:=by
  unfold dst1
  split
  . exact h.noOpt
  . exact .opt1 _ _ _ h.noOpt
theorem u5W {v : PV D} {C' : Ch} {g : Bool} {w : PV D} (h : dst1 C v = .opt C' g w) : C' = C /\ g = true /\ C ≠ []:=by
  unfold dst1 at h
  split at h
  . exact absurd h (x6J _ _ _ _)
  . rename_i hne; cases h; exact ⟨rfl,rfl,fun e=>hne e⟩
theorem u5X {v : PV D} (h : C ≠ []) : ∃ g w,dst1 C v = .opt C g w:=by
  unfold dst1
  split
  . exact absurd rfl h
  . exact ⟨_,_,rfl⟩
end
end Go.Yec
namespace Go.Yec
open Go Go.Xec
variable [GT]
section
variable {D : Type} {V : D -> List (PV D)} {μ : Mu} {H : Hp} {P : Program} {hk : Hook} {o : Oper} {T : Tm} {X : Nat -> Prop} {n m : Nat} {st : Y D} {dn : Dn} {C : Ch} {B : Bt D} {R : Type} {all : List Oper} {sz : Nat} {tbl : Tbl D}
theorem z1X {y : YOp} (hp : Pre P V X all o C dn sz μ st T H n) {K : Y D -> Option R} {r : R} (h : skipG st ⟨C,o.dst,y⟩ K = some r) : ∃ st',y0W P hk V X all sz o C dn μ st T H n st' /\ K st' = some r:=by
  unfold skipG at h
  cases C with
  | nil=>cases h
  | cons p C =>
    have h : cond (gOf st.T (p :: C)) none (K (setD st ⟨p :: C,o.dst,y⟩ .undef)) = some r:=h
    cases hg : gOf st.T (p :: C) with
    | true=>rw [hg] at h; cases h
    | false =>
      rw [hg,cond_false] at h
      exact ⟨_,x8J hp (fun hg'=>by rw [hg] at hg'; cases hg'),h⟩
theorem u5N {args : Array Operand} {f : FuncId} {ys : List Yd} (hp : Pre P V X all o C dn sz μ st T H n) (hy : ydL args.toList = some ys) (hK : x5J P o = .call (.func f) args.toList) {tc : List Nat} {v : PV D} {B' : Bt D} {m' : Nat} (hF : FunS P hk V f (ys.map (opd st.T C)) st.B st.m tc v B' m') (hg : gOf st.T C = true) :
    ∃ w H' n' μ',(∃ k0, ∀ k,k0 <= k -> y3D (run P hk k) T H n (x5J P o) = .ok w H' n') /\ Gr μ st.B st.m H n μ' B' m' H' n' /\ HR V X μ' B' m' H' n' /\ Rep V μ' H' (MX X μ' B') v w /\ ∀ i s b x len,bget st.B i = some (s,b) -> inN i tc = false -> μ i = some (some x,len) -> hget H' x = hget H x:=by
  have hargs:=y4F (x2J hp.sr hp.reg hg) hy
  obtain ⟨xv,H',n', μ',⟨k0,h1⟩,h2,h3,h4,h5⟩:=hF X μ H n _ hp.sr.hr hargs
  refine ⟨xv,H',n', μ',⟨k0,fun k hk'=> ?_⟩,h3,h2,h4,h5⟩
  rw [hK]
  show y2L (run P hk k (.call f ([] ++ args.toList.map (ev T) ++ [])) H n) = _
  rw [List.nil_append,List.append_nil,h1 k hk']
  rfl
theorem y6G {args : Array Operand} {f : FuncId} {ys : List Yd} (hp : Pre P V X all o C dn sz μ st T H n) (hy : ydL args.toList = some ys) (hK : x5J P o = .call (.func f) args.toList) {tc : List Nat} {v : PV D} {B' : Bt D} {m' : Nat} (hF : FunS P hk V f (ys.map (opd st.T C)) st.B st.m tc v B' m') (hg : gOf st.T C = true) :
    ∃ w H' n' μ',(∃ k0, ∀ k,k0 <= k -> y3D (run P hk k) T H n (x5J P o) = .ok w H' n') /\ Gr μ st.B st.m H n μ' B' m' H' n' /\ HR V X μ' B' m' H' n' /\ Rep V μ' H' (MX X μ' B') v w :=
  let ⟨w,H',n', μ',h1,h2,h3,h4,_⟩:=u5N hp hy hK hF hg
  ⟨w,H',n', μ',h1,h2,h3,h4⟩
theorem v2V {X' : Type} {x : Option X'} {d a : X'} (h : optG st C x d = some a) (hg : gOf st.T C = true) : x = some a:=by
  unfold optG at h
  split at h
  . exact h
  . rw [hg] at h; exact h
def InlConc (P : Program) (hk : Hook) (V : D -> List (PV D)) (f : FuncId) (args : List (PV D)) (B : Bt D) (m : Nat) (tc : List Nat) {R : Type} (K : PV D -> Bt D -> Nat -> Option R) (r : R) : Prop :=
  ∀ (X : Nat -> Prop) (μ : Mu) (H : Hp) (n : Nat) (xs : List Value),HR V X μ B m H n -> RepL V μ H (MX X μ B) args xs ->
    ∃ v B' m' xv H' n' μ',(∃ k0, ∀ k,k0 <= k -> run' P hk k f xs H n xv H' n') /\ HR V X μ' B' m' H' n' /\ Gr μ B m H n μ' B' m' H' n' /\ Rep V μ' H' (MX X μ' B') v xv /\
      (∀ i s b x len,bget B i = some (s,b) -> inN i tc = false -> μ i = some (some x,len) -> hget H' x = hget H x) /\ (∀ i s b,bget B i = some (s,b) -> inN i tc = false -> bget B' i = some (s,b)) /\ K v B' m' = some r
theorem v2F (tbl : Tbl D) (args : List (PV D)) (B : Bt D) (m : Nat) (ix : Int) (v : PV D) (l : List (PV D)) (j : Nat) : selL tbl args B m ix (v :: l) j = Option.casesOn (selL tbl args B m ix l (Nat.succ j)) none fun q=>match v with
    | .fn f [] []=>match tbl f args B m with
      | .inl tc _ run=>some (tc ++ q.1,fun R K=>cond (decide (ix = (j : Int))) (run R K) (q.2 R K))
      | .tot v=>some (q.1,fun R K=>cond (decide (ix = (j : Int))) (K v B m) (q.2 R K))
      | .opt _ o _ out=>some (q.1,fun R K=>cond (decide (ix = (j : Int))) (Option.bind o fun x=>K (out x) B m) (q.2 R K))
      | _=>none
    | _=>some (q.1,fun R K=>cond (decide (ix = (j : Int))) none (q.2 R K)):=rfl
theorem inN_iff4 {x : Nat} : ∀ {l : List Nat}, inN x l = true ↔ x ∈ l
  | []=>by constructor <;> intro h <;> cases h
  | y :: l=>by
    have e : inN x (y :: l) = cond (Nat.beq y x) true (inN x l):=rfl
    rw [e,List.mem_cons]
    cases h : Nat.beq y x with
    | true=>have:=Nat.eq_of_beq_eq_true h; simp [this]
    | false =>
      have hne : x ≠ y:=fun e=>by subst e; rw [Nat.beq_refl] at h; cases h
      rw [cond_false,inN_iff4]; simp [hne]
theorem y9P {i : Nat} {l l' : List Nat} (h : inN i (l ++ l') = false) : inN i l = false /\ inN i l' = false:=by
  constructor
  . cases e : inN i l with
    | false=>rfl
    | true=>rw [inN_iff4.2 (List.mem_append_left _ (inN_iff4.1 e))] at h; cases h
  . cases e : inN i l' with
    | false=>rfl
    | true=>rw [inN_iff4.2 (List.mem_append_right _ (inN_iff4.1 e))] at h; cases h
theorem InlConc.more {f : FuncId} {args : List (PV D)} {tc tc' : List Nat} {K : PV D -> Bt D -> Nat -> Option R} {r : R} (h : InlConc P hk V f args B m tc K r) (hs : ∀ i,inN i tc' = false -> inN i tc = false) : InlConc P hk V f args B m tc' K r:=by
  intro X μ H n xs hr ha
  obtain ⟨v,B',m',xv,H',n', μ',q1,q2,q3,q4,q5,q6,q7⟩:=h X μ H n xs hr ha
  exact ⟨v,B',m',xv,H',n', μ',q1,q2,q3,q4,fun i s b x len a b' c=>q5 i s b x len a (hs i b') c,fun i s b a b'=>q6 i s b a (hs i b'),q7⟩
theorem FunS.conc {f : FuncId} {args : List (PV D)} {v : PV D} {K : PV D -> Bt D -> Nat -> Option R} {r : R} (h : FunS P hk V f args B m [] v B m) (hK : K v B m = some r) : InlConc P hk V f args B m [] K r:=by
  intro X μ H n xs hr ha
  obtain ⟨xv,H',n', μ',h1,h2,h3,h4,h5⟩:=h X μ H n xs hr ha
  exact ⟨v,B,m,xv,H',n', μ',h1,h2,h3,h4,h5,fun _ _ _ a _=>a,hK⟩
theorem v2E (hT : y0V P hk V tbl) {args : List (PV D)} {ix : Int} : ∀ {l : List (PV D)} {j : Nat} {q : List Nat × ((R : Type) -> (PV D -> Bt D -> Nat -> Option R) -> Option R)}, selL tbl args B m ix l j = some q -> ∀ {K : PV D -> Bt D -> Nat -> Option R} {r : R}, q.2 R K = some r ->
    ∃ i f,ix = ((j + i : Nat) : Int) /\ l[i]? = some (.fn f [] []) /\ InlConc P hk V f args B m q.1 K r
  | [],j,q,h,K,r,hr=>by cases h; cases hr
  | v :: l,j,q,h,K,r,hr=>by
    rw [v2F] at h
    cases hl : selL tbl args B m ix l (Nat.succ j) with
    | none=>rw [hl] at h; cases h
    | some q' =>
      rw [hl] at h
      have later : ∀ {K : PV D -> Bt D -> Nat -> Option R} {r : R}, q'.2 R K = some r -> (∀ i,inN i q.1 = false -> inN i q'.1 = false) -> ∃ i f,ix = ((j + i : Nat) : Int) /\ (v :: l)[i]? = some (.fn f [] []) /\ InlConc P hk V f args B m q.1 K r:=fun {K r} hr hs=>by
        obtain ⟨i,f,e1,e2,e3⟩:=v2E hT hl hr
        exact ⟨i + 1,f,by rw [e1]; omega,by simpa using e2,e3.more hs⟩
      simp only at h
      split at h
      . rename_i f
        have hcall:=hT f args B m
        split at h
        . rename_i tc d rn he
          cases h
          rw [he] at hcall
          cases hd : decide (ix = (j : Int)) with
          | true =>
            simp only [hd,cond_true] at hr
            exact ⟨0,f,by have:=of_decide_eq_true hd; omega,rfl,InlConc.more (hcall R K r hr) fun i hi=>(y9P hi).1⟩
          | false =>
            simp only [hd,cond_false] at hr
            exact later hr fun i hi=>(y9P hi).2
        . rename_i v' he
          cases h
          rw [he] at hcall
          cases hd : decide (ix = (j : Int)) with
          | true =>
            simp only [hd,cond_true] at hr
            exact ⟨0,f,by have:=of_decide_eq_true hd; omega,rfl,(FunS.conc hcall hr).more fun i hi=>rfl⟩
          | false =>
            simp only [hd,cond_false] at hr
            exact later hr fun i hi=>hi
        . rename_i X' o' d out he
          cases h
          rw [he] at hcall
          cases hd : decide (ix = (j : Int)) with
          | true =>
            simp only [hd,cond_true] at hr
            obtain ⟨a,h1,h2⟩:=x0A hr
            exact ⟨0,f,by have:=of_decide_eq_true hd; omega,rfl,(FunS.conc (hcall a h1) h2).more fun i hi=>rfl⟩
          | false =>
            simp only [hd,cond_false] at hr
            exact later hr fun i hi=>hi
        . cases h
      . cases h
        cases hd : decide (ix = (j : Int)) with
        | true=>simp only [hd,cond_true] at hr; cases hr
        | false =>
          simp only [hd,cond_false] at hr
          exact later hr fun i hi=>hi
theorem execO_ok (hT : y0V P hk V tbl) {y : YOp} (hc : x1T P o.op = some y) (hS : SR V X μ st T H n) (hI : RegI st.T dn) (hfit : y2X dn C = true) (hG : y3A all o C) (hd : y8Q sz o.dst = true) (hnew : ∀ t,o.dst = some t -> dIn t dn = false) {K : Y D -> Option R} {r : R} (h : execO tbl ⟨C,o.dst,y⟩ st K = some r) :
    ∃ st',y0W P hk V X all sz o C dn μ st T H n st' /\ K st' = some r:=by
  unfold execO at h
  obtain ⟨hok,h⟩:=x0B h
  have hp : Pre P V X all o C dn sz μ st T H n:=⟨hS,hI,hfit,hok,hG,hd,hnew⟩
  have op : ∀ {y : YOp}, x1T P o.op = some y -> x8A y = false -> fin st ⟨C,o.dst,y⟩ K (opR st.B (opd st.T C) y) = some r -> ∃ st',y0W P hk V X all sz o C dn μ st T H n st' /\ K st' = some r:=fun {y} hc hn h=>by
    cases hr : opR st.B (opd st.T C) y with
    | bad=>rw [hr] at h; exact z1X hp h
    | val v=>rw [hr] at h; exact ⟨_,z2X hp hc hn fun hg=>z1Q (x2J hS hI hg) hS.hr hc (.inl hr),h⟩
    | par b v =>
      rw [hr] at h
      obtain ⟨h1,h2⟩:=x0B h
      exact ⟨_,z2X hp hc hn fun hg=>z1Q (x2J hS hI hg) hS.hr hc (.inr (by rw [hr,y9R h1 hg])),h2⟩
    | ld src v =>
      rw [hr] at h
      refine ⟨_,x8J hp fun hg=> ?_,h⟩
      obtain ⟨w,h1,h2⟩:=ld_got (x2J hS hI hg) hS.hr hc hr
      exact ⟨w,H,n, μ, ⟨0,fun k _=>by rw [x5S hc hn]; exact h2 H n fun _ _ _ _ _=>rfl⟩,Gr.refl _ _ _ _ _,hS.hr,h1⟩
    | mk b f =>
      rw [hr] at h
      obtain ⟨rfl,h2⟩:=x5Q h
      exact ⟨_,mk_ok hp hc hn hr,h2⟩
    | wr i b =>
      rw [hr] at h
      obtain ⟨rfl,h2⟩:=x5Q h
      exact ⟨_,wr_ok hp hc hn hr,h2⟩
    | ap ck i b =>
      rw [hr] at h
      obtain ⟨rfl,h2⟩:=x5Q h
      obtain ⟨h3,h4⟩:=x0B h2
      exact ⟨_,ap_ok hp hc hn hr h3,h4⟩
  cases y with
  | call f ys =>
    have h : finC st ⟨C,o.dst, .call f ys⟩ K (tbl f (ys.map (opd st.T C)) st.B st.m) = some r:=h
    obtain ⟨args,ts,_,hy,hK⟩:=z0J hc
    have hcall:=hT f (ys.map (opd st.T C)) st.B st.m
    cases hr : tbl f (ys.map (opd st.T C)) st.B st.m with
    | bad=>rw [hr] at h; exact z1X hp h
    | tot v =>
      rw [hr] at h hcall
      exact ⟨_,x8J hp fun hg=>y6G hp hy hK hcall hg,h⟩
    | par b v =>
      rw [hr] at h hcall
      obtain ⟨h1,h2⟩:=x0B h
      exact ⟨_,x8J hp fun hg=>y6G hp hy hK (hcall (y9R h1 hg)) hg,h2⟩
    | opt X' x d out =>
      rw [hr] at h hcall
      obtain ⟨a,h1,h2⟩:=x0A h
      exact ⟨_,x8J hp fun hg=>y6G hp hy hK (hcall a (v2V h1 hg)) hg,h2⟩
    | inl tc d rn =>
      rw [hr] at h hcall
      have hg:=x3M (P:=P) hp.sr hp.reg hp.fit hp.ok hp.gd hp.dst
      rcases z1V hp.reg (fun _=>rfl) hp.ok h with ⟨T',e,hC,h⟩ | ⟨T',e,hC,h⟩
      . have hargs:=y4F (x2J hp.sr hp.reg hC) hy
        obtain ⟨v,B',m',xv,H',n', μ',⟨k0,q1⟩,q2,q3,q4,q5,q6,q7⟩:=hcall R _ r h X μ H n _ hp.sr.hr hargs
        refine ⟨_,⟨xv,H',n', μ',⟨k0,fun k hk'=> ?_⟩,(hp.teq e).sr.mk_put q3 q2 o.dst (u5V q4),q3, ?_,fun t ht=> ?_⟩,q7⟩
        . rw [(hg _).1 hC,hK]
          show y2L (run P hk k (.call f ([] ++ args.toList.map (ev T) ++ [])) H n) = _
          rw [List.nil_append,List.append_nil,q1 k hk']
          rfl
        . exact (hp.teq e).reg.set hp.fit hp.new (fun C' g w h1=>by obtain ⟨a,b,c⟩:=u5W h1; exact ⟨a,by rw [b]; exact (by rw [y6F e]; exact hC.symm),c⟩) (fun hne=>u5X hne)
        . show pget (pput T' o.dst _) t = _
          rw [x1A _ _ _ _ ht,e t]
      . refine ⟨_,⟨undef,H,n, μ, ⟨0,fun k _=>by rw [(hg _).2.1 hC]⟩,(hp.teq e).sr.put o.dst (.opt0 C _),Gr.refl _ _ _ _ _, ?_,fun t ht=> ?_⟩,h⟩
        . exact (hp.teq e).reg.set hp.fit hp.new (fun C' g w h1=>by cases h1; exact ⟨rfl,by rw [y6F e]; exact hC.symm,fun e0=>by subst e0; cases hC⟩) (fun hne=>⟨_,_,rfl⟩)
        . show pget (pput T' o.dst _) t = _
          rw [x1A _ _ _ _ ht,e t]
  | callv x ys =>
    have h : y6A C (finC st ⟨C,o.dst, .callv x ys⟩ K (selC tbl (opd st.T C x) (ys.map (opd st.T C)) st.B st.m)) = some r:=h
    obtain ⟨rfl,h⟩:=x5Q h
    obtain ⟨g,args,ts,_,rfl,hy,hK⟩:=u2K hc
    have hx:=x2J hS hI (C:=[]) rfl (.tmp g) (.t g) rfl
    have hargs:=y4F (x2J hS hI (C:=[]) rfl) hy
    generalize opd st.T [] (.t g) = xp at h hx
    unfold selC at h
    split at h
    . rename_i l ix
      cases hl : selL tbl (ys.map (opd st.T [])) st.B st.m ix l 0 with
      | none=>rw [hl] at h; cases h
      | some q =>
        rw [hl] at h
        have h : finC st ⟨[],o.dst, .callv (.t g) ys⟩ K (CallR.inl q.1 .undef q.2) = some r:=h
        have h : q.2 R (fun v B m=>K ⟨pput st.T o.dst (noOpt v),B,m⟩) = some r:=h
        obtain ⟨i,f,e1,e2,e3⟩:=v2E hT hl h
        obtain ⟨v,B',m',xv,H',n', μ',⟨k0,q1⟩,q2,q3,q4,q5,q6,q7⟩:=e3 X μ H n _ hp.sr.hr hargs
        have hxv : ev T (.tmp g) = .func (.func f) #[] #[]:=by
          generalize ev T (.tmp g) = xw at hx
          cases hx with
          | sel _ _ v' _ h0 hl' hrep =>
            rw [show ix.toNat = i by omega,e2] at hl'
            cases hl'
            cases hrep with
            | fn _ _ _ x y a b =>
              have hx0 : x = #[]:=Array.ext' (by cases ha : x.toList with | nil=>rfl | cons c d=>rw [ha] at a; cases a)
              have hy0 : y = #[]:=Array.ext' (by cases ha : y.toList with | nil=>rfl | cons c d=>rw [ha] at b; cases b)
              rw [hx0,hy0]
        have hg:=x3M (P:=P) hp.sr hp.reg hp.fit hp.ok hp.gd hp.dst
        refine ⟨_,⟨xv,H',n', μ',⟨k0,fun k hk'=> ?_⟩,hp.sr.mk_put q3 q2 o.dst q4.noOpt,q3,hp.reg.set hp.fit hp.new (fun C' g v e=>absurd e (x6J _ _ _ _)) (fun hne=>absurd rfl hne),fun t ht=>x1A _ _ _ _ ht⟩,q7⟩
        rw [(hg _).1 rfl,hK]
        show y3M (run P hk k) H n (args.toList.map (ev T)) (ev T (.tmp g)) = _
        rw [hxv]
        show y2L (run P hk k (.call f ([] ++ args.toList.map (ev T) ++ [])) H n) = _
        rw [List.nil_append,List.append_nil,q1 k hk']
        rfl
    . cases h
  | pick c a b =>
    have h : fin st ⟨C,o.dst, .pick c a b⟩ K (y0F st C c a b) = some r:=h
    have hv : ∃ v q,y0F st C c a b = .val v \/ y0F st C c a b = .par q v \/ y0F st C c a b = .bad:=by
      unfold y0F
      split
      . unfold selP
        split
        . exact ⟨_,true, .inl rfl⟩
        . cases ikeq _ _
          . exact ⟨.undef,true, .inr (.inr rfl)⟩
          . exact ⟨_,true, .inl rfl⟩
        . exact ⟨_,true, .inl rfl⟩
        . exact ⟨_,_, .inr (.inl rfl)⟩
        . exact ⟨_,_, .inr (.inl rfl)⟩
        . exact ⟨.undef,true, .inr (.inr rfl)⟩
      . exact ⟨.undef,true, .inr (.inr rfl)⟩
    obtain ⟨v,q,hv | hv | hv⟩:=hv
    . rw [hv] at h
      exact ⟨_,z2X hp hc rfl fun hg=>y3S hp hc (.inl hv) hg,h⟩
    . rw [hv] at h
      obtain ⟨h1,h2⟩:=x0B h
      exact ⟨_,z2X hp hc rfl fun hg=>y3S hp hc (.inr (by rw [hv,y9R h1 hg])) hg,h2⟩
    . rw [hv] at h; exact z1X hp h
  | prim p ys =>
    have h : finP st ⟨C,o.dst, .prim p ys⟩ K (z9Y p (ys.map (opd st.T C)) st.B st.m) = some r:=h
    cases hr : z9Y p (ys.map (opd st.T C)) st.B st.m with
    | bad=>rw [hr] at h; cases h
    | ok ck v B' m' =>
      rw [hr] at h
      obtain ⟨rfl,h0⟩:=x5Q h
      obtain ⟨h1,h2⟩:=x0B h0
      obtain ⟨w,H',n', μ',q1,q2,q3,q4⟩:=prim_got (x2J hS hI rfl) hS.hr hc hr h1
      exact ⟨_,u5T hp hc rfl q1 q2 q3 q4.noOpt fun C g v=>x6J _ _ _ _,h2⟩
  | _=>exact op hc rfl h
structure RunOk (P : Program) (hk : Hook) (V : D -> List (PV D)) (X : Nat -> Prop) (μ : Mu) (st : Y D) (H : Hp) (n : Nat) (st' : Y D) (T' : Tm) (H' : Hp) (n' : Nat) (dn' : Dn) (asg : List Nat) : Prop where
  ex : ∃ μ',SR V X μ' st' T' H' n' /\ Gr μ st.B st.m H n μ' st'.B st'.m H' n'
  reg : RegI st'.T dn'
  oth : ∀ t,t ∉ asg -> pget st'.T t = pget st.T t
noncomputable def dnL (l : List YO) (dn : Dn) : Dn:=l.foldl (fun dn o=>x7E o.dst o.C dn) dn
theorem u8X (o : YO) (l : List YO) (st : Y D) (K : Y D -> Option R) : v5M tbl (o :: l) st K = execO tbl o st fun st=>v5M tbl l st K:=rfl
theorem u0E (o : YO) (l : List YO) (dn : Dn) : x5N (o :: l) dn = cond (y2X dn o.C) (match o.dst with | some d=>cond (dIn d dn) false (x5N l ((o.C,d) :: dn)) | none=>x5N l dn) false:=rfl
theorem y5H {o : YO} {l : List YO} {dn : Dn} (h : x5N (o :: l) dn = true) : y2X dn o.C = true /\ (∀ t,o.dst = some t -> dIn t dn = false) /\ x5N l (x7E o.dst o.C dn) = true:=by
  rw [u0E] at h
  obtain ⟨h1,h2⟩:=x0D h
  refine ⟨h1, ?_⟩
  cases hd : o.dst with
  | none=>rw [hd] at h2; exact ⟨fun t e=>(by cases e),h2⟩
  | some d =>
    rw [hd] at h2
    have h2 : cond (dIn d dn) false (x5N l ((o.C,d) :: dn)) = true:=h2
    cases hi : dIn d dn with
    | true=>rw [hi] at h2; cases h2
    | false=>rw [hi] at h2; exact ⟨fun t e=>(by cases e; exact hi),h2⟩
theorem u9Y (o : YO) (l : List YO) : y6N (o :: l) = match o.dst with | some d=>d :: y6N l | none=>y6N l:=rfl
theorem u5U {o : YO} {l : List YO} {t : Nat} (h : t ∉ y6N (o :: l)) : o.dst ≠ some t /\ t ∉ y6N l:=by
  rw [u9Y] at h
  cases hd : o.dst with
  | none=>rw [hd] at h; exact ⟨by simp,h⟩
  | some d=>rw [hd] at h; simp at h; exact ⟨fun e=>by cases e; exact h.1 rfl,h.2⟩
inductive Made (P : Program) (sz : Nat) (all : List Oper) : List Oper -> List YO -> Prop
  | nil : Made P sz all [] []
  | cons (o : Oper) (C : Ch) (y : YOp) (l : List Oper) (m : List YO) (h1 : x1T P o.op = some y) (h2 : y8Q sz o.dst = true) (h3 : y3A all o C) (t : Made P sz all l m) : Made P sz all (o :: l) (⟨C,o.dst,y⟩ :: m)
theorem u5P (hT : y0V P hk V tbl) : ∀ {rest : List Oper} {l : List YO}, Made P sz all rest l -> ∀ {μ : Mu} {st : Y D} {T : Tm} {H : Hp} {n : Nat} {dn : Dn} {K : Y D -> Option R} {r : R}, SR V X μ st T H n -> RegI st.T dn -> x5N l dn = true -> v5M tbl l st K = some r ->
    ∃ st' T' H' n',(∃ k0, ∀ k,k0 <= k -> y4X P (run P hk k) sz all rest T H n = .ok .normal T' H' n') /\ RunOk P hk V X μ st H n st' T' H' n' (dnL l dn) (y6N l) /\ K st' = some r
  | _,_, .nil, μ, st,T,H,n,dn,K,r,hS,hI,_,h=>⟨st,T,H,n,⟨0,fun _ _=>rfl⟩,⟨⟨μ, hS,Gr.refl _ _ _ _ _⟩,hI,fun _ _=>rfl⟩,h⟩
  | _,_, .cons o C y rest l h1 h2 h3 ht, μ, st,T,H,n,dn,K,r,hS,hI,hok,h=>by
    rw [u8X] at h
    obtain ⟨s1,s2,s3⟩:=y5H hok
    obtain ⟨st1,⟨xv,H1,n1, μ1,⟨k1,q1⟩,q2,q3,q4,q5⟩,q6⟩:=execO_ok hT h1 hS hI s1 h3 h2 s2 h
    obtain ⟨st',T',H',n',⟨k2,r1⟩,r2,r3⟩:=u5P hT ht q2 q4 s3 q6
    obtain ⟨μ',u1,u2⟩:=r2.ex
    refine ⟨st',T',H',n',⟨max k1 k2,fun k hk'=> ?_⟩,⟨⟨μ',u1,q3.trans u2⟩,r2.reg,fun t ht'=> ?_⟩,r3⟩
    . rw [y4W,q1 k (by omega)]
      have hdst : (Xec.compI P sz all o).dst = o.dst:=by
        unfold Xec.compI
        rw [h2,cond_true]
        rcases h3 with ⟨e,_⟩ | ⟨j,w,t,C',e,e2,_⟩
        . rw [e]
        . rw [e]; simp only [e2]
      rw [hdst]
      exact r1 k (by omega)
    . obtain ⟨e1,e2⟩:=u5U ht'
      rw [r2.oth t e2,q5 t e1]
end
end Go.Yec
