/-
  THE PURE EXECUTOR: what an operation's result does to the states.
-/
import Derived.Test.YtadehgdfijjikaaGreatDoorY8
set_option linter.all false
namespace Go.Yec
open Go Go.Xec
variable [GT]
section
variable {D : Type} {V : D -> List (PV D)} {μ : Mu} {H : Hp} {P : Program} {hk : Hook} {o : Oper} {T : Tm} {X : Nat -> Prop} {n m : Nat} {st : Y D} {dn : Dn} {C : Ch} {B : Bt D}
theorem Rep.noOpt {M : Nat -> Prop} {v : PV D} {x : Value} (h : Rep V μ H M v x) : Rep V μ H M (noOpt v) x:=by
  unfold Yec.noOpt
  split
  . exact .undef _
  . exact h
theorem x6J (v : PV D) (C : Ch) (g : Bool) (w : PV D) : noOpt v ≠ .opt C g w:=by
  unfold noOpt
  split
  . simp
  . rename_i h; exact h C g w
theorem x8B {M : Nat -> Prop} {Tt : Tt D} {v : PV D} {x : Value} (h1 : gOf Tt C = true -> Rep V μ H M v x) (h0 : gOf Tt C = false -> x = undef) : Rep V μ H M (dstV Tt C v) x:=by
  cases C with
  | nil=>exact (h1 rfl).noOpt
  | cons p C =>
    show Rep V μ H M (.opt (p :: C) (gOf Tt (p :: C)) v) x
    cases hg : gOf Tt (p :: C) with
    | true=>exact .opt1 _ _ _ (h1 hg)
    | false=>rw [h0 hg]; exact .opt0 _ _
theorem z3J {Tt : Tt D} {v : PV D} {C' : Ch} {g : Bool} {w : PV D} (h : dstV Tt C v = .opt C' g w) : C' = C /\ g = gOf Tt C /\ C ≠ []:=by
  cases C with
  | nil=>exact absurd h (x6J _ _ _ _)
  | cons p C=>cases h; exact ⟨rfl,rfl,by simp⟩
theorem z3K {Tt : Tt D} {v : PV D} (h : C ≠ []) : ∃ g w,dstV Tt C v = .opt C g w:=by
  cases C with
  | nil=>exact absurd rfl h
  | cons p C=>exact ⟨_,_,rfl⟩
def updM (μ : Mu) (m n len : Nat) : Mu:=fun j=>if j = m then some (some n,len) else μ j
theorem HR.ids (hr : HR V X μ B m H n) {i s : Nat} {b : Blk D} (h : bget B i = some (s,b)) : i < m:=by
  obtain ⟨_,ox,len,h1,_⟩:=hr.blk i s b h
  exact hr.lm i _ h1
noncomputable def z3L (B : Bt D) : Option Nat -> Bt D
  | some i=>bset B i none
  | none=>B
theorem v5X {oi : Option Nat} {i s : Nat} {b : Blk D} (h : bget (z3L B oi) i = some (s,b)) : bget B i = some (s,b) /\ oi ≠ some i:=by
  cases oi with
  | none=>exact ⟨h,by simp⟩
  | some j =>
    have h : bget (bset B j none) i = some (s,b):=h
    rw [x0Z] at h
    split at h
    . cases h
    . rename_i hne; exact ⟨h,fun e=>hne (by cases e; rfl)⟩
theorem HR.fresh_blk (hr : HR V X μ B m H n) {oi : Option Nat} {H' : Hp} {len : Nat} {b : Blk D} (h1 : ∀ y,y ≠ n -> (∀ i x l,oi = some i -> μ i = some (some x,l) -> y ≠ x) -> hget H' y = hget H y) (hl : ∀ i,oi = some i -> ∃ s b,bget B i = some (s,b))
    (hb : ∀ μ' H2 M',Keep μ H (MX X μ B) μ' H2 M' -> μ' m = some (some n,len) -> hget H2 n = hget H' n -> BlkR V μ' H2 M' (some n) len b) :
    Gr μ B m H n (updM μ m n len) (bset (z3L B oi) m (some (m,b))) (m + 1) H' (n + 1) /\ HR V X (updM μ m n len) (bset (z3L B oi) m (some (m,b))) (m + 1) H' (n + 1):=by
  have hmu : ∀ i,i ≠ m -> updM μ m n len i = μ i:=fun i h=>if_neg h
  have hmm : updM μ m n len m = some (some n,len):=if_pos rfl
  have get : ∀ {i s c}, bget (bset (z3L B oi) m (some (m,b))) i = some (s,c) -> (i = m /\ s = m /\ c = b) \/ (i ≠ m /\ bget B i = some (s,c) /\ oi ≠ some i):=fun {i s c} h=>by
    rw [x0Z] at h
    split at h
    . rename_i e; cases h; exact .inl ⟨e,rfl,rfl⟩
    . rename_i e; exact .inr ⟨e,v5X h⟩
  have gr : Gr μ B m H n (updM μ m n len) (bset (z3L B oi) m (some (m,b))) (m + 1) H' (n + 1):=by
    refine ⟨by omega,by omega,fun i hi=>hmu i (by omega),fun x hx hoff=>h1 x (by omega) fun i y l hi hy e=> ?_,fun i s c hi h=> ?_,fun i s c x l hi h hm=> ?_,fun i s c h hs=> ?_,fun i s c x l hi h hs hm=> ?_⟩
    . subst e
      obtain ⟨s,c,hc⟩:=hl i hi
      exact hoff i s c l hc hy
    . rcases get h with ⟨e,_⟩ | ⟨_,h,_⟩
      . omega
      . exact ⟨s,c,h⟩
    . rcases get h with ⟨e,_⟩ | ⟨_,h,_⟩
      . subst e; rw [hmm] at hm; cases hm; exact .inl (Nat.le_refl _)
      . have:=hr.ids h; omega
    . rcases get h with ⟨_,e,_⟩ | ⟨_,h,_⟩
      . omega
      . exact h
    . rcases get h with ⟨e,_⟩ | ⟨_,h,hoi⟩
      . omega
      . have hlt:=hr.lt i x l hm
        refine h1 x (by omega) fun j y l' hj hy e=> ?_
        subst e
        obtain ⟨s',c',hc'⟩:=hl j hj
        have:=hr.inj i j s s' c c' x l l' h hc' hm hy
        subst this
        exact hoi hj
  have kp:=gr.keep hr
  refine ⟨gr,⟨fun i s c h=> ?_,fun i j s s' c c' x a a' hi hj hmi hmj=> ?_,fun i s c x l h hm=> ?_,fun i x l hm=> ?_,fun i q hm=> ?_,fun x hx=>by have:=hr.xlt x hx; omega,fun x hx=> ?_⟩⟩
  . rcases get h with ⟨rfl,rfl,rfl⟩ | ⟨hne,h,hoi⟩
    . exact ⟨by omega,some n,len,hmm,hb _ _ _ kp hmm rfl⟩
    . obtain ⟨hs,ox,l,hm,hbr⟩:=hr.blk i s c h
      refine ⟨by omega,ox,l,by rw [hmu i hne]; exact hm,hbr.keep kp fun x hx=> ?_⟩
      subst hx
      have hlt:=hr.lt i x l hm
      refine h1 x (by omega) fun j y l' hj hy e=> ?_
      subst e
      obtain ⟨s',c',hc'⟩:=hl j hj
      have:=hr.inj i j s s' c c' x l l' h hc' hm hy
      subst this
      exact hoi hj
  . rcases get hi with ⟨rfl,_⟩ | ⟨hne,hi,_⟩ <;> rcases get hj with ⟨rfl,_⟩ | ⟨hne',hj,_⟩
    . rfl
    . rw [hmm] at hmi; cases hmi
      rw [hmu j hne'] at hmj
      have:=hr.lt _ _ _ hmj; omega
    . rw [hmm] at hmj; cases hmj
      rw [hmu i hne] at hmi
      have:=hr.lt _ _ _ hmi; omega
    . rw [hmu i hne] at hmi; rw [hmu j hne'] at hmj
      exact hr.inj i j s s' c c' x a a' hi hj hmi hmj
  . rcases get h with ⟨rfl,_⟩ | ⟨hne,h,_⟩
    . rw [hmm] at hm; cases hm
      intro hx; have:=hr.xlt _ hx; omega
    . rw [hmu i hne] at hm; exact hr.nx i s c x l h hm
  . by_cases e : i = m
    . subst e; rw [hmm] at hm; cases hm; omega
    . rw [hmu i e] at hm; have:=hr.lt i x l hm; omega
  . by_cases e : i = m
    . omega
    . rw [hmu i e] at hm; have:=hr.lm i q hm; omega
  . by_cases e : x = n
    . omega
    . rw [h1 x e fun i y l hi hy ee=>by subst ee; have:=hr.lt _ _ _ hy; omega]
      exact hr.fresh x (by omega)
theorem HR.write_blk (hr : HR V X μ B m H n) {i x len : Nat} {H' : Hp} {s0 : Nat} {b0 b : Blk D} (hi : bget B i = some (s0,b0)) (hm : μ i = some (some x,len)) (h1 : ∀ y,y ≠ x -> hget H' y = hget H y) (hb : ∀ M',Keep μ H (MX X μ B) μ H' M' -> BlkR V μ H' M' (some x) len b) :
    Gr μ B m H n μ (bset B i (some (m,b))) (m + 1) H' n /\ HR V X μ (bset B i (some (m,b))) (m + 1) H' n:=by
  have get : ∀ {j s c}, bget (bset B i (some (m,b))) j = some (s,c) -> (j = i /\ s = m /\ c = b) \/ (j ≠ i /\ bget B j = some (s,c)):=fun {j s c} h=>by
    rw [x0Z] at h
    split at h
    . rename_i e; cases h; exact .inl ⟨e,rfl,rfl⟩
    . rename_i e; exact .inr ⟨e,h⟩
  have him:=hr.ids hi
  have gr : Gr μ B m H n μ (bset B i (some (m,b))) (m + 1) H' n:=by
    refine ⟨Nat.le_refl _,by omega,fun _ _=>rfl,fun y hy hoff=>h1 y fun e=> ?_,fun j s c hj h=> ?_,fun j s c y l hj h hmj=> ?_,fun j s c h hs=> ?_,fun j s c y l hj h hs hmj=> ?_⟩
    . subst e; exact hoff i s0 b0 len hi hm
    . rcases get h with ⟨rfl,_⟩ | ⟨_,h⟩
      . exact ⟨s0,b0,hi⟩
      . exact ⟨s,c,h⟩
    . rcases get h with ⟨rfl,_⟩ | ⟨_,h⟩
      . omega
      . have:=hr.ids h; omega
    . rcases get h with ⟨_,e,_⟩ | ⟨_,h⟩
      . omega
      . exact h
    . rcases get h with ⟨_,e,_⟩ | ⟨hne,h⟩
      . omega
      . refine h1 y fun e=> ?_
        subst e
        exact hne (hr.inj j i s s0 c b0 _ l len h hi hmj hm)
  have kp:=gr.keep hr
  have live : ∀ {j s c}, bget (bset B i (some (m,b))) j = some (s,c) -> ∃ s' c',bget B j = some (s',c'):=fun {j s c} h=>by
    rcases get h with ⟨rfl,_⟩ | ⟨_,h⟩
    . exact ⟨s0,b0,hi⟩
    . exact ⟨s,c,h⟩
  refine ⟨gr,⟨fun j s c h=> ?_,fun j k s s' c c' y a a' hj hk hmj hmk=> ?_,fun j s c y l h hmj=> ?_,hr.lt,fun j q h=>by have:=hr.lm j q h; omega,hr.xlt,fun y hy=> ?_⟩⟩
  . rcases get h with ⟨rfl,rfl,rfl⟩ | ⟨hne,h⟩
    . exact ⟨by omega,some x,len,hm,hb _ kp⟩
    . obtain ⟨hs,ox,l,hmj,hbr⟩:=hr.blk j s c h
      refine ⟨by omega,ox,l,hmj,hbr.keep kp fun y hy=>h1 y fun e=> ?_⟩
      subst hy; subst e
      exact hne (hr.inj j i s s0 c b0 _ l len h hi hmj hm)
  . obtain ⟨s1,c1,q1⟩:=live hj
    obtain ⟨s2,c2,q2⟩:=live hk
    exact hr.inj j k s1 s2 c1 c2 y a a' q1 q2 hmj hmk
  . obtain ⟨s1,c1,q1⟩:=live h
    exact hr.nx j s1 c1 y l q1 hmj
  . have:=hr.lt i x len hm
    rw [h1 y (by omega)]
    exact hr.fresh y hy
theorem SR.mk_put (hS : SR V X μ st T H n) {μ' : Mu} {B' : Bt D} {m' : Nat} {H' : Hp} {n' : Nat} (gr : Gr μ st.B st.m H n μ' B' m' H' n') (hr' : HR V X μ' B' m' H' n') (d : Option Tmp) {v : PV D} {x : Value} (hv : Rep V μ' H' (MX X μ' B') v x) : SR V X μ' ⟨pput st.T d v,B',m'⟩ (Xec.put T d x) H' n' :=
  ⟨hr',fun t=>by
    show Rep V μ' H' (MX X μ' B') (pget (pput st.T d v) t) _
    rw [x8R,v2S]
    split
    . exact hv
    . exact (hS.tr t).keep (gr.keep hS.hr)⟩
theorem x9R {op : Op} {q : YOp} (hc : x1T P op = some q) : ∀ x ∈ op.operands.toList,okX x = true:=by
  have p1 : ∀ {f : Yd -> YOp} {x : Operand} {q : YOp}, y1 f x = some q -> okX x = true:=fun h=>by
    obtain ⟨a,ha,rfl⟩:=x0G h; exact x7Q ha
  have p2 : ∀ {f : Yd -> Yd -> YOp} {x y : Operand} {q : YOp}, y2 f x y = some q -> okX x = true /\ okX y = true:=fun h=>by
    obtain ⟨a,b,ha,hb,rfl⟩:=x0T h; exact ⟨x7Q ha,x7Q hb⟩
  have pl : ∀ {l : List Operand} {r : List Yd}, ydL l = some r -> ∀ x ∈ l,okX x = true:=by
    intro l
    induction l with
    | nil=>intro r _ x hx; cases hx
    | cons a l ih =>
      intro r h x hx
      have h : ((ydO a).bind fun c=>(ydL l).map fun r=>c :: r) = some r:=h
      obtain ⟨c,h1,h2⟩:=x0A h
      obtain ⟨r',h3,_⟩:=x0C h2
      rcases List.mem_cons.1 hx with rfl | hx
      . exact x7Q h1
      . exact ih h3 x hx
  have pp : ∀ {l : List (Nat × Operand)} {r : List (Nat × Yd)}, y4G l = some r -> ∀ p ∈ l,okX p.2 = true:=by
    intro l
    induction l with
    | nil=>intro r _ x hx; cases hx
    | cons a l ih =>
      intro r h x hx
      rw [x9K] at h
      obtain ⟨c,h1,h2⟩:=x0A h
      obtain ⟨r',h3,_⟩:=x0C h2
      rcases List.mem_cons.1 hx with rfl | hx
      . exact x7Q h1
      . exact ih h3 x hx
  have a1 : ∀ {x y : Operand}, okX y = true -> x ∈ (#[y] : Array Operand).toList -> okX x = true:=fun h hx=>by simp at hx; subst hx; exact h
  have a2 : ∀ {x y z : Operand}, okX y = true /\ okX z = true -> x ∈ (#[y,z] : Array Operand).toList -> okX x = true:=fun h hx=>by
    simp at hx; rcases hx with rfl | rfl
    . exact h.1
    . exact h.2
  intro x hx
  unfold x1T at hc
  split at hc
  . exact a1 (p1 hc) hx
  . exact a1 (p1 hc) hx
  . exact a1 (p1 hc) hx
  . obtain ⟨_,e1,h1⟩:=x0A hc
    obtain ⟨_,e2,h2⟩:=x0A h1
    obtain ⟨_,e3,rfl⟩:=x0C h2
    simp [Op.operands] at hx
    rcases hx with rfl | rfl | rfl
    . exact x7Q e1
    . exact x7Q e2
    . exact x7Q e3
  . unfold yBin at hc
    split at hc <;> first | (cases hc; done) | (split at hc <;> first | (cases hc; done) | exact a2 (p2 hc) hx)
  . exact a1 (p1 hc) hx
  . exact a1 (p1 hc) hx
  . unfold z0Q at hc
    split at hc
    . exact a1 (p1 hc) hx
    . exact a1 (p1 hc) hx
    . exact a1 (p1 hc) hx
    . exact a1 (p1 (x0B hc).2) hx
    . exact a1 (p1 (x0B hc).2) hx
    . exact a1 (p1 (x0B hc).2) hx
    . cases hc
  . split at hc
    . exact a2 (p2 hc) hx
    . exact a2 (p2 (x0B hc).2) hx
    . cases hc
  . rename_i t y lo hi
    unfold x9Z at hc
    split at hc
    . obtain ⟨_,e1,h1⟩:=x0A hc
      obtain ⟨_,e2,h2⟩:=x0A h1
      obtain ⟨_,e3,rfl⟩:=x0C h2
      have po : ∀ {oo : Option Operand} {r : Option Yd}, ydOpt oo = some r -> ∀ z ∈ oo.toList,okX z = true:=fun {oo r} h z hz=>by
        cases oo with
        | none=>simp at hz
        | some w=>obtain ⟨c,h1,_⟩:=x0C h; simp at hz; subst hz; exact x7Q h1
      simp [Op.operands] at hx
      rcases hx with rfl | hx | hx
      . exact x7Q e1
      . exact po e2 x (by simpa using hx)
      . exact po e3 x (by simpa using hx)
    . cases hc
  . rename_i b args ts
    have hx2 : x ∈ args.toList:=by simpa [Op.operands,Call.operands] using hx
    clear hx
    have hx:=hx2
    clear hx2
    unfold x1B at hc
    split at hc
    . rename_i ha _
      rw [ha] at hx
      split at hc
      . simp at hx; subst hx; exact p1 hc
      . simp at hx; subst hx; exact p1 hc
      . cases hc
    . rename_i ha
      rw [ha] at hx
      simp at hx; rcases hx with rfl | rfl
      . exact (p2 hc).1
      . exact (p2 hc).2
    . rename_i ha
      rw [ha] at hx
      simp at hx; rcases hx with rfl | rfl
      . exact (p2 hc).1
      . exact (p2 hc).2
    . rename_i ha _
      rw [ha] at hx
      obtain ⟨_,_,h1⟩:=x0A hc
      obtain ⟨_,_,h2⟩:=x0A h1
      obtain ⟨_,_,h3⟩:=x0A h2
      obtain ⟨_,_,h4⟩:=x0A h3
      simp at hx; rcases hx with rfl | rfl
      . exact (p2 h4).1
      . exact (p2 h4).2
    . cases hc
  . rename_i f args ts
    obtain ⟨r,h1,_⟩:=x0C hc
    simp [Op.operands,Call.operands] at hx
    rcases hx with rfl | hx
    . rfl
    . exact pl h1 x (by simpa using hx)
  . rename_i f args ts
    obtain ⟨r,h1,_⟩:=x0C hc
    simp [Op.operands,Call.operands] at hx
    rcases hx with rfl | hx
    . rfl
    . exact pl h1 x (by simpa using hx)
  . exact a1 (p1 hc) hx
  . simp [Op.operands] at hx
  . obtain ⟨_,_,h1⟩:=x0A hc
    obtain ⟨_,_,h2⟩:=x0A h1
    obtain ⟨_,h3⟩:=x0B h2
    exact a1 (p1 h3) hx
  . obtain ⟨_,_,h1⟩:=x0A hc
    obtain ⟨_,_,h2⟩:=x0A h1
    obtain ⟨_,_,h3⟩:=x0A h2
    exact a1 (p1 h3) hx
  . obtain ⟨_,_,h1⟩:=x0A hc
    obtain ⟨_,_,h2⟩:=x0A h1
    exact a1 (p1 h2) hx
  . obtain ⟨_,_,h1⟩:=x0A hc
    exact a2 (p2 h1) hx
  . obtain ⟨_,_,h1⟩:=x0A hc
    obtain ⟨_,_,h2⟩:=x0A h1
    obtain ⟨_,_,h3⟩:=x0A h2
    obtain ⟨_,h6,h5⟩:=x0A h3
    simp [Op.operands] at hx
    obtain ⟨i,hx⟩:=hx
    exact pp h6 (i,x) (by simpa using hx)
  . obtain ⟨_,_,h1⟩:=x0A hc
    obtain ⟨_,_,h2⟩:=x0A h1
    obtain ⟨_,h6,h3⟩:=x0A h2
    simp [Op.operands] at hx
    obtain ⟨i,hx⟩:=hx
    exact pp h6 (i,x) (by simpa using hx)
  . unfold yIaddr at hc
    split at hc
    . exact a2 (p2 (x0B hc).2) hx
    . exact a2 (p2 (x0B hc).2) hx
    . cases hc
  . exact a1 (p1 hc) hx
  . split at hc
    . exact a1 (p1 hc) hx
    . cases hc
  . exact a1 (p1 hc) hx
  . obtain ⟨h0,h1⟩:=x0B hc
    obtain ⟨_,_,h2⟩:=x0A h1
    obtain ⟨_,_,h3⟩:=x0A h2
    have:=v2Z h0
    subst this
    exact a2 ⟨p1 h3,p1 h3⟩ hx
  . cases hc
end
end Go.Yec
