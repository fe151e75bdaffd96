/-
  whole, Check, Map of the layout, walked.;Places of the layout, walked.;ContainsFunc over a list of steps, walked: no step has it.
-/
import Derived.Test.YtadehgdfijjikaaGreatDoorS10
import Derived.Test.YtadehgdfijjikaaGreatDoorS9
import Derived.OwnWalkIn
import Derived.Test.YtadehgdfijjikaaGreatDoorS7
import Derived.Test.YtadehgdfijjikaaGreatDoorZ7
set_option linter.all false
set_option maxRecDepth 100000
namespace Go.Proofs
open Go.RowKit Go.Yec Go.Shp Go.Deep
open Go.Xec (Glob)
theorem map_any:∀ (s:Sh) (W:World) (dm lv:Int),Glob W->okS s->0 <= dm->valS s dm lv=true->∀ (w:World) (dv pv:Value),ShAt W dv pv s->Below W.heap.size W w ->
    Calls Tryz.prog 149 #[shV dv pv s.t s.g] w fun e w'=>MpOk W s w w' e (mpS s)/\Below w.heap.size w w':=by
  intro s
  induction s using Sh.ind with
  | h D P t g ih =>
    intro W dm lv hG aC co hv w dv pv hs hB;obtain ⟨h3,jZ,hd,ht,hP⟩:=x3C hv;obtain ⟨lu,eJ,bA,bH⟩:=aC;exact map_one D P t g W w dv pv hG hs hB bA eJ hd (by omega) (fun h=>(ht h).1)
      (fun s bn w dv pv jP aL=>ih s bn W _ _ hG (y0V bH s bn) (by omega) (hP s bn) w dv pv jP aL)
      (fun s bn n hn=>x5S s _ _ (hP s bn) n hn)
def WhOk (w w':World)(s:Sh)(e:Ending):Prop :=
  if valS s 0 1=true then (match mpS s with
    | none=>e = .returned (.tuple #[.pointer none, .int .i64 2])
    | some n=> ∃ B,e = .returned (.tuple #[.pointer (some ⟨B, 0,none⟩), .int .i64 0])/\w'.cell? ⟨B, 8,none⟩=some (.int .i64 n.u.s)/\w'.cell? ⟨B, 9,none⟩=some (.int .i64 n.u.b)/\w'.cell? ⟨B, 10,none⟩=some (.int .i64 n.u.a)/\x1T (fun b=>b<w'.heap.size) w' B s n)
  else e = .returned (.tuple #[.pointer none, .int .i64 90])
set_option maxHeartbeats 4000000 in
theorem y5N (s:Sh)(W w:World)(dv pv:Value)(hG:Glob W)(hs:ShAt W dv pv s)(hB:Below W.heap.size W w)(aC:okS s)(dW:scnt s <= 100) :
    Calls Tryz.prog 97 #[shV dv pv s.t s.g] w fun e w'=>WhOk w w' s e/\Below w.heap.size w w':=by
  have hn:=fun w hB=>v1G s W w dv pv hG hs hB aC dW;have hu:=fun hv w hB=>map_any s W 0 1 hG aC (by omega) hv w dv pv hs hB
  obtain ⟨a1,c1,a2,c2,rfl,rfl⟩:=hs.slices;have hx:=ShBox.here w (.slice a1 s.D.length c1) (.slice a2 s.P.length c2) s.t s.g;have au:Below w.heap.size w (w.alloc (.cells #[.slice a1 s.D.length c1, .slice a2 s.P.length c2, .int .i64 s.t.k, .int .i64 s.t.p, .int .i64 s.t.q, .bool s.t.v, .string s.t.pic, .bool s.g] 27)):=(Below.refl _ w).alloc (Nat.le_refl _) _;go_enter Tryz.func97,Tryz.ntmps97
  go_wp2_with (go_at_call 148;fail)
  refine (hn _ (hB.trans (au.mono hB.size))).mono ?_;rintro e w2 ⟨rfl,hb⟩;have bv:=hx.below hb;have aB:=au.trans (hb.mono au.size);clear hb hn hx;obtain ⟨l0,k0,k1,k2,k3,k4,k5,k6,k7⟩:=id bv
  by_cases hv:valS s 0 1=true
  . have jM:=fun w hB=>hu hv w hB;have fq:Hid (valS s 0 1=true):=hv;clear hu
    go_wp2_with (go_at_call 149;fail)
    refine (jM _ (hB.trans (aB.mono hB.size))).mono ?_;rintro e w3 ⟨dz,hb⟩;have b9:=aB.trans (hb.mono aB.size);clear hb jM k0 k1 k2 k3 k4 k5 k6 k7 hv;cases hm:mpS s with
    | none =>
      rw [hm] at dz;obtain rfl:=dz;have iK:Hid (mpS s=none):=hm;clear hm;go_wp2
      go_ret2
      exact ⟨by unfold WhOk;rw [if_pos fq.out,iK.out];rfl,b9⟩
    | some n =>
      rw [hm] at dz;obtain ⟨B,rfl,uW,u0,u1,u2,bM⟩:=dz;have rt:x1T (fun b=>b<w3.heap.size) w3 B s n:=x1G (fun b h=>by have:=hB.size;have:=b9.size;omega) (KeepS.refl _ _) bM
      clear bM;have iK:Hid (mpS s=some n):=hm;clear hm;go_wp2
      go_ret2
      exact ⟨by unfold WhOk;rw [if_pos fq.out,iK.out];exact ⟨B,rfl,u0,u1,u2,rt⟩,b9⟩
  . have yA:valS s 0 1=false:=by simpa using hv
    have fq:Hid (¬ valS s 0 1=true):=hv;clear hv hu;go_wp2
    go_ret2
    exact ⟨by unfold WhOk;rw [if_neg fq.out];rfl,aB⟩
set_option maxHeartbeats 4000000 in
theorem ownMap_any (s:Sh)(W w:World)(dv pv:Value)(hG:Glob W)(hs:ShAt W dv pv s)(hB:Below W.heap.size W w)(aC:okS s)(dW:scnt s <= 100) :
    Calls Tryz.prog 24 #[shV dv pv s.t s.g] w fun e w'=>e = .returned (.tuple #[unV (mapR s).1, .int .i64 (mapR s).2])/\Below w.heap.size w w':=by
  have hn:=fun w hB=>y5N s W w dv pv hG hs hB aC dW;obtain ⟨a1,c1,a2,c2,rfl,rfl⟩:=hs.slices;have eU:UBox ((w.alloc (.cells #[.slice a1 s.D.length c1, .slice a2 s.P.length c2, .int .i64 s.t.k, .int .i64 s.t.p, .int .i64 s.t.q, .bool s.t.v, .string s.t.pic, .bool s.g] 27)).alloc (.cells #[.int .i64 0, .int .i64 0, .int .i64 0] 42)) (w.heap.size+1) (.int .i64 0) (.int .i64 0) (.int .i64 0):=by
    simpa using UBox.here (w.alloc (.cells #[.slice a1 s.D.length c1, .slice a2 s.P.length c2, .int .i64 s.t.k, .int .i64 s.t.p, .int .i64 s.t.q, .bool s.t.v, .string s.t.pic, .bool s.g] 27)) (.int .i64 0) (.int .i64 0) (.int .i64 0) 42
  have au:Below w.heap.size w ((w.alloc (.cells #[.slice a1 s.D.length c1, .slice a2 s.P.length c2, .int .i64 s.t.k, .int .i64 s.t.p, .int .i64 s.t.q, .bool s.t.v, .string s.t.pic, .bool s.g] 27)).alloc (.cells #[.int .i64 0, .int .i64 0, .int .i64 0] 42)):=((Below.refl _ w).alloc (Nat.le_refl _) _).alloc (by simp) _
  generalize uN:mapR s=MR;have uO:Hid (mapR s=MR):=uN;clear uN;go_enter Tryz.func24,Tryz.ntmps24
  go_wp2_with (go_at_call 97;fail)
  refine (hn _ (hB.trans (au.mono hB.size))).mono ?_;rintro e w2 ⟨cf,hb⟩;have cN:=eU.below hb;have aB:=au.trans (hb.mono au.size);clear hb hn eU au;obtain ⟨l1,m0,m1,m2,m3,m4,m5⟩:=id cN;have key:(∃ er,e = .returned (.tuple #[.pointer none, .int .i64 er])/\er≠0/\MR=(⟨0, 0, 0⟩,er))\/(∃ B u,e = .returned (.tuple #[.pointer (some ⟨B, 0,none⟩), .int .i64 0])/\MR=(u, 0)/\w2.cell? ⟨B, 8,none⟩=some (.int .i64 u.s)/\w2.cell? ⟨B, 9,none⟩=some (.int .i64 u.b)/\w2.cell? ⟨B, 10,none⟩=some (.int .i64 u.a)):=by
    have h1:=uO.out;unfold WhOk at cf;unfold mapR at h1;cases hv:valS s 0 1
    . rw [hv,if_neg (by simp)] at cf
      rw [hv] at h1;exact .inl ⟨_,cf,by decide,h1.symm⟩
    . rw [hv,if_pos rfl] at cf;rw [hv] at h1;cases hm:mpS s with
      | none =>
        rw [hm] at cf h1;exact .inl ⟨_,cf,by decide,h1.symm⟩
      | some n =>
        rw [hm] at cf h1;obtain ⟨B,h,u0,u1,u2, -⟩:=cf;exact .inr ⟨B,n.u,h,h1.symm,u0,u1,u2⟩
  clear cf uO;rcases key with ⟨er,rfl,ui,rfl⟩ | ⟨B,⟨us,ub,ua⟩,rfl,rfl,u0,u1,u2⟩
  . go_wp2;refine bodyPost_ret (v:= .tuple #[.agg #[.int .i64 0, .int .i64 0, .int .i64 0], .int .i64 er]) (by rw [results_cell_tmp rfl];go_simp) rfl ⟨rfl,x1W aB (by omega)⟩
  . simp only at u0 u1 u2;go_wp2;refine bodyPost_ret (v:= .tuple #[.agg #[.int .i64 us, .int .i64 ub, .int .i64 ua], .int .i64 0]) (by rw [results_cell_tmp rfl];go_simp) rfl ⟨rfl,x1W aB (by omega)⟩
attribute [local go_sem] Oper.semAt_some
theorem info50:(Tryz.prog.info? 50).map (fun i=>(i.zero,i.size,i.bytes))=some (some (.agg #[.slice none 0 0, .int .i64 0, .slice none 0 0, .int .i64 0, .int .i64 0, .int .i64 0, .int .i64 0, .bool false, .string ⟨#[]⟩]), 9, 112):=by kernel_rfl
theorem z5E {F:Fence}{n:Nat}{P:Program}(w:World){ops:Array Oper}{rest:List Oper}{o:Oper}{a:Act}{Q:Exit->Act->World->Prop}
    (hg:o.guard=none) (s x:Operand) (t:TypeId) (bY:o.op=Op.call { callee:=Callee.builtin Builtin.append,args:= #[s,x],argTypes:= #[t,t] })
    (base:Nat) (e:TypeId) (i:TypeInfo) (z:Value) (size bytes:Nat) (h1:P.underlying t=some (.slice e)) (h2:P.info? e=some i) (h3:i.zero=some z) (h4:i.size=size) (h5:i.bytes=bytes) (h6:z.cells.size=size) (h7:0<size)
    (v:Value) (k:Nat) (xs:List Value) (hs:a.eval s=v) (aQ:w.ownsRow base e size v k xs) (ad:Addr) (m c:Nat) (news:List Value) (hx:a.eval x = .slice (some ad) m c) (hn:news.length=m*size)
    (hc:∀ j u,news[j]? = some u->w.cell? (ad.add j)=some u) (yq:∀ u∈news,u.oneCell'=true) (b1:k+m <= maxLen) (b2:(k+m)*bytes <= 140737488355328) (b3:base <= w.heap.size)
    (hK:∀ v' w',w'.ownsRow base e size v' (k+m) (xs++news)->w.grownBy w' v.ownBlock->(∀ g,v'.ownBlock=some g->v.ownBlock=some g\/w.heap.size <= g)->wpListIn F n P ops Q rest (a.put o.dst v') w') :
    wpListIn F n P ops Q (o::rest) a w:=by
  refine wpListIn_plain hg fun K xN=>?_;obtain ⟨v',w',bg,r1,r2,r3⟩:=z9Z (P:=P) w base t o.type e i z size bytes h1 h2 h3 h4 h5 h6 h7 v k xs aQ ad m c news hn hc yq b1 b2 b3;unfold Oper.wpIn;refine ⟨?_, ?_⟩
  . simp [Oper.about,bY,resolve,Target.leads,Sem.run_pure]
  . rw [Oper.semAt_plain F _ _ (by rw [bY];intro c iB;cases iB)]
    simp [execOp,bY,resolve,invoke,builtin,hs,hx,bg,Result.andThen];exact xN _ _ (hK v' w' r1 r2 r3)
noncomputable def plsR (s:Sh):List Pl×Int:=cond (valS s 0 1) (match mpS s with | some n=>(lvS s n [] n.u.s [], 0) | none=>([], 2)) ([], 90)
def PlJ (X:List Pl)(L:Nat)(i:Nat)(C:Nat->Prop)(V:World):Prop :=
  ∃ v xs,(∀ b,C b↔(b=L\/v.ownBlock=some b))/\NB V L #[v] 45/\V.ownsRow (L+1) 50 9 v i xs /\
    ∀ (k:Nat) (p:Pl),k<i->X[k]? = some p->∃ pv sv,(∀ t,t<9->xs[k*9+t]? = (plC pv sv p.off p.b p.t)[t]?)/\x3J (fun b=>b<V.heap.size/\¬ C b) V pv p.path/\StepsS (fun b=>b<V.heap.size/\¬ C b) V sv p.st
theorem v2U (X:List Pl)(L k:Nat):Abd k (PlJ X L) where
  itk:=by
    rintro i C A B ⟨v,xs,hi,hn,ho,hx⟩ fX;refine ⟨v,xs,hi,fX.same L _ hn (.inl ((hi L).2 (.inl rfl))),v2V ho (fun g hg=>?_),fun k p hk hp=>?_⟩
    . obtain ⟨-, c,hc⟩:=x5R ho hg;exact (fX.same g _ hc (.inl ((hi g).2 (.inr hg)))).trans hc.symm
    . obtain ⟨pv,sv,h1,h2,h3⟩:=hx k p hk hp;exact ⟨pv,sv,h1,x5T (fun b hb=>⟨Nat.lt_of_lt_of_le hb.1 fX.below.size,hb.2⟩) (fun _ _ h=>fX.cell h) h2,x6E (fun b hb=>⟨Nat.lt_of_lt_of_le hb.1 fX.below.size,hb.2⟩) (fun _ _ h=>fX.cell h) h3⟩
  lt:=by
    rintro i C W ⟨v,xs,hi,hn,ho, -⟩ b hb;rcases (hi b).1 hb with rfl | h
    . exact hn.lt
    . exact z6J ho h
theorem plJ_push {X:List Pl}{L j:Nat}{C1:Nat->Prop}{Vb Vc V6:World}{v v' pv sv:Value}{xs:List Value}{p:Pl}(hi:∀ b,C1 b↔(b=L\/v.ownBlock=some b))(df:NB Vb L #[v] 45)(ho:Vb.ownsRow (L+1) 50 9 v j xs)
    (hx:∀ (k:Nat) (p:Pl),k<j->X[k]? = some p->∃ pv sv,(∀ t,t<9->xs[k*9+t]? = (plC pv sv p.off p.b p.t)[t]?)/\x3J (fun b=>b<Vb.heap.size/\¬ C1 b) Vb pv p.path/\StepsS (fun b=>b<Vb.heap.size/\¬ C1 b) Vb sv p.st)
    (hget:X[j]? = some p) (i9:x3J (fun b=>b<Vb.heap.size/\¬ C1 b) Vb pv p.path) (fu:StepsS (fun b=>b<Vb.heap.size/\¬ C1 b) Vb sv p.st) (hB:Below Vb.heap.size Vb Vc) (lE:Vc.grownBy V6 v.ownBlock)
    (bJ:V6.ownsRow (L+1) 50 9 v' (j+1) (xs++(plC pv sv p.off p.b p.t).toList)) (iJ:∀ g,v'.ownBlock=some g->v.ownBlock=some g\/Vc.heap.size <= g) :
    ∃ C',PlJ X L (j+1) C' (V6.setCell ⟨L, 0,none⟩ v')/\Kpc C1 Vb C' (V6.setCell ⟨L, 0,none⟩ v'):=by
  have sV:v.ownBlock≠some L:=fun h=>by have:=(x5R ho h).1;omega
  have aK:=hB.size;have aW:=lE.size;have eh:∀ b,b<Vb.heap.size->¬ C1 b->(V6.setCell ⟨L, 0,none⟩ v').heap[b]? = Vb.heap[b]? :=fun b hb hc=>by
    have ac:b≠L:=fun h=>hc ((hi b).2 (.inl h));rw [Below.heap_setCell _ _ _ _ ac,lE.block b (by omega) (fun h=>hc ((hi b).2 (.inr h.symm)))]
    exact hB.block b hb
  have rx:∀ b,b<Vb.heap.size->¬ C1 b->¬ (b=L\/v'.ownBlock=some b):=fun b hb hc h=>by
    rcases h with h | h
    . exact hc ((hi b).2 (.inl h))
    . rcases iJ b h with h | h
      . exact hc ((hi b).2 (.inr h))
      . omega
  have gz:KeepS (fun b=>b<Vb.heap.size/\¬ C1 b) Vb (V6.setCell ⟨L, 0,none⟩ v'):=⟨by simp;omega,fun b hb=>eh b hb.1 hb.2⟩
  have hS:∀ b,(b<Vb.heap.size/\¬ C1 b)->b<(V6.setCell ⟨L, 0,none⟩ v').heap.size/\¬ (b=L\/v'.ownBlock=some b):=fun b hb=>⟨by have:=hb.1;simp;omega,rx b hb.1 hb.2⟩
  have qq:xs.length=j*9:=ho.1;refine ⟨fun b=>b=L\/v'.ownBlock=some b,⟨v',xs++(plC pv sv p.off p.b p.t).toList,fun b=>Iff.rfl, ?_, ?_,fun k p' hk fv=>?_⟩,⟨?_,fun b hb hc=>⟨eh b hb hc,rx b hb hc⟩⟩⟩
  . have h1:=z2Z (df.below hB) lE (fun h=>sV h.symm);exact (h1.set 0 v').cast (by simp)
  . refine v2V bJ fun g hg=>?_
    have:=(x5R bJ hg).1
    exact Below.heap_setCell _ _ _ _ (by show g≠L;omega)
  . by_cases wo:k<j
    . obtain ⟨pv',sv',h1,h2,h3⟩:=hx k p' wo fv;refine ⟨pv',sv',fun t ht=>?_,x0P hS gz h2,x0R hS gz h3⟩;rw [List.getElem?_append_left (by omega)]
      exact h1 t ht
    . have rH:k=j:=by omega
      subst rH;rw [hget] at fv;cases fv;refine ⟨pv,sv,fun t ht=>?_,x0P hS gz i9,x0R hS gz fu⟩;rw [List.getElem?_append_right (by omega),show k*9+t-xs.length=t by omega]
      simp
  . have h1:Below 0 Vb Vc:=y8V hB;have h2:Below 0 Vc V6:=⟨lE.os,lE.tape,lE.output,lE.size,fun k hk=>by omega⟩
    exact (h1.trans h2).setCell (Nat.zero_le _) _
theorem plJ_pls {X:List Pl}{L:Nat}{C:Nat->Prop}{V:World}(h:PlJ X L X.length C V):∃ v,V.cell? ⟨L, 0,none⟩=some v/\v7W V v X:=by
  obtain ⟨v,xs,hi,hn,ho,hx⟩:=h;refine ⟨v,hn.cell 0, ?_⟩;have bO:∀ g,v.ownBlock=some g->∀ i u,xs[i]? = some u->V.cell? ⟨g,i,none⟩=some u:=fun g hg i u hu=>by
    have:=ho.cells hg i u hu
    rwa [z1V,Nat.zero_add] at this
  have aQ:=ho;obtain ⟨hl,⟨rfl,h0⟩ | ⟨g,cap,cur,rfl,hb,hc,aV, -⟩⟩:=ho
  . have:X=[]:=List.eq_nil_of_length_eq_zero h0;subst this;exact ⟨none, 0,rfl,Nat.le_refl _,fun h=>absurd rfl h,fun b o h=>by cases h⟩
  . refine ⟨_,cap,rfl,aV,fun _=>⟨g, 0,rfl,z6J aQ rfl⟩,fun b o ha i p hp=>?_⟩;cases ha;have rL:=(List.getElem?_eq_some_iff.1 hp).1;obtain ⟨pv,sv,h1,h2,h3⟩:=hx i p rL hp;refine ⟨pv,sv,fun t ht=>?_,x0P (fun b h=>h.1) (KeepS.refl _ _) h2,x0R (fun b h=>h.1) (KeepS.refl _ _) h3⟩;have h4:=h1 t ht;have ai:i*9+t<xs.length:=by rw [hl];omega
    have h5:xs[i*9+t]? = some xs[i*9+t]:=List.getElem?_eq_getElem ai;rw [<- h4,h5,Nat.zero_add];exact bO g rfl _ _ h5
theorem z8Y {k:Nat}{C C':Nat->Prop}{w w3 W':World}(hB:Below k w w3)(hk:Kpc C w3 C' W')(hC:∀ b,C b->k <= b)(yM:k <= w3.heap.size):Below k w W' :=
  ⟨hk.below.os.trans hB.os,hk.below.tape.trans hB.tape,hk.below.output.trans hB.output,Nat.le_trans hB.size hk.below.size,fun b hb=>(hk.same b (by omega) (fun h=>by have:=hC b h;omega)).1.trans (hB.block b hb)⟩
theorem u2Y {k D:Nat}{w W' W'':World}(h:Below k w W')(hb:Below 0 W' W'')(hs:∀ b,b∉[D]->W''.heap[b]? = W'.heap[b]?)(hD:k <= D):Below k w W'' :=
  ⟨hb.os.trans h.os,hb.tape.trans h.tape,hb.output.trans h.output,Nat.le_trans h.size hb.size,fun b cz=>(hs b (by simp;omega)).trans (h.block b cz)⟩
set_option maxHeartbeats 8000000 in
theorem z2T (s:Sh)(W w:World)(dv pv:Value)(hG:Glob W)(hs:ShAt W dv pv s)(hB:Below W.heap.size W w)(aC:okS s)(dW:scnt s <= 100) :
    Calls Tryz.prog 25 #[shV dv pv s.t s.g] w fun e w'=>(∃ v,e = .returned (.tuple #[v, .int .i64 (plsR s).2])/\v7W w' v (plsR s).1)/\Below w.heap.size w w':=by
  have hn:=fun w hB=>y5N s W w dv pv hG hs hB aC dW;obtain ⟨a1,c1,a2,c2,rfl,rfl⟩:=hs.slices;obtain ⟨⟨X,er0⟩,sQ⟩:∃ PR,plsR s=PR:=⟨_,rfl⟩;rw [sQ];have o9:Hid (plsR s=(X,er0)):=sQ;clear sQ;simp only;refine (callsIn_wide (n:= 0)).1 (callsIn_of_wp_marks Tryz.func25 rfl trivial ?_ rfl);refine wpIn_wide.2 ?_;simp only [Tryz.ntmps25,List.size_toArray,List.length_cons,List.length_nil,Nat.reduceAdd,Nat.reduceSub,Array.replicate_succ,Array.replicate_zero,List.push_toArray,List.append_toArray,List.nil_append,List.cons_append];have au:Below w.heap.size w (w.alloc (.cells #[.slice a1 s.D.length c1, .slice a2 s.P.length c2, .int .i64 s.t.k, .int .i64 s.t.p, .int .i64 s.t.q, .bool s.t.v, .string s.t.pic, .bool s.g] 27)):=(Below.refl _ w).alloc (Nat.le_refl _) _
  go_wp2_with (go_at_call 97;fail)
  refine (hn _ (hB.trans (au.mono hB.size))).mono ?_;rintro e w2 ⟨cf,hb⟩;have aB:=au.trans (hb.mono au.size);have dY:=aB.size;clear hb hn;have key:(∃ er,e = .returned (.tuple #[.pointer none, .int .i64 er])/\er≠0/\X=[]/\er0=er)\/(∃ B n,e = .returned (.tuple #[.pointer (some ⟨B, 0,none⟩), .int .i64 0])/\w2.cell? ⟨B, 8,none⟩=some (.int .i64 n.u.s)/\x1T (fun b=>b<w2.heap.size) w2 B s n/\mpS s=some n/\valS s 0 1=true/\lvS s n [] n.u.s []=X/\er0=0):=by
    have h1:=o9.out;unfold WhOk at cf;unfold plsR at h1;cases hv:valS s 0 1
    . rw [hv,if_neg (by simp)] at cf
      rw [hv] at h1;cases h1;exact .inl ⟨_,cf,by decide,rfl,rfl⟩
    . rw [hv,if_pos rfl] at cf;rw [hv] at h1;cases hm:mpS s with
      | none =>
        rw [hm] at cf h1;cases h1;exact .inl ⟨_,cf,by decide,rfl,rfl⟩
      | some n =>
        rw [hm] at cf h1;obtain ⟨B,h,u0,u1,u2,bM⟩:=cf;cases h1;exact .inr ⟨B,n,h,u0,bM,rfl,rfl,rfl,rfl⟩
  clear cf o9;rcases key with ⟨er,rfl,ui,rfl,rfl⟩ | ⟨B,n,rfl,u0,hN,hm,hv,hX,rfl⟩
  . go_wp2;refine x5E [] w2 List.nodup_nil (fun D hD=>by cases hD) fun W' cz bn=>?_
    refine ⟨_,results_tmp2 rfl _ _ _,⟨_,rfl,none, 0,rfl,Nat.le_refl _,fun h=>absurd rfl h,fun b o h=>by cases h⟩, ?_⟩
    exact ⟨cz.os.trans aB.os,cz.tape.trans aB.tape,cz.output.trans aB.output,Nat.le_trans aB.size cz.size,fun b hb=>(bn b (by simp)).trans (aB.block b hb)⟩
  . have bZ:=x5S s 0 1 hv n hm;have mT:0 <= n.u.s/\n.u.s <= 524352:=by
      obtain ⟨h1,h2,h3,h4,h5⟩:=bZ
      have:=x3L h1
      omega
    have tX:X.length <= 100:=by
      have:=v4U s n [] n.u.s []
      rw [hX] at this;omega
    obtain ⟨us,mS⟩:∃ us,n.u.s=us:=⟨_,rfl⟩;rw [mS] at u0 mT hX;have uF:Hid (lvS s n [] us []=X):=hX;have tS:Hid (mpS s=some n/\valS s 0 1=true):=⟨hm,hv⟩;have cW:B<w2.heap.size:=World.block_lt_of_cell? _ _ u0;clear hX hm hv mS bZ
    go_wp2_with (go_at_call 98;fail)
    refine (y3P B none none 0 0 0 0 us _).mono ?_;rintro e w4 ⟨rfl,gn⟩;go_wp2;obtain ⟨z,hz⟩:∃ z,w2.heap.size=z:=⟨_,rfl⟩;obtain ⟨wq,jJ⟩:∃ wq,(((((w2.alloc (.cells #[.slice none 0 0] 45)).alloc (.cells #[.pointer (some ⟨B, 0,none⟩)] 128)).alloc (.cells #[.slice none 0 0] 32)).alloc (.cells #[.int .i64 us] 3)).alloc (.cells #[.slice none 0 0] 48))=wq:=⟨_,rfl⟩;rw [jJ,hz];have vL:NB wq z #[.slice none 0 0] 45:=by
      rw [<- jJ];exact (((y1D hz.symm).alloc _ |>.alloc _).alloc _).alloc _
    have dd:NB wq (z+1) #[.pointer (some ⟨B, 0,none⟩)] 128:=by
      rw [<- jJ];exact (((y1D (by simp [hz])).alloc _).alloc _).alloc _
    have dT:NB wq (z+1+1) #[.slice none 0 0] 32:=by
      rw [<- jJ];exact ((y1D (by simp [hz])).alloc _).alloc _
    have kS:NB wq (z+1+2) #[.int .i64 us] 3:=by
      rw [<- jJ];exact (y1D (by simp [hz])).alloc _
    have pO:NB wq (z+1+3) #[.slice none 0 0] 48:=by
      rw [<- jJ];exact y1D (by simp [hz])
    have tf:Below w2.heap.size w2 wq:=by
      rw [<- jJ];exact (((((Below.refl _ w2).alloc (Nat.le_refl _) _).alloc (by simp) _).alloc (by simp;omega) _).alloc (by simp;omega) _).alloc (by simp;omega) _
    have vD:=tf.size;clear jJ;refine z5X (s:=s) (n:=n) (dm:= 0) (lv:= 1) (path:=[]) (off:=us) (st:=[]) (C:=fun b=>b=z) (J:=PlJ X z) (pv:= .slice none 0 0) (sv:= .slice none 0 0) (B:=B) (b1:=z+1) (b2:=z+1+3) (b3:=z+1+1) (b4:=z+1+2) tS.out.1 tS.out.2 (Int.le_refl 0) aC (by omega) (by omega) (by simp) (by simp)
      (x1G (fun b hb=>⟨by omega,by omega⟩) (KeepS.below tf fun b hb=>hb) hN) ⟨dd.cell 0,by omega⟩ ⟨pO.cell 0,by omega⟩ ⟨dT.cell 0,by omega⟩ ⟨kS.cell 0,by omega⟩
      ⟨none, 0,rfl,⟨fun _=>rfl,Nat.le_refl _⟩,fun h=>absurd rfl h,fun b o h=>by cases h⟩ (StepsS.nil _ _) (v2U X z _) ⟨.slice none 0 0,[],fun b=>by simp [Value.ownBlock],vL,World.ownsRow_nil _ _ _ _,fun k p hk=>absurd hk (by omega)⟩ rfl rfl ?body ?fin
    case body =>
      intro fn m j x C1 V p hget hj nN sH o8;rw [uF.out] at hget;obtain ⟨pv0,sv0,rfl,i9,fu⟩:=o8;obtain ⟨a,c,rfl⟩:∃ a c,pv0 = .slice a p.path.length c:=by obtain ⟨a,c,h, -⟩:=i9;exact ⟨a,c,h⟩
      obtain ⟨a',c',rfl⟩:=fu.form;have iC:=x2F sH;have mK:Below V.heap.size V (V.alloc (.cells (plC (.slice a p.path.length c) (.slice a' p.st.length c') p.off p.b p.t) 50)):=(Below.refl _ V).alloc (Nat.le_refl _) _;have qg:=(mK.block _ iC).trans sH;obtain ⟨i1,cy,ce,aK,bW⟩:=x6T info50
      gi_wp2
      refine ⟨mK, ?_⟩;generalize fE:(V.alloc (.cells (plC (.slice a p.path.length c) (.slice a' p.st.length c') p.off p.b p.t) 50)).putObj (wq.heap.size+1) _=Vb;have fm:Itk wq.heap.size C1 V Vb:=by
        rw [<- fE];exact (Itk.of_below mK).trans (Itk.putObj qg nN (by omega) rfl)
      have eu:NB Vb V.heap.size (plC (.slice a p.path.length c) (.slice a' p.st.length c') p.off p.b p.t) 50:=by
        rw [<- fE];exact (World.putObj_heap_other (by omega)).trans (NB.here V _ 50)
      have fI:=fm.below.size;obtain ⟨v,xs,hi,df,ho,hx⟩:=(v2U X z wq.heap.size).itk _ _ _ _ hj fm;have qU:x3J (fun b=>b<Vb.heap.size/\¬ C1 b) Vb _ p.path:=x5T (fun b hb=>⟨by omega,hb.2⟩) (fun _ _ h=>fm.cell h) i9
      have qP:StepsS (fun b=>b<Vb.heap.size/\¬ C1 b) Vb _ p.st:=x6E (fun b hb=>⟨by omega,hb.2⟩) (fun _ _ h=>fm.cell h) fu
      obtain ⟨va,vc,rfl⟩:=x5Q ho;obtain ⟨r0,r1,r2,r3,r4,r5,r6,r7,r8,rf⟩:=x3V eu;have k0:Vb.cell? ⟨z, 0,none⟩=some (.slice va j vc):=df.cell 0;have kf:=df.frozen 0;have yu:=df.lt;have fW:j<X.length:=(List.getElem?_eq_some_iff.1 hget).1;have mJ:Below Vb.heap.size Vb (Vb.alloc (.cells (plC (.slice a p.path.length c) (.slice a' p.st.length c') p.off p.b p.t) 50)):=(Below.refl _ Vb).alloc (Nat.le_refl _) _;have mA:NB (Vb.alloc (.cells (plC (.slice a p.path.length c) (.slice a' p.st.length c') p.off p.b p.t) 50)) Vb.heap.size (plC (.slice a p.path.length c) (.slice a' p.st.length c') p.off p.b p.t) 50:=NB.here Vb _ 50;clear fE sH qg;have sV:some z≠(Value.slice va j vc).ownBlock:=fun h=>by have:=(x5R ho h.symm).1;omega
      have gg:∀ i u,(plC (.slice a p.path.length c) (.slice a' p.st.length c') p.off p.b p.t).toList[i]? = some u->(Vb.alloc (.cells (plC (.slice a p.path.length c) (.slice a' p.st.length c') p.off p.b p.t) 50)).cell? ((⟨Vb.heap.size, 0,none⟩:Addr).add i)=some u:=fun i u hu=>by
        rw [z1V,Nat.zero_add,mA.cell i]
        simpa using hu
      gi_wp2_with (gi_at_builtin;refine z5E _ rfl (.tmp 24) (.tmp 26) 45 rfl (z+1) 50 i1 _ 9 112 Tryz.underlying45 cy ce aK bW rfl (by decide) (.slice va j vc) j xs rfl (x2Z ho mJ) ⟨Vb.heap.size, 0,none⟩ 1 1 (plC (.slice a p.path.length c) (.slice a' p.st.length c') p.off p.b p.t).toList rfl rfl gg (plc_one _ _ rfl rfl _ _ _) (by unfold maxLen;omega) (by omega) (by simp;omega) ?_;intro v' w6 bJ aw ca;obtain ⟨vg,vcap,rfl⟩:=y4R bJ (by omega);have gv:=z2Z (df.below mJ) aw sV;have k6:=gv.cell 0;have kf6:=gv.frozen 0)
      exact plJ_push hi df ho hx hget qU qP mJ aw bJ ca
    case fin =>
      intro W' C' hj hk hD yF;rw [uF.out] at hj;obtain ⟨v,vy,qR⟩:=plJ_pls hj;have qm:=World.block_lt_of_cell? _ _ vy;simp only at qm;dsimp only;go_wp2;refine x5E [wq.heap.size] W' (by simp) (fun D uQ=>by simp at uQ;subst uQ;exact hD) fun W'' cz bn=>?_
      have gg:∀ p u,W'.cell? p=some u->W''.cell? p=some u:=fun p u hp=>by
        rw [World.cell?_of_block (w:=W') (bn p.block (fun cF=>by
          simp at cF;obtain ⟨o,ho,hc⟩:=y1S hp;rw [cF,hD] at ho;cases ho;cases hc))]
        exact hp
      refine ⟨_,results_tmp2 rfl _ _ _,⟨_,rfl,z0K (fun b hb=>Nat.lt_of_lt_of_le hb cz.size) gg qR⟩, ?_⟩;exact u2Y (z8Y (aB.trans (tf.mono dY)) hk (fun b hb=>by omega) (by omega)) cz bn (by omega)
end Go.Proofs
