/-
  whole, Check, Map of the layout, walked.; Places of the layout, walked.; ContainsFunc over a list of steps, walked: no step has it.
-/
import Derived.Test.YtadehgdfijjikaaGreatDoorS10
import Derived.Test.YtadehgdfijjikaaGreatDoorS9
import Derived.OwnWalkIn
import Derived.Test.YtadehgdfijjikaaGreatDoorS7
import Derived.Test.YtadehgdfijjikaaGreatDoorZ7
set_option linter.all false
namespace Go.Proofs
open Go.RowKit Go.Yec Go.Shp Go.Deep
open Go.Xec (Glob)
theorem map_any:∀ (s:Sh) (W:World) (dm lv:Int),Glob W->okS s->0 <= dm->valS s dm lv=true->∀ (w:World) (dv pv:Value),ShAt W dv pv s->Below W.heap.size W w ->
    Calls Tryz.prog 149 #[shV dv pv s.t s.g] w fun e w'=>MpOk W s w w' e (mpS s)/\Below w.heap.size w w':=by
  intro s
  induction s using Sh.ind with
  | h D P t g ih =>
    intro W dm lv hG hok hd0 hv w dv pv hs hB;obtain ⟨h3,hlv,hd,ht,hP⟩:=x2L hv;obtain ⟨hl10,hP100,hpic,hokP⟩:=hok;exact map_one D P t g W w dv pv hG hs hB hpic hP100 hd (by omega) (fun h=>(ht h).1)
      (fun s hs' w dv pv hsh hBw=>ih s hs' W _ _ hG (y0S hokP s hs') (by omega) (hP s hs') w dv pv hsh hBw)
      (fun s hs' n hn=>x6P s _ _ (hP s hs') n hn)
def WhOk (w w':World) (s:Sh) (e:Ending):Prop :=
  if valS s 0 1=true then (match mpS s with
    | none=>e = .returned (.tuple #[.pointer none, .int .i64 2])
    | some n=> ∃ B,e = .returned (.tuple #[.pointer (some ⟨B, 0,none⟩), .int .i64 0])/\w'.cell? ⟨B, 8,none⟩=some (.int .i64 n.u.s)/\w'.cell? ⟨B, 9,none⟩=some (.int .i64 n.u.b)/\w'.cell? ⟨B, 10,none⟩=some (.int .i64 n.u.a)/\x2D (fun b=>b<w'.heap.size) w' B s n)
  else e = .returned (.tuple #[.pointer none, .int .i64 90])
set_option maxRecDepth 100000 in
set_option maxHeartbeats 4000000 in
theorem z5G (s:Sh) (W w:World) (dv pv:Value) (hG:Glob W) (hs:ShAt W dv pv s) (hB:Below W.heap.size W w) (hok:okS s) (hct:scnt s <= 100) :
    Calls Tryz.prog 97 #[shV dv pv s.t s.g] w fun e w'=>WhOk w w' s e/\Below w.heap.size w w':=by
  have hn:=fun w hB=>v2N s W w dv pv hG hs hB hok hct;have hu:=fun hv w hB=>map_any s W 0 1 hG hok (by omega) hv w dv pv hs hB
  obtain ⟨a1,c1,a2,c2,rfl,rfl⟩:=hs.slices;have hx:=ShBox.here w (.slice a1 s.D.length c1) (.slice a2 s.P.length c2) s.t s.g;have hB1:Below w.heap.size w (w.alloc (.cells #[.slice a1 s.D.length c1, .slice a2 s.P.length c2, .int .i64 s.t.k, .int .i64 s.t.p, .int .i64 s.t.q, .bool s.t.v, .string s.t.pic, .bool s.g] 27)):=(Below.refl _ w).alloc (Nat.le_refl _) _;go_enter Tryz.func97,Tryz.ntmps97
  go_wp2_with (go_at_call 148; fail)
  refine (hn _ (hB.trans (hB1.mono hB.size))).mono ?_;rintro e w2 ⟨rfl,hb⟩;have hx2:=hx.below hb;have hB2:=hB1.trans (hb.mono hB1.size);clear hb hn hx;obtain ⟨l0,k0,k1,k2,k3,k4,k5,k6,k7⟩:=id hx2
  by_cases hv:valS s 0 1=true
  . have hu':=fun w hB=>hu hv w hB;have hvH:Hid (valS s 0 1=true):=hv;clear hu
    go_wp2_with (go_at_call 149; fail)
    refine (hu' _ (hB.trans (hB2.mono hB.size))).mono ?_;rintro e w3 ⟨huo,hb⟩;have hB3:=hB2.trans (hb.mono hB2.size);clear hb hu' k0 k1 k2 k3 k4 k5 k6 k7 hv;cases hm:mpS s with
    | none =>
      rw [hm] at huo;obtain rfl:=huo;have hmH:Hid (mpS s=none):=hm;clear hm;go_wp2
      go_ret2
      exact ⟨by unfold WhOk; rw [if_pos hvH.out,hmH.out]; rfl,hB3⟩
    | some n =>
      rw [hm] at huo;obtain ⟨B,rfl,hB0,u0,u1,u2,hnd⟩:=huo;have hnd':x2D (fun b=>b<w3.heap.size) w3 B s n:=x1G (fun b h=>by have:=hB.size; have:=hB3.size; omega) (KeepS.refl _ _) hnd
      clear hnd;have hmH:Hid (mpS s=some n):=hm;clear hm;go_wp2
      go_ret2
      exact ⟨by unfold WhOk; rw [if_pos hvH.out,hmH.out]; exact ⟨B,rfl,u0,u1,u2,hnd'⟩,hB3⟩
  . have hvf:valS s 0 1=false:=by simpa using hv
    have hvH:Hid (¬ valS s 0 1=true):=hv;clear hv hu;go_wp2
    go_ret2
    exact ⟨by unfold WhOk; rw [if_neg hvH.out]; rfl,hB2⟩
set_option maxRecDepth 100000 in
set_option maxHeartbeats 4000000 in
theorem u8Z (s:Sh) (W w:World) (dv pv:Value) (hG:Glob W) (hs:ShAt W dv pv s) (hB:Below W.heap.size W w) (hok:okS s) (hct:scnt s <= 100) :
    Calls Tryz.prog 24 #[shV dv pv s.t s.g] w fun e w'=>e = .returned (.tuple #[unV (mapR s).1, .int .i64 (mapR s).2])/\Below w.heap.size w w':=by
  have hn:=fun w hB=>z5G s W w dv pv hG hs hB hok hct;obtain ⟨a1,c1,a2,c2,rfl,rfl⟩:=hs.slices;have hub:UBox ((w.alloc (.cells #[.slice a1 s.D.length c1, .slice a2 s.P.length c2, .int .i64 s.t.k, .int .i64 s.t.p, .int .i64 s.t.q, .bool s.t.v, .string s.t.pic, .bool s.g] 27)).alloc (.cells #[.int .i64 0, .int .i64 0, .int .i64 0] 42)) (w.heap.size+1) (.int .i64 0) (.int .i64 0) (.int .i64 0):=by
    simpa using UBox.here (w.alloc (.cells #[.slice a1 s.D.length c1, .slice a2 s.P.length c2, .int .i64 s.t.k, .int .i64 s.t.p, .int .i64 s.t.q, .bool s.t.v, .string s.t.pic, .bool s.g] 27)) (.int .i64 0) (.int .i64 0) (.int .i64 0) 42
  have hB1:Below w.heap.size w ((w.alloc (.cells #[.slice a1 s.D.length c1, .slice a2 s.P.length c2, .int .i64 s.t.k, .int .i64 s.t.p, .int .i64 s.t.q, .bool s.t.v, .string s.t.pic, .bool s.g] 27)).alloc (.cells #[.int .i64 0, .int .i64 0, .int .i64 0] 42)):=((Below.refl _ w).alloc (Nat.le_refl _) _).alloc (by simp) _
  generalize hMR:mapR s=MR;have hMH:Hid (mapR s=MR):=hMR;clear hMR;go_enter Tryz.func24,Tryz.ntmps24
  go_wp2_with (go_at_call 97; fail)
  refine (hn _ (hB.trans (hB1.mono hB.size))).mono ?_;rintro e w2 ⟨hwo,hb⟩;have hub2:=hub.below hb;have hB2:=hB1.trans (hb.mono hB1.size);clear hb hn hub hB1;obtain ⟨l1,m0,m1,m2,m3,m4,m5⟩:=id hub2;have key:(∃ er,e = .returned (.tuple #[.pointer none, .int .i64 er])/\er≠0/\MR=(⟨0, 0, 0⟩,er))\/(∃ B u,e = .returned (.tuple #[.pointer (some ⟨B, 0,none⟩), .int .i64 0])/\MR=(u, 0)/\w2.cell? ⟨B, 8,none⟩=some (.int .i64 u.s)/\w2.cell? ⟨B, 9,none⟩=some (.int .i64 u.b)/\w2.cell? ⟨B, 10,none⟩=some (.int .i64 u.a)):=by
    have h1:=hMH.out;unfold WhOk at hwo;unfold mapR at h1;cases hv:valS s 0 1
    . rw [hv,if_neg (by simp)] at hwo
      rw [hv] at h1;exact .inl ⟨_,hwo,by decide,h1.symm⟩
    . rw [hv,if_pos rfl] at hwo;rw [hv] at h1;cases hm:mpS s with
      | none =>
        rw [hm] at hwo h1;exact .inl ⟨_,hwo,by decide,h1.symm⟩
      | some n =>
        rw [hm] at hwo h1;obtain ⟨B,h,u0,u1,u2, -⟩:=hwo;exact .inr ⟨B,n.u,h,h1.symm,u0,u1,u2⟩
  clear hwo hMH;rcases key with ⟨er,rfl,her,rfl⟩ | ⟨B,⟨us,ub,ua⟩,rfl,rfl,u0,u1,u2⟩
  . go_wp2;refine bodyPost_ret (v:= .tuple #[.agg #[.int .i64 0, .int .i64 0, .int .i64 0], .int .i64 er]) (by rw [results_cell_tmp rfl]; go_simp) rfl ⟨rfl,x1V hB2 (by omega)⟩
  . simp only at u0 u1 u2;go_wp2;refine bodyPost_ret (v:= .tuple #[.agg #[.int .i64 us, .int .i64 ub, .int .i64 ua], .int .i64 0]) (by rw [results_cell_tmp rfl]; go_simp) rfl ⟨rfl,x1V hB2 (by omega)⟩
end Go.Proofs
namespace Go.Proofs
open Go.RowKit Go.Yec Go.Shp Go.Deep
open Go.Xec (Glob)
attribute [local go_sem] Oper.semAt_some
theorem info50:(Tryz.prog.info? 50).map (fun i=>(i.zero,i.size,i.bytes))=some (some (.agg #[.slice none 0 0, .int .i64 0, .slice none 0 0, .int .i64 0, .int .i64 0, .int .i64 0, .int .i64 0, .bool false, .string ⟨#[]⟩]), 9, 112):=by kernel_rfl
theorem z5F {F:Fence} {n:Nat} {P:Program} (w:World) {ops:Array Oper} {rest:List Oper} {o:Oper} {a:Act} {Q:Exit->Act->World->Prop}
    (hg:o.guard=none) (s x:Operand) (t:TypeId) (hop:o.op=Op.call { callee:=Callee.builtin Builtin.append,args:= #[s,x],argTypes:= #[t,t] })
    (base:Nat) (e:TypeId) (i:TypeInfo) (z:Value) (size bytes:Nat) (h1:P.underlying t=some (.slice e)) (h2:P.info? e=some i) (h3:i.zero=some z) (h4:i.size=size) (h5:i.bytes=bytes) (h6:z.cells.size=size) (h7:0<size)
    (v:Value) (k:Nat) (xs:List Value) (hs:a.eval s=v) (hown:w.ownsRow base e size v k xs) (ad:Addr) (m c:Nat) (news:List Value) (hx:a.eval x = .slice (some ad) m c) (hn:news.length=m*size)
    (hc:∀ j u,news[j]? = some u->w.cell? (ad.add j)=some u) (h1c:∀ u∈news,u.oneCell'=true) (b1:k+m <= maxLen) (b2:(k+m)*bytes <= 140737488355328) (b3:base <= w.heap.size)
    (hK:∀ v' w',w'.ownsRow base e size v' (k+m) (xs++news)->w.grownBy w' v.ownBlock->(∀ g,v'.ownBlock=some g->v.ownBlock=some g\/w.heap.size <= g)->wpListIn F n P ops Q rest (a.put o.dst v') w') :
    wpListIn F n P ops Q (o::rest) a w:=by
  refine wpListIn_plain hg fun K hK'=> ?_;obtain ⟨v',w',hrun,r1,r2,r3⟩:=u0E (P:=P) w base t o.type e i z size bytes h1 h2 h3 h4 h5 h6 h7 v k xs hown ad m c news hn hc h1c b1 b2 b3;unfold Oper.wpIn;refine ⟨?_, ?_⟩
  . simp [Oper.about,hop,resolve,Target.leads,Sem.run_pure]
  . rw [Oper.semAt_plain F _ _ (by rw [hop]; intro c hc'; cases hc')]
    simp [execOp,hop,resolve,invoke,builtin,hs,hx,hrun,Result.andThen];exact hK' _ _ (hK v' w' r1 r2 r3)
noncomputable def plsR (s:Sh):List Pl×Int:=cond (valS s 0 1) (match mpS s with | some n=>(lvS s n [] n.u.s [], 0) | none=>([], 2)) ([], 90)
def PlJ (X:List Pl) (L:Nat) (i:Nat) (C:Nat->Prop) (V:World):Prop :=
  ∃ v xs,(∀ b,C b↔(b=L\/v.ownBlock=some b))/\NB V L #[v] 45/\V.ownsRow (L+1) 50 9 v i xs /\
    ∀ (k:Nat) (p:Pl),k<i->X[k]? = some p->∃ pv sv,(∀ t,t<9->xs[k*9+t]? = (plC pv sv p.off p.b p.t)[t]?)/\x3K (fun b=>b<V.heap.size/\¬ C b) V pv p.path/\StepsS (fun b=>b<V.heap.size/\¬ C b) V sv p.st
theorem v4B (X:List Pl) (L k:Nat):Abd k (PlJ X L) where
  itk:=by
    rintro i C A B ⟨v,xs,hi,hn,ho,hx⟩ hit;refine ⟨v,xs,hi,hit.same L _ hn (.inl ((hi L).2 (.inl rfl))),v4C ho (fun g hg=> ?_),fun k p hk hp=> ?_⟩
    . obtain ⟨-, c,hc⟩:=x5P ho hg;exact (hit.same g _ hc (.inl ((hi g).2 (.inr hg)))).trans hc.symm
    . obtain ⟨pv,sv,h1,h2,h3⟩:=hx k p hk hp;exact ⟨pv,sv,h1,x5Q (fun b hb=>⟨Nat.lt_of_lt_of_le hb.1 hit.below.size,hb.2⟩) (fun _ _ h=>hit.cell h) h2,x6B (fun b hb=>⟨Nat.lt_of_lt_of_le hb.1 hit.below.size,hb.2⟩) (fun _ _ h=>hit.cell h) h3⟩
  lt:=by
    rintro i C W ⟨v,xs,hi,hn,ho, -⟩ b hb;rcases (hi b).1 hb with rfl | h
    . exact hn.lt
    . exact z6L ho h
theorem plJ_push {X:List Pl} {L j:Nat} {C1:Nat->Prop} {Vb Vc V6:World} {v v' pv sv:Value} {xs:List Value} {p:Pl} (hi:∀ b,C1 b↔(b=L\/v.ownBlock=some b)) (hnb:NB Vb L #[v] 45) (ho:Vb.ownsRow (L+1) 50 9 v j xs)
    (hx:∀ (k:Nat) (p:Pl),k<j->X[k]? = some p->∃ pv sv,(∀ t,t<9->xs[k*9+t]? = (plC pv sv p.off p.b p.t)[t]?)/\x3K (fun b=>b<Vb.heap.size/\¬ C1 b) Vb pv p.path/\StepsS (fun b=>b<Vb.heap.size/\¬ C1 b) Vb sv p.st)
    (hget:X[j]? = some p) (hpi:x3K (fun b=>b<Vb.heap.size/\¬ C1 b) Vb pv p.path) (hps:StepsS (fun b=>b<Vb.heap.size/\¬ C1 b) Vb sv p.st) (hB:Below Vb.heap.size Vb Vc) (hgr:Vc.grownBy V6 v.ownBlock)
    (ho6:V6.ownsRow (L+1) 50 9 v' (j+1) (xs++(plC pv sv p.off p.b p.t).toList)) (hnn:∀ g,v'.ownBlock=some g->v.ownBlock=some g\/Vc.heap.size <= g) :
    ∃ C',PlJ X L (j+1) C' (V6.setCell ⟨L, 0,none⟩ v')/\Kpc C1 Vb C' (V6.setCell ⟨L, 0,none⟩ v'):=by
  have hLo:v.ownBlock≠some L:=fun h=>by have:=(x5P ho h).1; omega
  have hs1:=hB.size;have hs2:=hgr.size;have hsame:∀ b,b<Vb.heap.size->¬ C1 b->(V6.setCell ⟨L, 0,none⟩ v').heap[b]? = Vb.heap[b]? :=fun b hb hc=>by
    have hne:b≠L:=fun h=>hc ((hi b).2 (.inl h));rw [Below.heap_setCell _ _ _ _ hne,hgr.block b (by omega) (fun h=>hc ((hi b).2 (.inr h.symm)))]
    exact hB.block b hb
  have hnC:∀ b,b<Vb.heap.size->¬ C1 b->¬ (b=L\/v'.ownBlock=some b):=fun b hb hc h=>by
    rcases h with h | h
    . exact hc ((hi b).2 (.inl h))
    . rcases hnn b h with h | h
      . exact hc ((hi b).2 (.inr h))
      . omega
  have hkS:KeepS (fun b=>b<Vb.heap.size/\¬ C1 b) Vb (V6.setCell ⟨L, 0,none⟩ v'):=⟨by simp; omega,fun b hb=>hsame b hb.1 hb.2⟩
  have hS:∀ b,(b<Vb.heap.size/\¬ C1 b)->b<(V6.setCell ⟨L, 0,none⟩ v').heap.size/\¬ (b=L\/v'.ownBlock=some b):=fun b hb=>⟨by have:=hb.1; simp; omega,hnC b hb.1 hb.2⟩
  have hxl:xs.length=j*9:=ho.1;refine ⟨fun b=>b=L\/v'.ownBlock=some b,⟨v',xs++(plC pv sv p.off p.b p.t).toList,fun b=>Iff.rfl, ?_, ?_,fun k p' hk hp'=> ?_⟩,⟨?_,fun b hb hc=>⟨hsame b hb hc,hnC b hb hc⟩⟩⟩
  . have h1:=z2X (hnb.below hB) hgr (fun h=>hLo h.symm);exact (h1.set 0 v').cast (by simp)
  . refine v4C ho6 fun g hg=> ?_
    have:=(x5P ho6 hg).1
    exact Below.heap_setCell _ _ _ _ (by show g≠L; omega)
  . by_cases hkj:k<j
    . obtain ⟨pv',sv',h1,h2,h3⟩:=hx k p' hkj hp';refine ⟨pv',sv',fun t ht=> ?_,x0U hS hkS h2,x1F hS hkS h3⟩;rw [List.getElem?_append_left (by omega)]
      exact h1 t ht
    . have hkj':k=j:=by omega
      subst hkj';rw [hget] at hp';cases hp';refine ⟨pv,sv,fun t ht=> ?_,x0U hS hkS hpi,x1F hS hkS hps⟩;rw [List.getElem?_append_right (by omega),show k*9+t-xs.length=t by omega]
      simp
  . have h1:Below 0 Vb Vc:=y8S hB;have h2:Below 0 Vc V6:=⟨hgr.os,hgr.tape,hgr.output,hgr.size,fun k hk=>by omega⟩
    exact (h1.trans h2).setCell (Nat.zero_le _) _
theorem plJ_pls {X:List Pl} {L:Nat} {C:Nat->Prop} {V:World} (h:PlJ X L X.length C V):∃ v,V.cell? ⟨L, 0,none⟩=some v/\v7Z V v X:=by
  obtain ⟨v,xs,hi,hn,ho,hx⟩:=h;refine ⟨v,hn.cell 0, ?_⟩;have hcell:∀ g,v.ownBlock=some g->∀ i u,xs[i]? = some u->V.cell? ⟨g,i,none⟩=some u:=fun g hg i u hu=>by
    have:=ho.cells hg i u hu
    rwa [u8G,Nat.zero_add] at this
  have hown:=ho;obtain ⟨hl,⟨rfl,h0⟩ | ⟨g,cap,cur,rfl,hb,hc,hle, -⟩⟩:=ho
  . have:X=[]:=List.eq_nil_of_length_eq_zero h0;subst this;exact ⟨none, 0,rfl,Nat.le_refl _,fun h=>absurd rfl h,fun b o h=>by cases h⟩
  . refine ⟨_,cap,rfl,hle,fun _=>⟨g, 0,rfl,z6L hown rfl⟩,fun b o ha i p hp=> ?_⟩;cases ha;have hilt:=(List.getElem?_eq_some_iff.1 hp).1;obtain ⟨pv,sv,h1,h2,h3⟩:=hx i p hilt hp;refine ⟨pv,sv,fun t ht=> ?_,x0U (fun b h=>h.1) (KeepS.refl _ _) h2,x1F (fun b h=>h.1) (KeepS.refl _ _) h3⟩;have h4:=h1 t ht;have hlt:i*9+t<xs.length:=by rw [hl]; omega
    have h5:xs[i*9+t]? = some xs[i*9+t]:=List.getElem?_eq_getElem hlt;rw [<- h4,h5,Nat.zero_add];exact hcell g rfl _ _ h5
theorem z8V {k:Nat} {C C':Nat->Prop} {w w3 W':World} (hB:Below k w w3) (hk:Kpc C w3 C' W') (hC:∀ b,C b->k <= b) (hkw:k <= w3.heap.size):Below k w W' :=
  ⟨hk.below.os.trans hB.os,hk.below.tape.trans hB.tape,hk.below.output.trans hB.output,Nat.le_trans hB.size hk.below.size,fun b hb=>(hk.same b (by omega) (fun h=>by have:=hC b h; omega)).1.trans (hB.block b hb)⟩
theorem u2Y {k D:Nat} {w W' W'':World} (h:Below k w W') (hb:Below 0 W' W'') (hs:∀ b,b∉[D]->W''.heap[b]? = W'.heap[b]?) (hD:k <= D):Below k w W'' :=
  ⟨hb.os.trans h.os,hb.tape.trans h.tape,hb.output.trans h.output,Nat.le_trans h.size hb.size,fun b hb'=>(hs b (by simp; omega)).trans (h.block b hb')⟩
set_option maxRecDepth 100000 in
set_option maxHeartbeats 8000000 in
theorem z2S (s:Sh) (W w:World) (dv pv:Value) (hG:Glob W) (hs:ShAt W dv pv s) (hB:Below W.heap.size W w) (hok:okS s) (hct:scnt s <= 100) :
    Calls Tryz.prog 25 #[shV dv pv s.t s.g] w fun e w'=>(∃ v,e = .returned (.tuple #[v, .int .i64 (plsR s).2])/\v7Z w' v (plsR s).1)/\Below w.heap.size w w':=by
  have hn:=fun w hB=>z5G s W w dv pv hG hs hB hok hct;obtain ⟨a1,c1,a2,c2,rfl,rfl⟩:=hs.slices;obtain ⟨⟨X,er0⟩,hPR⟩:∃ PR,plsR s=PR:=⟨_,rfl⟩;rw [hPR];have hPRH:Hid (plsR s=(X,er0)):=hPR;clear hPR;simp only;refine (callsIn_wide (n:= 0)).1 (callsIn_of_wp_marks Tryz.func25 rfl trivial ?_ rfl);refine wpIn_wide.2 ?_;simp only [Tryz.ntmps25,List.size_toArray,List.length_cons,List.length_nil,Nat.reduceAdd,Nat.reduceSub,Array.replicate_succ,Array.replicate_zero,List.push_toArray,List.append_toArray,List.nil_append,List.cons_append];have hB1:Below w.heap.size w (w.alloc (.cells #[.slice a1 s.D.length c1, .slice a2 s.P.length c2, .int .i64 s.t.k, .int .i64 s.t.p, .int .i64 s.t.q, .bool s.t.v, .string s.t.pic, .bool s.g] 27)):=(Below.refl _ w).alloc (Nat.le_refl _) _
  go_wp2_with (go_at_call 97; fail)
  refine (hn _ (hB.trans (hB1.mono hB.size))).mono ?_;rintro e w2 ⟨hwo,hb⟩;have hB2:=hB1.trans (hb.mono hB1.size);have hsz2:=hB2.size;clear hb hn;have key:(∃ er,e = .returned (.tuple #[.pointer none, .int .i64 er])/\er≠0/\X=[]/\er0=er)\/(∃ B n,e = .returned (.tuple #[.pointer (some ⟨B, 0,none⟩), .int .i64 0])/\w2.cell? ⟨B, 8,none⟩=some (.int .i64 n.u.s)/\x2D (fun b=>b<w2.heap.size) w2 B s n/\mpS s=some n/\valS s 0 1=true/\lvS s n [] n.u.s []=X/\er0=0):=by
    have h1:=hPRH.out;unfold WhOk at hwo;unfold plsR at h1;cases hv:valS s 0 1
    . rw [hv,if_neg (by simp)] at hwo
      rw [hv] at h1;cases h1;exact .inl ⟨_,hwo,by decide,rfl,rfl⟩
    . rw [hv,if_pos rfl] at hwo;rw [hv] at h1;cases hm:mpS s with
      | none =>
        rw [hm] at hwo h1;cases h1;exact .inl ⟨_,hwo,by decide,rfl,rfl⟩
      | some n =>
        rw [hm] at hwo h1;obtain ⟨B,h,u0,u1,u2,hnd⟩:=hwo;cases h1;exact .inr ⟨B,n,h,u0,hnd,rfl,rfl,rfl,rfl⟩
  clear hwo hPRH;rcases key with ⟨er,rfl,her,rfl,rfl⟩ | ⟨B,n,rfl,u0,hN,hm,hv,hX,rfl⟩
  . go_wp2;refine x5D [] w2 List.nodup_nil (fun D hD=>by cases hD) fun W' hb' hs'=> ?_
    refine ⟨_,results_tmp2 rfl _ _ _,⟨_,rfl,none, 0,rfl,Nat.le_refl _,fun h=>absurd rfl h,fun b o h=>by cases h⟩, ?_⟩
    exact ⟨hb'.os.trans hB2.os,hb'.tape.trans hB2.tape,hb'.output.trans hB2.output,Nat.le_trans hB2.size hb'.size,fun b hb=>(hs' b (by simp)).trans (hB2.block b hb)⟩
  . have hgu:=x6P s 0 1 hv n hm;have hus:0 <= n.u.s/\n.u.s <= 524352:=by
      obtain ⟨h1,h2,h3,h4,h5⟩:=hgu
      have:=x3H h1
      omega
    have hlenX:X.length <= 100:=by
      have:=v5B s n [] n.u.s []
      rw [hX] at this;omega
    obtain ⟨us,hus'⟩:∃ us,n.u.s=us:=⟨_,rfl⟩;rw [hus'] at u0 hus hX;have hXH:Hid (lvS s n [] us []=X):=hX;have hmv:Hid (mpS s=some n/\valS s 0 1=true):=⟨hm,hv⟩;have hBl:B<w2.heap.size:=World.block_lt_of_cell? _ _ u0;clear hX hm hv hus' hgu
    go_wp2_with (go_at_call 98; fail)
    refine (y3Q B none none 0 0 0 0 us _).mono ?_;rintro e w4 ⟨rfl,hw4⟩;go_wp2;obtain ⟨z,hz⟩:∃ z,w2.heap.size=z:=⟨_,rfl⟩;obtain ⟨wq,hwq⟩:∃ wq,(((((w2.alloc (.cells #[.slice none 0 0] 45)).alloc (.cells #[.pointer (some ⟨B, 0,none⟩)] 128)).alloc (.cells #[.slice none 0 0] 32)).alloc (.cells #[.int .i64 us] 3)).alloc (.cells #[.slice none 0 0] 48))=wq:=⟨_,rfl⟩;rw [hwq,hz];have hq0:NB wq z #[.slice none 0 0] 45:=by
      rw [<- hwq];exact (((y1B hz.symm).alloc _ |>.alloc _).alloc _).alloc _
    have hq1:NB wq (z+1) #[.pointer (some ⟨B, 0,none⟩)] 128:=by
      rw [<- hwq];exact (((y1B (by simp [hz])).alloc _).alloc _).alloc _
    have hq2:NB wq (z+1+1) #[.slice none 0 0] 32:=by
      rw [<- hwq];exact ((y1B (by simp [hz])).alloc _).alloc _
    have hq3:NB wq (z+1+2) #[.int .i64 us] 3:=by
      rw [<- hwq];exact (y1B (by simp [hz])).alloc _
    have hq4:NB wq (z+1+3) #[.slice none 0 0] 48:=by
      rw [<- hwq];exact y1B (by simp [hz])
    have hBq:Below w2.heap.size w2 wq:=by
      rw [<- hwq];exact (((((Below.refl _ w2).alloc (Nat.le_refl _) _).alloc (by simp) _).alloc (by simp; omega) _).alloc (by simp; omega) _).alloc (by simp; omega) _
    have hszq:=hBq.size;clear hwq;refine z6A (s:=s) (n:=n) (dm:= 0) (lv:= 1) (path:=[]) (off:=us) (st:=[]) (C:=fun b=>b=z) (J:=PlJ X z) (pv:= .slice none 0 0) (sv:= .slice none 0 0) (B:=B) (b1:=z+1) (b2:=z+1+3) (b3:=z+1+1) (b4:=z+1+2) hmv.out.1 hmv.out.2 (Int.le_refl 0) hok (by omega) (by omega) (by simp) (by simp)
      (x1G (fun b hb=>⟨by omega,by omega⟩) (KeepS.below hBq fun b hb=>hb) hN) ⟨hq1.cell 0,by omega⟩ ⟨hq4.cell 0,by omega⟩ ⟨hq2.cell 0,by omega⟩ ⟨hq3.cell 0,by omega⟩
      ⟨none, 0,rfl,fun _=>rfl,fun h=>absurd rfl h,fun b o h=>by cases h⟩ (StepsS.nil _ _) (v4B X z _) ⟨.slice none 0 0,[],fun b=>by simp [Value.ownBlock],hq0,World.ownsRow_nil _ _ _ _,fun k p hk=>absurd hk (by omega)⟩ rfl rfl ?body ?fin
    case body =>
      intro fn m j x C1 V p hget hj hnL hVL hPl;rw [hXH.out] at hget;obtain ⟨pv0,sv0,rfl,hpi,hps⟩:=hPl;obtain ⟨a,c,rfl⟩:∃ a c,pv0 = .slice a p.path.length c:=by obtain ⟨a,c,h, -⟩:=hpi; exact ⟨a,c,h⟩
      obtain ⟨a',c',rfl⟩:=hps.form;have hVlt:=x2G hVL;have hBV:Below V.heap.size V (V.alloc (.cells (plC (.slice a p.path.length c) (.slice a' p.st.length c') p.off p.b p.t) 50)):=(Below.refl _ V).alloc (Nat.le_refl _) _;have hLa:=(hBV.block _ hVlt).trans hVL;obtain ⟨i1,hi1,hz1,hs1,hy1⟩:=y2M info50
      gi_wp2
      refine ⟨hBV, ?_⟩;generalize hVb:(V.alloc (.cells (plC (.slice a p.path.length c) (.slice a' p.st.length c') p.off p.b p.t) 50)).putObj (wq.heap.size+1) _=Vb;have hItk:Itk wq.heap.size C1 V Vb:=by
        rw [<- hVb];exact (Itk.of_below hBV).trans (Itk.putObj hLa hnL (by omega) rfl)
      have hnx:NB Vb V.heap.size (plC (.slice a p.path.length c) (.slice a' p.st.length c') p.off p.b p.t) 50:=by
        rw [<- hVb];exact (World.putObj_heap_other (by omega)).trans (NB.here V _ 50)
      have hszb:=hItk.below.size;obtain ⟨v,xs,hi,hnb,ho,hx⟩:=(v4B X z wq.heap.size).itk _ _ _ _ hj hItk;have hpib:x3K (fun b=>b<Vb.heap.size/\¬ C1 b) Vb _ p.path:=x5Q (fun b hb=>⟨by omega,hb.2⟩) (fun _ _ h=>hItk.cell h) hpi
      have hpsb:StepsS (fun b=>b<Vb.heap.size/\¬ C1 b) Vb _ p.st:=x6B (fun b hb=>⟨by omega,hb.2⟩) (fun _ _ h=>hItk.cell h) hps
      obtain ⟨va,vc,rfl⟩:=x5N ho;obtain ⟨r0,r1,r2,r3,r4,r5,r6,r7,r8,rf⟩:=x3T hnx;have k0:Vb.cell? ⟨z, 0,none⟩=some (.slice va j vc):=hnb.cell 0;have kf:=hnb.frozen 0;have hzb:=hnb.lt;have hjl:j<X.length:=(List.getElem?_eq_some_iff.1 hget).1;have hBc:Below Vb.heap.size Vb (Vb.alloc (.cells (plC (.slice a p.path.length c) (.slice a' p.st.length c') p.off p.b p.t) 50)):=(Below.refl _ Vb).alloc (Nat.le_refl _) _;have hnc:NB (Vb.alloc (.cells (plC (.slice a p.path.length c) (.slice a' p.st.length c') p.off p.b p.t) 50)) Vb.heap.size (plC (.slice a p.path.length c) (.slice a' p.st.length c') p.off p.b p.t) 50:=NB.here Vb _ 50;clear hVb hVL hLa;have hLo:some z≠(Value.slice va j vc).ownBlock:=fun h=>by have:=(x5P ho h.symm).1; omega
      have hcl:∀ i u,(plC (.slice a p.path.length c) (.slice a' p.st.length c') p.off p.b p.t).toList[i]? = some u->(Vb.alloc (.cells (plC (.slice a p.path.length c) (.slice a' p.st.length c') p.off p.b p.t) 50)).cell? ((⟨Vb.heap.size, 0,none⟩:Addr).add i)=some u:=fun i u hu=>by
        rw [u8G,Nat.zero_add,hnc.cell i]
        simpa using hu
      gi_wp2_with (gi_at_builtin; refine z5F _ rfl (.tmp 24) (.tmp 26) 45 rfl (z+1) 50 i1 _ 9 112 Tryz.underlying45 hi1 hz1 hs1 hy1 rfl (by decide) (.slice va j vc) j xs rfl (x2Y ho hBc) ⟨Vb.heap.size, 0,none⟩ 1 1 (plC (.slice a p.path.length c) (.slice a' p.st.length c') p.off p.b p.t).toList rfl rfl hcl (plc_one _ _ rfl rfl _ _ _) (by unfold maxLen; omega) (by omega) (by simp; omega) ?_; intro v' w6 ho6 hgr6 hnn6; obtain ⟨vg,vcap,rfl⟩:=y4T ho6 (by omega); have hn6:=z2X (hnb.below hBc) hgr6 hLo; have k6:=hn6.cell 0; have kf6:=hn6.frozen 0)
      exact plJ_push hi hnb ho hx hget hpib hpsb hBc hgr6 ho6 hnn6
    case fin =>
      intro W' C' hj hk hD hnD;rw [hXH.out] at hj;obtain ⟨v,hv0,hpls⟩:=plJ_pls hj;have hzlt:=World.block_lt_of_cell? _ _ hv0;simp only at hzlt;dsimp only;go_wp2;refine x5D [wq.heap.size] W' (by simp) (fun D hD'=>by simp at hD'; subst hD'; exact hD) fun W'' hb' hs'=> ?_
      have hcl:∀ p u,W'.cell? p=some u->W''.cell? p=some u:=fun p u hp=>by
        rw [World.cell?_of_block (w:=W') (hs' p.block (fun hm'=>by
          simp at hm';obtain ⟨o,ho,hc⟩:=y1R hp;rw [hm',hD] at ho;cases ho;cases hc))]
        exact hp
      refine ⟨_,results_tmp2 rfl _ _ _,⟨_,rfl,z0J (fun b hb=>Nat.lt_of_lt_of_le hb hb'.size) hcl hpls⟩, ?_⟩;exact u2Y (z8V (hB2.trans (hBq.mono hsz2)) hk (fun b hb=>by omega) (by omega)) hb' hs' (by omega)
end Go.Proofs
namespace Go.Proofs
open Go.RowKit Go.Yec Go.Shp Go.Deep
open Go.Xec (Glob)
set_option maxRecDepth 100000 in
set_option maxHeartbeats 4000000 in
theorem clo_28 (x:Stp) (n:Int) (B:Nat) (w:World) (hc:w.cell? ⟨B, 0,none⟩=some (.int .i64 n)) (hn:1 <= n) (hx:n∣x.2.2/\y4C x) :
    Calls Tryz.prog 28 #[.agg #[.int .i64 x.1, .int .i64 x.2.1, .int .i64 x.2.2], .pointer (some ⟨B, 0,none⟩)] w fun e w'=>e = .returned (.bool false)/\Below w.heap.size w w':=by
  obtain ⟨lo,hi,sd⟩:=x;obtain ⟨hd,h1,h2,h3,h4,h5⟩:=hx;simp only at hd h1 h2 h3 h4 h5 |-;have hr:sd.tmod n=0:=Int.tmod_eq_zero_of_dvd hd;have hbl:=World.block_lt_of_cell? _ _ hc;simp only at hbl;clear hd;go_enter Tryz.func28,Tryz.ntmps28;go_wp2;go_ret;refine ⟨?_,(Below.refl _ w).alloc (Nat.le_refl _) _⟩;show Ending.returned (.bool (decide (sd<1)))=_;rw [decide_eq_false (by omega)]
set_option maxRecDepth 100000 in
set_option maxHeartbeats 4000000 in
theorem idxS_28 (L:List Stp) (n:Int) (B:Nat) (w:World) (lv:Value) (hl:x8Y w lv L) (hlen:L.length <= 1000) (hc:w.cell? ⟨B, 0,none⟩=some (.int .i64 n)) (hn:1 <= n) (hx:∀ x∈L,n∣x.2.2/\y4C x) :
    Calls Tryz.prog 99 #[lv, .func (.func 28) #[] #[.pointer (some ⟨B, 0,none⟩)]] w fun e w'=>e = .returned (.int .i64 (-1))/\Below w.heap.size w w':=by
  obtain ⟨la,lcap,rfl⟩:=hl.form;have hxH:Hid (∀ x∈L,n∣x.2.2/\y4C x):=hx;clear hx;go_enter Tryz.func99,Tryz.ntmps99;go_wp2
  go_loopw [8] (fun v8 wr=> ∃ x:Int,v8 = .int .i64 x/\0 <= x/\x <= L.length/\Below w.heap.size w wr) (fun vx _=>(L.length-intOf vx).toNat)
  case atStart=>exact ⟨0,rfl,by omega,by omega,Below.refl _ _⟩
  case round =>
    obtain ⟨x,rfl,x0,x1,hbr⟩:=hrel
    by_cases hlt:x<(L.length:Int)
    . have hsr:=hl.below hbr;obtain ⟨b,ofs,cap,y,hv,hbl,hy,d0,d1,d2⟩:=hsr.at (i:=x.toNat) (by omega)
      cases hv;have hbl1:b<wr.heap.size:=hbl;have hmp:=clo_28 y n B wr ((hbr.cell (p:=⟨B, 0,none⟩) (World.block_lt_of_cell? _ _ hc)).trans hc) hn (hxH.out y (List.mem_of_getElem? hy));clear hsr hy
      go_wp2_with (go_at_call 28; fail)
      refine hmp.mono ?_;rintro ee w2 ⟨rfl,hb⟩;have hbr2:Below w.heap.size w w2:=hbr.trans (hb.mono hbr.size);clear hmp hb d0 d1 d2;go_wp2
      go_roundw
      case rel=>exact ⟨_,rfl,by omega,by omega,hbr2⟩
      case measure=>simp [intOf]; omega
    . have hxe:x=L.length:=by omega
      subst hxe;go_wp2;go_ret;exact ⟨rfl,hbr⟩
set_option maxRecDepth 100000 in
set_option maxHeartbeats 4000000 in
theorem z3W (L:List Stp) (n:Int) (B:Nat) (w:World) (lv:Value) (hl:x8Y w lv L) (hlen:L.length <= 1000) (hc:w.cell? ⟨B, 0,none⟩=some (.int .i64 n)) (hn:1 <= n) (hx:∀ x∈L,n∣x.2.2/\y4C x) :
    Calls Tryz.prog 27 #[lv, .func (.func 28) #[] #[.pointer (some ⟨B, 0,none⟩)]] w fun e w'=>e = .returned (.bool false)/\Below w.heap.size w w':=by
  have hi:=idxS_28 L n B w lv hl hlen hc hn hx;obtain ⟨la,lcap,rfl⟩:=hl.form;clear hx;go_enter Tryz.func27,Tryz.ntmps27
  go_wp2_with (go_at_call 99; fail)
  refine hi.mono ?_;rintro ee w2 ⟨rfl,hb⟩;clear hi;go_wp2;go_ret;exact ⟨rfl,hb⟩
end Go.Proofs
