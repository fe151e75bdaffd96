/-
  THE EXECUTOR: a region that draws its order, whole.;THE EXECUTOR IS SOUND: what it comes to, the model comes to;and a closed call.
-/
import Derived.Test.YtadehgdfijjikaaGreatDoorX5
import Derived.Test.YtadehgdfijjikaaGreatDoorX4
set_option linter.all false
namespace Go.Xec
open Go
variable [GT]
section
variable {P:Program} {self:Task->Hp->Nat->R} {sz:Nat} {all:List Oper} {L:List PI} {st:Nat->DS} {β0:Bm} {w0:World} {ds:List Deferred}
def x8J (listed:Array Bool)(i:Nat):Prop:=listed[i]? = some true
theorem u8H {listed:Array Bool}{i:Nat}(hi:i<listed.size):x8J (listed.setIfInBounds i true)=fun j=>x8J listed j\/j=i:=by
  funext j;apply propext;unfold x8J;rw [Array.getElem?_setIfInBounds]
  by_cases e:i=j
  . subst e;simp [hi]
  . rw [if_neg e];exact ⟨.inl,fun h=>h.elim id fun h=>absurd h.symm e⟩
theorem x7X {listed:Array Bool}{i:Nat}(d:Bool)(hi:i<listed.size):listed.getD i d=true↔x8J listed i:=by
  unfold x8J;simp [Array.getD,hi]
theorem u7D (pl:Plan P sz all L){ops:Array Oper}(ay:ops.toList=all){listed:Array Bool}(hs:listed.size=ops.size)(hr:Region.ready .any ops listed=[]):∀ (p:Nat) (x:PI),L[p]? = some x->x8J listed x.i:=by
  intro p
  induction p using Nat.strongRecOn with
  | _ p ih =>
    intro x hx;obtain ⟨o,ho,_,_⟩:=pl.item p x hx;have hi:x.i<listed.size:=by
      rw [hs, <- Array.length_toList (xs:=ops),ay];exact (List.getElem?_eq_some_iff.1 ho).1
    apply Classical.byContradiction;intro hn;have:x.i∈Region.ready .any ops listed:=by
      refine mem_ready.2 ⟨?_,o,by rw [<- Array.getElem?_toList,ay];exact ho,fun e he hb=>?_⟩
      . cases hd:listed.getD x.i true with
        | false=>rfl
        | true=>exact absurd ((x7X true hi).1 hd) hn
      . obtain ⟨q,y,h1,h2,h3⟩:=pl.ahead p x _ hx (pl.edge p x o e hx ho (by simpa using he) hb)
        have:=ih q h1 y h2
        rw [h3] at this;have ai:e.on<listed.size:=(Array.getElem?_eq_some_iff.1 this).1;exact (x7X false ai).2 this
    rw [hr] at this;cases this
theorem Inv.done {a:Act}{w:World}{β:Bm}{G:Gp}{c:Nat}{S:Nat->Prop}(v:Inv P self sz all L st β0 w0 ds S a w β G c)(h:Hyp P self sz all L st β0)(hS:∀ (p:Nat) (x:PI),L[p]? = some x->S x.i) :
    Ext P β0 (hget (st 0).H) (st 0).n w0 β (hget (st L.length).H) (st L.length).n w/\TR β (st L.length).T a.tmps/\a.tmps.size=sz/\a.defers=ds:=by
  have calm:Calm L c L.length:=fun q y h1 h2 hy hk=>by have:=(v.effs q y hy hk).1 (hS q y hy);omega
  have e:G=hget (st L.length).H:=by
    funext i;cases hg:hget (st L.length).H i with
    | some o =>
      rcases h.run.grown _ v.cle (Nat.le_refl _) calm i o hg with h1 | ⟨q,y,h1,h2,h3,h4,h5,rfl,h7⟩
      . exact v.inG i o h1
      . rw [v.newG q y h1 ⟨h3,h4,h5⟩ (hS q y h3)];exact h7
    | none =>
      cases hG:G i with
      | none=>rfl
      | some o =>
        rcases v.outG i o hG with h1 | ⟨_,q,y,h1,h2,h3,h4⟩
        . rw [h.run.grow h.names h.sound h.none0 _ v.cle (Nat.le_refl _) calm i o h1] at hg;cases hg
        . have e':=v.newG q y h1 h2 h3;rw [<- h4,hG] at e';have cq:Calm L (q+1) L.length:=fun r z r1 r2=>calm r z (by omega) r2
          rw [h.run.grow h.names h.sound h.none0 _ (x8G h2.1) (Nat.le_refl _) cq i o e'.symm] at hg;cases hg
  refine ⟨e▸v.ext,fun t=>v.tmp t _ ?_,v.size,v.dfr⟩;rcases h.run.tmp h.names h.sound t L.length (Nat.le_refl _) with ⟨q,y,_,h2,h3⟩ | ⟨h1,h2⟩
  . exact .inl ⟨q,y,h2,hS _ _ h2.1,h3⟩
  . exact .inr ⟨fun q y hw=>absurd hw (h1 q y (x8G hw.1)),h2⟩
theorem u6K (h:Hyp P self sz all L st β0){ops:Array Oper}(ay:ops.toList=all){ro:Option Nat}{Q:Exit->Act->World->Prop}
    (hQ:∀ a w β, Ext P β0 (hget (st 0).H) (st 0).n w0 β (hget (st L.length).H) (st L.length).n w->TR β (st L.length).T a.tmps->a.tmps.size=sz->a.defers=ds->Q .normal a w) :
    ∀ (fuel:Nat) (listed:Array Bool) (a:Act) (w:World) (β:Bm) (G:Gp) (c:Nat),listed.size=ops.size->listed.toList.count false <= fuel->Inv P self sz all L st β0 w0 ds (x8J listed) a w β G c->wpAnyIn (fen ro) 0 P .any ops Q fuel listed a w
  | 0,listed,a,w, β, G,c,hs,hc,hv=>by
    have hr:Region.ready .any ops listed=[]:=by
      cases hl:Region.ready .any ops listed with
      | nil=>rfl
      | cons i r =>
        have:i∈Region.ready .any ops listed:=by rw [hl];simp
        obtain ⟨h1,o,h2,_⟩:=mem_ready.1 this;have ai:i<listed.size:=by rw [hs];exact (Array.getElem?_eq_some_iff.1 h2).1
        have hm:false∈listed.toList:=by
          have:listed[i]=false:=by simpa [Array.getD,ai] using h1
          rw [<- this];simp
        have:=List.count_pos_iff.2 hm
        omega
    refine ⟨hr, ?_⟩;obtain ⟨e1,e2,e3,e4⟩:=hv.done h (u7D h.run.plan ay hs hr);exact hQ a w β e1 e2 e3 e4
  | fuel+1,listed,a,w, β, G,c,hs,hc,hv=>by
    refine ⟨fun hr=>?_,fun i hi=>?_⟩
    . obtain ⟨e1,e2,e3,e4⟩:=hv.done h (u7D h.run.plan ay hs hr);exact hQ a w β e1 e2 e3 e4
    . obtain ⟨h1,o,h2,h3⟩:=mem_ready.1 hi;have ho:all[i]? = some o:=by rw [<- ay,Array.getElem?_toList];exact h2
      have ai:i<listed.size:=by rw [hs];exact (Array.getElem?_eq_some_iff.1 h2).1
      obtain ⟨p,x,hx,rfl⟩:=h.run.plan.full i o ho;have hS:¬ x8J listed x.i:=fun hl=>by rw [(x7X true ai).2 hl] at h1;cases h1
      have he:∀ e∈o.after.toList,Region.binds .any e=true->x8J listed e.on:=fun e hm hb=>by
        have:=h3 e (by simpa using hm) hb
        by_cases nY:e.on<listed.size
        . exact (x7X false nY).1 this
        . simp [Array.getD,nY] at this
      have hK:∀ a' w' β' G' c',Inv P self sz all L st β0 w0 ds (fun i=>x8J listed i\/i=x.i) a' w' β' G' c'->wpAnyIn (fen ro) 0 P .any ops Q fuel (listed.setIfInBounds x.i true) a' w':=fun a' w' β' G' c' kH=>by
        refine u6K h ay hQ fuel _ a' w' β' G' c' (by simpa using hs) ?_ (by rw [u8H ai];exact kH)
        have e0:listed.toList[x.i]'(by simpa using ai)=false:=by simpa [Array.getD,ai] using h1
        rw [Array.toList_setIfInBounds,List.count_set (by simpa using ai),e0]
        have b1:((false==false:Bool))=true:=rfl;have b2:((true==false:Bool))=false:=rfl;rw [b1,b2,if_pos rfl,if_neg (by simp)]
        omega
      cases hk:x.kd with
      | free=>exact hv.free h hx ho hk hS he ay hK
      | load=>exact hv.load h hx ho hk hS he ay hK
      | eff=>exact hv.eff h hx ho hk hS he ay hK
theorem u9W (hm:P.follows .mixedOrders=true)(hN:x3M P)(ah:∀ t H n,x6W P t H n (self t H n)){rd:Option Nat}{sz id:Nat}{ops:Array Oper}{T T':Tm}{H H':Hp}{n n':Nat}{ex:Ex}
    (h:u0A self T H n (y1B P sz ops.toList) = .ok ex T' H' n'):CodeS P rd sz (.region id ops true) T H n ex T' H' n':=by
  cases hp:y1B P sz ops.toList with
  | none=>rw [hp] at h;cases h
  | some L =>
    rw [hp] at h;have h:drawL self L ⟨T,H,n,H, 0, 0,[]⟩ = .ok ex T' H' n':=h;obtain ⟨st,h0,h1,rfl,rfl,rfl,rfl⟩:=z8K L _ _ _ _ _ h;have d:DRun P self sz ops.toList L st:=⟨z0L hp,h1,by rw [h0],by rw [h0],by rw [h0]⟩
    have e1:(st 0).H=H:=by rw [h0]
    have e2:(st 0).n=n:=by rw [h0]
    have e3:(st 0).T=T:=by rw [h0]
    have aI:=d.mono hN ah (Nat.zero_le L.length) (Nat.le_refl _);rw [e1,e2] at aI;refine CodeS.mk' (by simp) aI fun β w a ro lo Q hT hz hW hf hr hM hQ=>?_
    refine wpIn_region_any hm ?_;have mc:WR P β (hget H) { w with drawn:=w.drawn+1 } :=hW.congr rfl;have hy:Hyp P self sz ops.toList L st β :=⟨d,hN,ah,fun i a b=>by
      cases hg:hget (st 0).H i with
      | none=>rfl
      | some o=>rw [e1] at hg;rw [e2] at a;exact absurd (hf i a b) (hW.lay hg),by rw [e2];exact hf⟩
    refine u6K (w0:= { w with drawn:=w.drawn+1 }) (ds:=a.defers) hy rfl (fun a' w' γ x1 x2 x3 x4=>?_) ops.size _ a _ β (hget H) 0 (by simp) (Nat.le_trans List.count_le_length (by simp)) ?_
    . rw [e1,e2] at x1;exact hQ γ a' w' ⟨x1.congr0 rfl rfl rfl rfl,x2,x3,by rw [x4];exact hM.ext (x1.congr0 rfl rfl rfl rfl) hf aI.1⟩
    . have nl:∀ i, ¬ x8J (Array.replicate ops.size false) i := fun i hl => by
        unfold x8J at hl;rw [Array.getElem?_replicate] at hl;split at hl <;> simp at hl
      refine ⟨fun i o _ hl=>absurd hl (nl i),Nat.zero_le _, .inl rfl,fun q y _ _=>⟨fun hl=>absurd hl (nl _),fun hl=>by omega⟩,fun i o e=>by rw [e1] at e;exact e,fun i o e=>by rw [e1];exact .inl e,fun q y _ _ hl=>absurd hl (nl _),fun t v hv=>?_,hz,rfl, ?_,fun q y iS _=>?_⟩
      . rcases hv with ⟨q,y,_,hl,_⟩ | ⟨_,rfl⟩
        . exact absurd hl (nl _)
        . rw [e3];exact hT t
      . rw [e1];exact { Ext.refl (n:=(st 0).n) mc with same:=fun _ _=>rfl }
      . have mz:=x8G iS;have l1:=hy.le (Nat.zero_le q) (Nat.le_of_lt mz);have l2:=hy.le (show q+1 <= L.length from mz) (Nat.le_refl _)
        intro i a b;exact hf i (by omega) (by omega)
end
variable [GT]
section
variable {P:Program} {self:Task->Hp->Nat->R}
theorem v0J (hm:P.follows .mixedOrders=true)(hN:x3M P)(ah:∀ t H n,x6W P t H n (self t H n)){rd:Option Nat}{fn:FuncId}{sz:Nat}{c:Code}{T T':Tm}{H H':Hp}{n n':Nat}{ex:Ex}
    (h:y5D P self rd fn sz T H n c = .ok ex T' H' n'):CodeS P rd sz c T H n ex T' H' n':=by
  cases c with
  | skip=>cases h;exact CodeS.stay (by simp) fun ro Q a w hq=>wpIn_skip hq
  | label l=>cases h;exact CodeS.stay (by simp) fun ro Q a w hq=>wpIn_label hq
  | exit id=>cases h;exact CodeS.stay (by simp) fun ro Q a w hq=>wpIn_exit hq
  | ret=>cases h;exact CodeS.stay (by simp) fun ro Q a w hq=>wpIn_ret hq
  | seq x y =>
    obtain ⟨h1,m,h2⟩:=z5R ah (show seqK self rd fn sz y (self (.code rd fn sz x T) H n) = .ok ex T' H' n' from h)
    exact CodeS.mk' (by simp) h1 fun β w a ro lo Q x1 x2 x3 x4 x5 x6 x7=>wpIn_seq (wpIn_mono (h2 β w a ro lo Q x1 x2 x3 x4 x5 x6 x7) fun e a' w' hh=>by
      cases e <;> first | exact WpX.wp hh | exact hh)
  | cond c x y =>
    obtain ⟨h1,h2⟩:=y1N (show cond (okX c) (v6Z self rd fn sz x y T H n (ev T c)) .bad = .ok ex T' H' n' from h)
    exact v0E ah h1 h2
  | block id b=>exact u2X ah h
  | loop b =>
    obtain ⟨h1,m,h2⟩:=z5R ah (show seqK self rd fn sz (.loop b) (self (.code rd fn sz b T) H n) = .ok ex T' H' n' from h)
    exact ⟨h1,m+1,fun β w a ro lo Q x1 x2 x3 x4 x5 x6 x7=>h2 β w a ro lo Q x1 x2 x3 x4 x5 x6 x7⟩
  | region id ops b =>
    cases b with
    | true=>exact u9W hm hN ah h
    | false =>
      have h:y6C P self sz ops.toList ops.toList T H n = .ok ex T' H' n':=h;obtain ⟨rfl,h2,h3⟩:=y3C hN ah (ops:=ops) rfl ops.toList [] T H n ex T' H' n' rfl h;refine CodeS.mk' (by simp) h2 fun β w a ro lo Q x1 x2 x3 x4 x5 x6 x7=>wpIn_region ?_
      have:=h3 β w a ro lo Q x1 x2 x3 x4 x6 x7
      rw [List.range_eq_range']
      simpa using this
  | rangeFunc f ps assign body=>exact u0F hN ah h
  | _=>cases h
theorem u7R {hk:Hook}(kg:HookOk P hk)(hm:P.follows .mixedOrders=true)(hN:x3M P)(ah:∀ t H n,x6W P t H n (self t H n))(t:Task)(H:Hp)(n:Nat):x6W P t H n (step P hk self t H n):=by
  cases hr:step P hk self t H n with
  | bad=>cases t <;> trivial
  | ok ex T' H' n' =>
    cases t with
    | code rd fn sz c T=>exact v0J hm hN ah hr
    | call f args=>exact v0K kg ah hr
    | yield l args=>exact z9M ah hr
theorem y0W {hk:Hook}(kg:HookOk P hk)(hm:P.follows .mixedOrders=true)(hN:x3M P):∀ (k:Nat) (t:Task) (H:Hp) (n:Nat),x6W P t H n (run P hk k t H n)
  | 0,t,H,n=>by cases t <;> trivial
  | k+1,t,H,n=>u7R kg hm hN (y0W kg hm hN k) t H n
def namesB (P:Program):Bool:=P.funcs.all fun fn=> !(fn.name == "runtime.NumGoroutine")
theorem y6S (h:namesB P=true):x3M P:=fun f fn hf=>by
  have:=Array.all_eq_true_iff_forall_mem.1 h fn (Array.mem_of_getElem? hf)
  simpa using this
noncomputable def endsWith (P:Program)(k:Nat)(f:FuncId)(v:Value):Bool:=match run P v3L k (.call f []) .leaf 0 with
  | .ok _ T _ _=>cond (plain v) (veq (tget T 0) v) false
  | .bad=>false
theorem closed_run (hm:P.follows .mixedOrders=true)(hN:namesB P=true){k:Nat}{f:FuncId}{v:Value}(h:endsWith P k f v=true)(w:World)(cZ:Glob w) :
    Calls P f #[] w fun e w'=>e = .returned v/\(∀ b,b<w.heap.size->w'.heap[b]? = w.heap[b]?)/\w.heap.size <= w'.heap.size/\w'.os=w.os/\w'.output=w.output/\w'.tape=w.tape:=by
  unfold endsWith at h;split at h
  . rename_i ex T' H' n' hr;obtain ⟨h1,h2⟩:=x0D h;have hs:=y0W z6S hm (y6S hN) k (.call f []) .leaf 0;rw [hr] at hs;have hs:v0Y P f [] .leaf 0 (tget T' 0) H' n':=hs;have no:∀ i o,hget .leaf i=some o->False:=fun i o e=>by
      rw [y1J] at e;cases e
    have hW:WR P (fun _=>none) (hget .leaf) w:=⟨fun i o e=>(no i o e).elim,fun i j b c o p e=>(no i o e).elim,cZ,fun g cs hg i o c e=>(no i o e).elim⟩
    have:=hs.2.2 (fun _=>none) w [] .nil hW (fun _ _ _=>rfl)
    refine Calls.mono (callsIn_wide.1 this) ?_;rintro e w' ⟨c, γ, rfl,hv,hE⟩;refine ⟨?_,fun b hb=>hE.frame b hb fun i o c e=>(no i o e).elim,hE.size,hE.os,hE.out,hE.tape⟩;rw [u3V h2] at hv;rw [y4N h1 hv]
  . cases h
end
end Go.Xec
