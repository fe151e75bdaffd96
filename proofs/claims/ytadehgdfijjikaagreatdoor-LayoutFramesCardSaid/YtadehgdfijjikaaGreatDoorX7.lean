/-
  THE EXECUTOR: the range over a function: the statement, a round.; THE EXECUTOR: the plan of a region that draws its order: masks, what hangs on what, the order, the temporaries.
-/
import Derived.Test.YtadehgdfijjikaaGreatDoorX6
set_option linter.all false
namespace Go.Xec
open Go
variable [GT]
section
variable {P : Program} {self : Task -> Hp -> Nat -> R}
theorem y5Q {o : Option AObj} {r : ALoop} (h : v3U o = some r) : o = some (.loop r):=by
  unfold v3U at h; split at h
  . cases h; rfl
  . cases h
theorem x4X {w : World} {l : Nat} {q : Loop} (h : w.heap[l]? = some (.loop q)) : (Instr.getLoop l).run P w = .ok q w:=by
  simp only [Instr.getLoop,Sem.run_bind,y8Z h (by simp),Result.andThen_ok,Sem.run_pure]
theorem WR.loop {β : Bm} {H : Hp} {w : World} (h : WR P β (hget H) w) {l : Nat} {q : Nat × Nat} {r : ALoop} (hl : x7L H l = some r) (hq : β l = some q) : ∃ s,w.heap[q.1]? = some (.loop s) /\ s.state = r.state /\ s.pending = r.pending /\ TR β r.T s.tmps /\ s.params.toList = r.params /\ s.assign = r.assign /\ s.body = r.body /\ (∃ x, β r.defers = some x /\ x.1 = s.defers) /\ s.tmps.size = r.sz:=by
  obtain ⟨x,h1,h2⟩:=h.at (y5Q hl) hq
  cases h2 with
  | loop _ s x a1 a2 a3 a4 a5 a6 a7 a8 a9=>exact ⟨s,h1,a1,a2,a3,a4,a5,a6,⟨x,a7,a8⟩,a9⟩
theorem y5P {β : Bm} {H : Hp} {n : Nat} {w : World} (hW : WR P β (hget H) w) {l : Nat} {q : Nat × Nat} {r r' : ALoop} {s s' : Loop} (hl : x7L H l = some r) (hq : β l = some q) (hs : w.heap[q.1]? = some (.loop s)) (hR : ObR P β q.2 (.loop r') (.loop s')) :
    (setObj q.1 (.loop s')).run P w = .ok () { w with heap:=w.heap.setIfInBounds q.1 (.loop s') } /\ Ext P β (hget H) n w β (hget (hset H l (.loop r'))) n { w with heap:=w.heap.setIfInBounds q.1 (.loop s') } :=by
  have lt:=(Array.getElem?_eq_some_iff.1 hs).1
  refine ⟨y8X hs (by simp),Ext.turn hW (y5Q hl) hq (by simp) (by simp) (by simp) (by simp [lt]) (fun c hc=> ?_) hR rfl rfl rfl⟩
  simp only
  rw [Array.getElem?_setIfInBounds]; simp [Ne.symm hc]
theorem y6B {H : Hp} {l : Nat} {o : AObj} {r : ALoop} (hl : x7L H l = some r) (n : Nat) : NoneOut H n (hset H l o) n:=⟨Nat.le_refl _,fun i _ h0=>by
  rw [x0E]; split
  . rename_i e; subst e; rw [y5Q hl] at h0; cases h0
  . exact h0⟩
theorem z1Y (sz : Nat) (vs : List Value) (T : Tm) : x4W sz [] vs T = (match vs with | []=>some T | _ :: _=>none):=by cases vs <;> rfl
theorem y8J (sz t : Nat) (ts : List Tmp) (vs : List Value) (T : Tm) : x4W sz (t :: ts) vs T = (match vs with | []=>none | v :: vs=>cond (Nat.ble (t + 1) sz) (x4W sz ts vs (tset T t v)) none):=by cases vs <;> rfl
theorem y9G {β : Bm} {sz : Nat} : ∀ {ts : List Tmp} {vs cs : List Value} {T T' : Tm} {tmps : Array Value}, x4W sz ts vs T = some T' -> VL β vs cs -> TR β T tmps -> tmps.size = sz ->
    ts.length = cs.length /\ TR β T' ((ts.zip cs).foldl (fun tmps p=>tmps.setIfInBounds p.1 p.2) tmps) /\ ((ts.zip cs).foldl (fun tmps p=>tmps.setIfInBounds p.1 p.2) tmps).size = sz
  | [],vs,cs,T,T',tmps,h,hv,hT,hz=>by
    rw [z1Y] at h
    cases hv with
    | nil=>cases h; exact ⟨rfl,hT,hz⟩
    | cons a b=>cases h
  | t :: ts,vs,cs,T,T',tmps,h,hv,hT,hz=>by
    rw [y8J] at h
    cases hv with
    | nil=>cases h
    | cons a b =>
      rename_i v c vs' cs'
      have h : cond (Nat.ble (t + 1) sz) (x4W sz ts vs' (tset T t v)) none = some T':=h
      cases hb : Nat.ble (t + 1) sz with
      | false=>rw [hb] at h; cases h
      | true =>
        rw [hb] at h
        have ht : t < tmps.size:=by rw [hz]; exact x1E hb
        obtain ⟨h1,h2,h3⟩:=y9G (tmps:=tmps.setIfInBounds t c) (show x4W sz ts vs' (tset T t v) = some T' from h) b (hT.set ht a) (by simp [hz])
        exact ⟨by simp [h1],h2,h3⟩
theorem v2M {β : Bm} {H : Hp} {n : Nat} {w : World} (hW : WR P β (hget H) w) {l : Nat} {q : Nat × Nat} {r : ALoop} (hl : x7L H l = some r) (hq : β l = some q) (j : Option Code) :
    ∃ w',(Instr.endRound q.1 j).run P w = .ok (.bool j.isNone) w' /\ Ext P β (hget H) n w β (hget (hset H l (.loop { r with state:=cond j.isNone .ready .done,pending:=j }))) n w':=by
  obtain ⟨s,h1,h2,h3,h4,h5,h6,h7,⟨x,h8,h9⟩,h10⟩:=hW.loop hl hq
  obtain ⟨t1,t2⟩:=y5P (n:=n) (r':= { r with state:=cond j.isNone .ready .done,pending:=j }) (s':= { s with state:=if j.isNone then .ready else .done,pending:=j }) hW hl hq h1 (.loop _ _ x (by cases j <;> rfl) rfl h4 h5 h6 h7 h8 h9 h10)
  exact ⟨_,by simp only [Instr.endRound,Sem.run_bind,x4X h1,Result.andThen_ok,t1,Sem.run_pure],t2⟩
theorem z9U {l : Nat} {H H' : Hp} {n n' : Nat} {j : Option Code} {ex : Ex} {T' : Tm} (h : x6W l H n j = .ok ex T' H' n') : ∃ r,x7L H l = some r /\ tget T' 0 = .bool j.isNone /\ H' = hset H l (.loop { r with state:=cond j.isNone .ready .done,pending:=j }) /\ n' = n:=by
  unfold x6W at h
  obtain ⟨r,h1,h2⟩:=x7Y h
  cases h2
  exact ⟨r,h1,rfl,rfl,rfl⟩
def y5T : Ex -> Option Code
  | .normal=>none
  | .ret=>some .ret
  | .exit id=>some (.exit id)
  | .goto l=>some (.goto l)
theorem z9V {l : Nat} {x : R} {ex : Ex} {T' : Tm} {H' : Hp} {n' : Nat} (h : y3N l x = .ok ex T' H' n') : ∃ e T H n,x = .ok e T H n /\ x6W l H n (y5T e) = .ok ex T' H' n':=by
  unfold y3N at h
  split at h <;> first | (cases h; done) | exact ⟨_,_,_,_,rfl,h⟩
theorem z9F (hself : ∀ t H n,x6D P t H n (self t H n)) {l : Nat} {args : List Value} {H H' : Hp} {n n' : Nat} {ex : Ex} {T' : Tm} (h : y4E self l args H n = .ok ex T' H' n') : YieldS P l args H n (tget T' 0) H' n':=by
  unfold y4E at h
  obtain ⟨r,h1,h2⟩:=x7Y h
  obtain ⟨T0,h3,h4⟩:=x7Y h2
  have hs:=hself (.code (some l) r.fn r.sz r.assign T0) H n
  cases hx : self (.code (some l) r.fn r.sz r.assign T0) H n with
  | bad=>rw [hx] at h4; cases h4
  | ok e1 T1 H1 n1 =>
    rw [hx] at hs h4
    have hs : CodeS P (some l) r.sz r.assign T0 H n e1 T1 H1 n1:=hs
    cases e1 with
    | exit id=>cases h4
    | ret=>cases h4
    | goto g=>cases h4
    | normal =>
      have h4 : (onOR (x7L H1 l) fun r1=>cond (u0N r1.state) (y3N l (self (.code (some l) r.fn r.sz r.body T1) (hset H1 l (.loop { r1 with state:= .busy })) n1)) .bad) = .ok ex T' H' n':=h4
      obtain ⟨r1,h5,h6⟩:=x7Y h4
      obtain ⟨h7,h8⟩:=y0P h6
      obtain ⟨e2,T2,H2,n2,h9,h10⟩:=z9V h8
      obtain ⟨r2,h11,h12,h13,h14⟩:=z9U h10
      have hs2:=hself (.code (some l) r.fn r.sz r.body T1) (hset H1 l (.loop { r1 with state:= .busy })) n1
      rw [h9] at hs2
      have hs2 : CodeS P (some l) r.sz r.body T1 (hset H1 l (.loop { r1 with state:= .busy })) n1 e2 T2 H2 n2:=hs2
      cases h14; subst h13
      have n1b : NoneOut H1 n1 (hset H1 l (.loop { r1 with state:= .busy })) n1:=y6B h5 n1
      have n2b:=y6B (o:= .loop { r2 with state:=cond (y5T e2).isNone .ready .done,pending:=y5T e2 }) h11 n'
      have all:=(hs.1.trans n1b).trans (hs2.1.trans n2b)
      refine ⟨all,fun β w cs q hq hv hW hf=> ?_⟩
      obtain ⟨s,w1,_,_,w4,w5,w6,w7,_,w9⟩:=hW.loop h1 hq
      obtain ⟨p1,p2,p3⟩:=y9G h3 hv w4 w9
      refine ⟨s.fn,(s.params.zip cs.toArray).foldl (fun tmps p=>tmps.setIfInBounds p.1 p.2) s.tmps,s.assign,s.body, ?_, ?_⟩
      . have hsz : cs.toArray.size = s.params.size:=by rw [<- Array.length_toList (xs:=s.params),w5,p1]; simp
        simp only [Instr.yield,Sem.run_bind,x4X w1,Result.andThen_ok,hsz,ne_eq,not_true_eq_false,if_false,Sem.run_pure]
      . refine roundIn_of_wpIn trivial ?_
        have hle1 : n <= n1:=hs.1.1
        have hle2 : n1 <= n':=hs2.1.1
        have hf1 : Fresh β n n1:=hf.left hle2
        have hassign : s.assign = r.assign:=w6
        have hbody : s.body = r.body:=w7
        have htm : ((s.params.zip cs.toArray).foldl (fun tmps p=>tmps.setIfInBounds p.1 p.2) s.tmps) = ((r.params.zip cs).foldl (fun tmps p=>tmps.setIfInBounds p.1 p.2) s.tmps):=by
          rw [<- Array.foldl_toList,Array.toList_zip,w5]
        rw [hassign,hbody]
        refine hs.use (ro:=some q.1) (lo:=n) (by rw [htm]; exact p2) (by rw [htm]; exact p3) hW hf1 ⟨q,hq,rfl⟩ (Mk.nil (Nat.le_refl _)) fun γ a1 v1 hp=> ?_
        have hq1 : γ l = some q:=hp.ext.le hf1 _ _ hq
        obtain ⟨s1,y1,y2,y3,y4,y5,y6,y7,⟨x,y8,y9⟩,y10⟩:=hp.ext.wr.loop h5 hq1
        obtain ⟨t1,t2⟩:=y5P (n:=n1) (r':= { r1 with state:= .busy }) (s':= { s1 with state:= .busy }) hp.ext.wr h5 hq1 y1 (.loop _ _ x rfl y3 y4 y5 y6 y7 y8 y9 y10)
        have hst : s1.state = .ready:=by rw [y2]; unfold u0N at h7; split at h7 <;> first | assumption | cases h7
        refine ⟨_,by simp [Instr.beginRound,x4X y1,t1,hst]; rfl, ?_⟩
        have hf2 : Fresh γ n1 n':=hf.right hp.ext hle1
        refine hs2.use (ro:=some q.1) (lo:=n) hp.tr hp.sz t2.wr hf2 ⟨q,hq1,rfl⟩ (hp.mks.ext t2 (fun i a b=>by omega) (Nat.le_refl _)) fun δ a2 v2 hp2=> ?_
        have hq2 : δ l = some q:=hp2.ext.le hf2 _ _ hq1
        obtain ⟨v3,z1,z2⟩:=v2M (P:=P) (n:=n') hp2.ext.wr h11 hq2 (y5T e2)
        have hret : RetS P β (hget H) n w (tget T' 0) (hset H2 l (.loop { r2 with state:=cond (y5T e2).isNone .ready .done,pending:=y5T e2 })) n' (.returned (.bool (y5T e2).isNone)) v3:=by
          refine ⟨_, δ, rfl,by rw [h12]; exact .bool _, ?_⟩
          have e01 : Ext P β (hget H) n w γ (hget (hset H1 l (.loop { r1 with state:= .busy }))) n1 _:=hp.ext.trans t2 hle1 (Nat.le_refl _) hf1
          have e02:=e01.trans hp2.ext hle1 hle2 hf
          exact e02.trans z2 (Nat.le_trans hle1 hle2) (Nat.le_refl _) hf
        cases e2 with
        | normal=>exact ⟨_,v3,z1,hret⟩
        | ret=>exact ⟨_,v3,z1,hret⟩
        | exit id=>exact ⟨_,v3,z1,hret⟩
        | goto g=>exact ⟨_,v3,z1,hret⟩
theorem z9X (hN : x2Y P) (hself : ∀ t H n,x6D P t H n (self t H n)) {rd : Option Nat} {fn : FuncId} {sz : Nat} {T T' : Tm} {H H' : Hp} {n n' : Nat} {f : Operand} {ps : Array Tmp} {assign body : Code} {ex : Ex}
    (h : y4Z self rd fn sz T H n f ps.toList assign body = .ok ex T' H' n') : CodeS P rd sz (.rangeFunc f ps assign body) T H n ex T' H' n':=by
  unfold y4Z at h
  obtain ⟨h1,h2⟩:=y0P h
  obtain ⟨⟨d,Hd,lp⟩,h3,h4⟩:=x7Y h2
  simp only at h4
  unfold u4F at h4
  split at h4
  . rename_i e3 T3 H3 n3 hcall
    obtain ⟨r,h5,h6⟩:=x7Y h4
    obtain ⟨h7,h8⟩:=y0P h6
    unfold z5Y at hcall
    split at hcall
    . rename_i g first cap hv
      have hs:=hself (.call g (first.toList ++ (.func (.yield lp) #[] #[]) :: cap.toList)) (hset Hd lp (.loop ⟨.ready,none,fn,T,ps.toList,assign,body,d,sz⟩)) (lp + 1)
      rw [show Nat.succ lp = lp + 1 from rfl] at hcall
      rw [hcall] at hs
      obtain ⟨c1,⟨fnd,cd,c2,c3⟩,c4⟩:=hs
      have jump : NoneOut (hset H3 lp (.loop { r with state := .exhausted })) n3 H' n' /\ ∀ (β : Bm) (w : World) (a : Act) (ro : Option Nat) (lo : Nat) (Q : Exit -> Act -> World -> Prop), TR β T a.tmps -> a.tmps.size = sz -> WR P β (hget (hset H3 lp (.loop { r with state := .exhausted }))) w -> Fresh β n3 n' -> RdR β rd ro -> Mk β (hget (hset H3 lp (.loop { r with state := .exhausted }))) w lo n3 a.defers ->
          (∀ γ a' w',Pst P β (hget (hset H3 lp (.loop { r with state:= .exhausted }))) n3 w lo sz T' H' n' γ a' w' -> Q (exOf ex) a' w') -> (match r.pending with | none=>Q .normal a w | some c=>c.wpIn (fen ro) 0 P Q a w):=by
        unfold z5X at h8
        split at h8
        . rename_i hpn
          cases h8
          refine ⟨NoneOut.refl _ _,fun β w a ro lo Q hT hz hW hf hr hM hQ=> ?_⟩
          rw [hpn]
          exact hQ β a w ⟨Ext.refl hW,hT,hz,hM⟩
        . rename_i c hpn
          have hs:=hself (.code rd fn sz c T) (hset H3 lp (.loop { r with state:= .exhausted })) n3
          rw [h8] at hs
          have hs : CodeS P rd sz c T _ n3 ex T' H' n':=hs
          refine ⟨hs.1,fun β w a ro lo Q hT hz hW hf hr hM hQ=> ?_⟩
          rw [hpn]
          exact hs.use hT hz hW hf hr hM hQ
      obtain ⟨j1,j2⟩:=jump
      have n3b : NoneOut H3 n3 (hset H3 lp (.loop { r with state:= .exhausted })) n3:=y6B h5 n3
      have begun : n <= lp /\ NoneOut H n Hd lp /\ ∀ (β : Bm) (w : World) (a : Act) (ro : Option Nat) (lo : Nat), WR P β (hget H) w -> Fresh β n n' -> RdR β rd ro -> lp <= n' -> Mk β (hget H) w lo n a.defers -> ∀ fnc : FuncId,
          ∃ (γ : Bm) (w1 : World) (dl : Nat) (mks : List Deferred),Ext P β (hget H) n w γ (hget Hd) lp w1 /\ (∃ x, γ d = some x /\ x.1 = dl) /\ Mk γ (hget Hd) w1 lo lp (mks ++ a.defers) /\
            (Instr.enterLoop fnc a.tmps ps assign body ro).run P w = .ok (w1.heap.size,mks) { w1 with heap:=w1.heap.push (.loop { state:= .ready,pending:=none,fn:=fnc,tmps:=a.tmps,params:=ps,assign,body,defers:=dl }) } :=by
        unfold rangeD at h3
        split at h3
        . rename_i l
          cases h0 : x7L H l with
          | none=>rw [h0] at h3; cases h3
          | some r0 =>
            rw [h0] at h3; cases h3
            refine ⟨Nat.le_refl _,NoneOut.refl _ _,fun β w a ro lo hW hf hr _ hM fnc=> ?_⟩
            cases ro with
            | none=>exact hr.elim
            | some m =>
              obtain ⟨q,q1,rfl⟩:=hr
              obtain ⟨s,w1,_,_,_,_,_,_,⟨x,x1,x2⟩,_⟩:=hW.loop h0 q1
              refine ⟨β, w,s.defers,[],Ext.refl hW,⟨x,x1,x2⟩,hM, ?_⟩
              simp only [Instr.enterLoop,Sem.run_bind,x4X w1,Result.andThen_ok,Sem.run_pure,run_newObj]
        . cases h3
          refine ⟨by omega,⟨by omega,fun i hi h0=>by rw [x0E,if_neg (by omega)]; exact h0⟩,fun β w a ro lo hW hf hr hle hM fnc=> ?_⟩
          cases ro with
          | some m=>exact hr.elim
          | none =>
            have hn:=hf n (Nat.le_refl _) (by omega)
            have e:=Ext.new hW hn (m:= 0) (.defd (P:=P) (β := β) (m:= 0) (some []))
            refine ⟨_,_,w.heap.size,[mark1 w.heap.size],e,⟨_,x1F _ _ _,rfl⟩, ?_, ?_⟩
            . obtain ⟨m0,ids,m1,m2,m3⟩:=hM
              refine ⟨by omega,(n,(w.heap.size, 0)) :: ids,by simp [m1],fun x hx=> ?_, ?_⟩
              . rcases List.mem_cons.1 hx with rfl | hx
                . exact ⟨m0,by simp,x1F _ _ _,by rw [x0E,if_pos rfl],by simp⟩
                . obtain ⟨a1,a2,a3,a4,a5⟩:=m2 x hx
                  exact ⟨a1,by omega,u3Q hn _ _ a3,e.keep _ a4,by rw [e.kept _ _ a4 a3]; exact a5⟩
              . simp only [List.map_cons,List.nodup_cons]
                refine ⟨fun hm=> ?_,m3⟩
                obtain ⟨x,hx,hxe⟩:=List.mem_map.1 hm
                have:=(m2 x hx).2.1
                omega
            . simp only [Instr.enterLoop,Sem.run_bind,run_newObj,Result.andThen_ok,Sem.run_pure]
              rfl
      obtain ⟨b0,b00,begun⟩:=begun
      have s1 : NoneOut Hd lp (hset Hd lp (.loop ⟨.ready,none,fn,T,ps.toList,assign,body,d,sz⟩)) (lp + 1):=⟨by omega,fun i hi h0=>by rw [x0E,if_neg (by omega)]; exact h0⟩
      have l1 : lp + 1 <= n3:=c1.1
      have l2 : n3 <= n':=j1.1
      refine CodeS.mk' (by simp) (b00.trans (s1.trans (c1.trans (n3b.trans j1)))) fun β w a ro lo Q hT hz hW hf hr hM hQ=> ?_
      refine wpIn_rangeFunc fun fnc _=> ?_
      obtain ⟨γ, w1,dl,mks,e1,⟨x,b2,b3⟩,b4,b5⟩:=begun β w a ro lo hW hf hr (by omega) hM fnc
      have f1 : Fresh β n lp:=hf.left (by omega)
      have g1 : Fresh γ lp n':=hf.right e1 b0
      have hlp : γ lp = none:=g1 lp (Nat.le_refl _) (by omega)
      have lw1:=e1.le f1
      have e2:=Ext.new e1.wr hlp (m:= 0) (ObR.loop (P:=P) (β := γ) (m:= 0) ⟨.ready,none,fn,T,ps.toList,assign,body,d,sz⟩ { state:= .ready,pending:=none,fn:=fnc,tmps:=a.tmps,params:=ps,assign,body,defers:=dl } x rfl rfl (hT.mono lw1) rfl rfl rfl b2 b3 hz)
      have lw2:=u3Q (b:=(w1.heap.size, 0)) hlp
      have e12:=e1.trans e2 b0 (by omega) (hf.left (by omega))
      have g2 : Fresh (upd γ lp (w1.heap.size, 0)) (lp + 1) n':=hf.right e12 (by omega)
      have hfr:=z7F (β := β) (T:=T) (a:=a) (x:=f) (fun t _=>hT t) h1
      rw [hv] at hfr
      generalize hρ : a.eval f = X at hfr
      cases hfr with
      | func _ _ _ first' cap' k1 k2 =>
        have hargs : VL (upd γ lp (w1.heap.size, 0)) (first.toList ++ (.func (.yield lp) #[] #[]) :: cap.toList) (first'.toList ++ (.func (.yield w1.heap.size) #[] #[]) :: cap'.toList) :=
          ((AllR.mono (fun _ _ y=>(y.mono lw1).mono lw2) k1)).append (.cons (.yield lp (w1.heap.size, 0) (x1F _ _ _)) (AllR.mono (fun _ _ y=>(y.mono lw1).mono lw2) k2))
        have hcalls:=c4 _ _ _ hargs e2.wr (g2.left l2)
        have hb : fnd.body.isNone = false:=by rw [c3]; rfl
        have he : (first' ++ #[.func (.yield w1.heap.size) #[] #[]] ++ cap' : Array Value) = (first'.toList ++ (.func (.yield w1.heap.size) #[] #[]) :: cap'.toList).toArray:=by
          apply Array.ext'
          simp
        refine ⟨w1.heap.size,mks,_, { target:= .fn (.func g) cap',args:=first' ++ #[.func (.yield w1.heap.size) #[] #[]] }, { w1 with heap:=w1.heap.push (.loop { state:= .ready,pending:=none,fn:=fnc,tmps:=a.tmps,params:=ps,assign,body,defers:=dl }) }, g,(first'.toList ++ (.func (.yield w1.heap.size) #[] #[]) :: cap'.toList).toArray, { w1 with heap:=w1.heap.push (.loop { state:= .ready,pending:=none,fn:=fnc,tmps:=a.tmps,params:=ps,assign,body,defers:=dl }) }, b5, ?_,fun _ _=>trivial, ?_,fun h=>by simp at h, ?_⟩
        . simp only [resolve,List.map_toArray,List.map_cons,List.map_nil,hρ, Deferred.ofValue]
          rfl
        . simp only [invoke,callFunc,Sem.run_bind,run_program,Result.andThen_ok,c2,hN g fnd c2,Bool.false_eq_true,if_false,hb,he,Sem.run_pure]
        . refine CallsIn.mono (F:=fen ro) hcalls ?_
          rintro e w3 ⟨cc, ε, rfl,_,e3⟩
          have lw3:=e3.le (g2.left l2)
          have e123:=e12.trans e3 (by omega) l1 (hf.left l2)
          have hq3 : ε lp = some (w1.heap.size, 0):=lw3 _ _ (x1F _ _ _)
          obtain ⟨s,y1,y2,y3,y4,y5,y6,y7,⟨z,y8,y9⟩,y10⟩:=e3.wr.loop h5 hq3
          obtain ⟨t1,t2⟩:=y5P (n:=n3) (r':= { r with state:= .exhausted }) (s':= { s with state:= .exhausted }) e3.wr h5 hq3 y1 (.loop _ _ z rfl y3 y4 y5 y6 y7 y8 y9 y10)
          refine ⟨r.pending, { w3 with heap:=w3.heap.setIfInBounds w1.heap.size (.loop { s with state:= .exhausted }) }, ?_, ?_⟩
          . have hnb : (s.state == LoopState.busy) = false := by
              rw [y2]
              cases hst : r.state <;> first | rfl | (rw [hst] at h7; cases h7)
            simp only [Instr.endLoop,Sem.run_bind,x4X y1,Result.andThen_ok,hnb,Bool.false_eq_true,if_false,t1,Sem.run_pure]
            rw [y3]
          . have eall:=e123.trans t2 (by omega) (Nat.le_refl _) (hf.left l2)
            have lall:=eall.le (hf.left l2)
            have hM3 : Mk ε (hget (hset H3 lp (.loop { r with state:= .exhausted }))) _ lo n3 (mks ++ a.defers) :=
              ((b4.ext e2 (g1.left (by omega)) (by omega)).ext e3 (g2.left l2) l1).ext t2 (fun i a b=>by omega) (Nat.le_refl _)
            exact j2 ε _ { a with defers:=mks ++ a.defers } ro lo Q (hT.mono lall) hz t2.wr (hf.right eall (by omega)) (hr.mono lall) hM3 fun η a' w' hp=>hQ η a' w' ⟨eall.trans hp.ext (by omega) l2 hf,hp.tr,hp.sz,hp.mks⟩
    . cases hcall
  . cases h4
end
end Go.Xec
namespace Go.Xec
variable [GT]
open Go
theorem z9J (m i : Nat) : tb m i = m.testBit i:=by
  rw [Nat.testBit_eq_decide_div_mod_eq]
  unfold tb
  rw [show Nat.shiftRight m i = m / 2 ^ i from Nat.shiftRight_eq_div_pow m i]
  by_cases h : m / 2 ^ i % 2 = 1
  . rw [show Nat.mod (m / 2 ^ i) 2 = m / 2 ^ i % 2 from rfl,h]; rfl
  . rw [show Nat.mod (m / 2 ^ i) 2 = m / 2 ^ i % 2 from rfl,x0J h]; simp [h]
theorem z5L (i j : Nat) : tb (bit i) j = decide (i = j):=by
  rw [z9J,bit,show Nat.shiftLeft 1 i = 2 ^ i from Nat.one_shiftLeft i,Nat.testBit_two_pow]
theorem y8H (a b i : Nat) : tb (Nat.lor a b) i = (tb a i || tb b i):=by
  rw [z9J,z9J,z9J]; exact Nat.testBit_or a b i
theorem z9H (i : Nat) : tb 0 i = false:=by rw [z9J]; simp
theorem z5N {a b i : Nat} (h : sub a b = true) (hi : tb a i = true) : tb b i = true:=by
  have e : Nat.land a b = a:=x0S h
  rw [z9J] at hi |-
  have : (a &&& b).testBit i = (a.testBit i && b.testBit i):=Nat.testBit_and a b i
  rw [show a &&& b = a from e,hi] at this
  simpa using this.symm
theorem tb_full {d m i : Nat} (h : Nat.beq d (Nat.sub (bit m) 1) = true) : tb d i = decide (i < m):=by
  rw [z9J,x0S h,bit,show Nat.shiftLeft 1 m = 2 ^ m from Nat.one_shiftLeft m]
  exact Nat.testBit_two_pow_sub_one m i
theorem lnat_nil (i : Nat) : lnat [] i = 0:=rfl
theorem y1N : ∀ (l : List Nat) (i : Nat),lnat l i = (l[i]?).getD 0
  | [],i=>by simp [lnat_nil]
  | x :: l, 0=>rfl
  | x :: l,i + 1=>by
    rw [List.getElem?_cons_succ]
    exact y1N l i
def u7B (all : List Oper) (S : Nat -> Prop) : Prop:= ∀ i o,all[i]? = some o -> S i -> ∀ e ∈ o.after.toList,Region.binds .any e = true -> S e.on
theorem y0L (acc : List Nat) (e : Edge) (es : List Edge) : x5R acc (e :: es) = cond (Region.binds .any e) (Nat.lor (Nat.lor (bit e.on) (lnat acc e.on)) (x5R acc es)) (x5R acc es):=rfl
theorem x9W (acc : List Nat) : ∀ (es : List Edge) (j : Nat),tb (x5R acc es) j = true -> ∃ e ∈ es,Region.binds .any e = true /\ (j = e.on \/ tb (lnat acc e.on) j = true)
  | [],j,h=>by rw [show x5R acc [] = 0 from rfl,z9H] at h; cases h
  | e :: es,j,h=>by
    rw [y0L] at h
    cases hb : Region.binds .any e with
    | false =>
      rw [hb,cond_false] at h
      obtain ⟨e',h1,h2⟩:=x9W acc es j h
      exact ⟨e',by simp [h1],h2⟩
    | true =>
      rw [hb,cond_true,y8H,y8H,z5L] at h
      simp only [Bool.or_eq_true,decide_eq_true_eq] at h
      rcases h with (h | h) | h
      . exact ⟨e,by simp,hb, .inl h.symm⟩
      . exact ⟨e,by simp,hb, .inr h⟩
      . obtain ⟨e',h1,h2⟩:=x9W acc es j h
        exact ⟨e',by simp [h1],h2⟩
def GoodD (all : List Oper) (acc : List Nat) : Prop:= ∀ (i : Nat) (o : Oper),i < acc.length -> all[i]? = some o -> ∀ S : Nat -> Prop,u7B all S -> (∀ e ∈ o.after.toList,Region.binds .any e = true -> S e.on) -> ∀ j,tb (lnat acc i) j = true -> S j
theorem z0G (o : Oper) (ops : List Oper) (acc : List Nat) : x9F (o :: ops) acc = x9F ops (acc ++ [x5R acc o.after.toList]):=rfl
theorem z0F (all : List Oper) : ∀ (ops pre : List Oper) (acc : List Nat),all = pre ++ ops -> acc.length = pre.length -> GoodD all acc -> GoodD all (x9F ops acc) /\ (x9F ops acc).length = all.length
  | [],pre,acc,h1,h2,h3=>⟨h3,by rw [show x9F [] acc = acc from rfl,h2,h1]; simp⟩
  | o :: ops,pre,acc,h1,h2,h3=>by
    rw [z0G]
    refine z0F all ops (pre ++ [o]) _ (by rw [h1]; simp) (by simp [h2]) fun i o' hi ho S hS he j hj=> ?_
    rw [y1N] at hj
    by_cases hlt : i < acc.length
    . rw [List.getElem?_append_left hlt, <- y1N] at hj
      exact h3 i o' hlt ho S hS he j hj
    . have hi' : i = acc.length:=by simp at hi; omega
      subst hi'
      rw [List.getElem?_append_right (Nat.le_refl _)] at hj
      simp at hj
      have ho' : o' = o:=by
        rw [h1,h2,List.getElem?_append_right (Nat.le_refl _)] at ho
        simpa using ho.symm
      subst ho'
      obtain ⟨e,e1,e2,e3⟩:=x9W acc _ j hj
      rcases e3 with rfl | e3
      . exact he e e1 e2
      . have hl : e.on < acc.length := by
          rcases Nat.lt_or_ge e.on acc.length with h | h
          . exact h
          . rw [y1N,List.getElem?_eq_none h] at e3; rw [show (none : Option Nat).getD 0 = 0 from rfl,z9H] at e3; cases e3
        have hin : e.on < all.length:=by rw [h1]; simp; omega
        exact h3 e.on all[e.on] hl (List.getElem?_eq_getElem hin) S hS (hS e.on _ (List.getElem?_eq_getElem hin) (he e e1 e2)) j e3
theorem y2U (acc : List Nat) : ∀ (es : List Edge) (e : Edge),e ∈ es -> Region.binds .any e = true -> tb (x5R acc es) e.on = true
  | x :: es,e,h,hb=>by
    rw [y0L]
    rcases List.mem_cons.1 h with rfl | h
    . rw [hb,cond_true,y8H,y8H,z5L]; simp
    . have ih:=y2U acc es e h hb
      cases hx : Region.binds .any x with
      | false=>rw [cond_false]; exact ih
      | true=>rw [cond_true,y8H,ih]; simp
def EdgeD (all : List Oper) (acc : List Nat) : Prop:= ∀ (i : Nat) (o : Oper),i < acc.length -> all[i]? = some o -> ∀ e ∈ o.after.toList,Region.binds .any e = true -> tb (lnat acc i) e.on = true
theorem y6Q (all : List Oper) : ∀ (ops pre : List Oper) (acc : List Nat),all = pre ++ ops -> acc.length = pre.length -> EdgeD all acc -> EdgeD all (x9F ops acc)
  | [],pre,acc,h1,h2,h3=>h3
  | o :: ops,pre,acc,h1,h2,h3=>by
    rw [z0G]
    refine y6Q all ops (pre ++ [o]) _ (by rw [h1]; simp) (by simp [h2]) fun i o' hi ho e he hb=> ?_
    rw [y1N]
    by_cases hlt : i < acc.length
    . rw [List.getElem?_append_left hlt, <- y1N]
      exact h3 i o' hlt ho e he hb
    . have hi' : i = acc.length:=by simp at hi; omega
      subst hi'
      rw [List.getElem?_append_right (Nat.le_refl _)]
      have ho' : o' = o:=by
        rw [h1,h2,List.getElem?_append_right (Nat.le_refl _)] at ho
        simpa using ho.symm
      subst ho'
      simpa using y2U acc _ e he hb
theorem u2C (all : List Oper) : EdgeD all (x9F all []):=y6Q all all [] [] rfl rfl (fun i o h=>by cases h)
theorem v0D (all : List Oper) : GoodD all (x9F all []) /\ (x9F all []).length = all.length :=
  z0F all all [] [] rfl rfl (fun i o h=>by cases h)
theorem z6H (D : List Nat) (m i : Nat) (ord : List Nat) (done : Nat) : y1J D m (i :: ord) done =
    cond (cond (Nat.ble (i + 1) m) (cond (tb done i) false (sub (lnat D i) done)) false) (y1J D m ord (Nat.lor done (bit i))) false:=rfl
theorem y2J (D : List Nat) (m : Nat) : ∀ (ord pre : List Nat) (done : Nat),(∀ j,tb done j = true ↔ j ∈ pre) -> pre.Nodup -> (∀ j ∈ pre,j < m) -> y1J D m ord done = true ->
    (pre ++ ord).Nodup /\ (∀ j,j ∈ pre ++ ord ↔ j < m) /\ ∀ (l r : List Nat) (i : Nat),ord = l ++ i :: r -> ∀ j,tb (lnat D i) j = true -> j ∈ pre ++ l
  | [],pre,done,h1,h2,h3,h=>by
    have h : Nat.beq done (Nat.sub (bit m) 1) = true:=h
    refine ⟨by simpa using h2,fun j=> ?_,fun l r i e=>by simp at e⟩
    rw [List.append_nil, <- h1,tb_full h]; simp
  | i :: ord,pre,done,h1,h2,h3,h=>by
    rw [z6H] at h
    obtain ⟨a1,a2⟩:=x0D h
    obtain ⟨a3,a4⟩:=x0D a1
    have a5 : tb done i = false:=by
      cases hb : tb done i with
      | false=>rfl
      | true=>rw [hb] at a4; cases a4
    rw [a5,cond_false] at a4
    have hni : i ∉ pre:=fun hm=>by rw [(h1 i).2 hm] at a5; cases a5
    obtain ⟨b1,b2,b3⟩:=y2J D m ord (pre ++ [i]) (Nat.lor done (bit i)) (fun j=>by
      rw [y8H,z5L]; simp only [Bool.or_eq_true,decide_eq_true_eq,List.mem_append,List.mem_singleton,h1]
      constructor
      . rintro (h | h)
        . exact .inl h
        . exact .inr h.symm
      . rintro (h | h)
        . exact .inl h
        . exact .inr h.symm) (by
      rw [List.nodup_append]
      exact ⟨h2,by simp,fun a ha b hb e=>by simp at hb; subst hb; subst e; exact hni ha⟩) (fun j hj=>by
      rcases List.mem_append.1 hj with h | h
      . exact h3 j h
      . simp at h; subst h; exact x1E a3) a2
    refine ⟨by simpa using b1,fun j=>by simpa using b2 j,fun l r k e j hj=> ?_⟩
    cases l with
    | nil =>
      simp at e
      obtain ⟨rfl,rfl⟩:=e
      rw [List.append_nil]
      exact (h1 j).1 (z5N a4 hj)
    | cons x l =>
      simp at e
      obtain ⟨rfl,e⟩:=e
      have:=b3 l r k e j hj
      simpa using this
theorem u0B {D : List Nat} {m : Nat} {ord : List Nat} (h : y1J D m ord 0 = true) : ord.Nodup /\ (∀ j,j ∈ ord ↔ j < m) /\ ∀ (l r : List Nat) (i : Nat),ord = l ++ i :: r -> ∀ j,tb (lnat D i) j = true -> j ∈ l:=by
  have:=y2J D m ord [] 0 (fun j=>by rw [z9H]; simp) List.nodup_nil (fun j h=>by cases h) h
  simpa using this
theorem inL_ok {t : Nat} : ∀ {l : List Nat}, t ∈ l -> inL t l = true
  | x :: l,h=>by
    have e : inL t (x :: l) = cond (Nat.beq x t) true (inL t l):=rfl
    rw [e]
    rcases List.mem_cons.1 h with rfl | h
    . rw [x0R rfl]; rfl
    . rw [inL_ok h]; cases Nat.beq x t <;> rfl
theorem u7F (D : List Nat) (i : Nat) (di : Option Tmp) (li : List Tmp) (o : Oper) (ops : List Oper) (j : Nat) : u7G D i di li (o :: ops) j = cond (u4M D i j di o.dst li) (u7G D i di li ops (j + 1)) false:=rfl
theorem y9A (D : List Nat) (i : Nat) (di : Option Tmp) (li : List Tmp) : ∀ (ops : List Oper) (j : Nat),u7G D i di li ops j = true -> ∀ k o,ops[k]? = some o -> u4M D i (j + k) di o.dst li = true
  | [],j,h,k,o,ho=>by simp at ho
  | x :: ops,j,h,k,o,ho=>by
    rw [u7F] at h
    obtain ⟨h1,h2⟩:=x0D h
    cases k with
    | zero=>simp at ho; subst ho; exact h1
    | succ k =>
      have:=y9A D i di li ops (j + 1) h2 k o (by simpa using ho)
      rw [show j + (k + 1) = j + 1 + k from by omega]; exact this
theorem z6F (D : List Nat) (all : List Oper) (o : Oper) (ops : List Oper) (i : Nat) : y1H D all (o :: ops) i = cond (u7G D i o.dst (looks all o) all 0) (y1H D all ops (i + 1)) false:=rfl
theorem y2G (D : List Nat) (all : List Oper) : ∀ (ops : List Oper) (i : Nat),y1H D all ops i = true -> ∀ k o,ops[k]? = some o -> u7G D (i + k) o.dst (looks all o) all 0 = true
  | [],i,h,k,o,ho=>by simp at ho
  | x :: ops,i,h,k,o,ho=>by
    rw [z6F] at h
    obtain ⟨h1,h2⟩:=x0D h
    cases k with
    | zero=>simp at ho; subst ho; exact h1
    | succ k =>
      have:=y2G D all ops (i + 1) h2 k o (by simpa using ho)
      rw [show i + (k + 1) = i + 1 + k from by omega]; exact this
theorem y5D {D : List Nat} {all : List Oper} (h : y1H D all all 0 = true) {i j : Nat} {oi oj : Oper} (hi : all[i]? = some oi) (hj : all[j]? = some oj) (hne : i ≠ j) {t : Tmp} (ht : oj.dst = some t) :
    oi.dst ≠ some t /\ (t ∈ looks all oi -> tb (lnat D i) j = true \/ tb (lnat D j) i = true):=by
  have h1:=y2G D all all 0 h i oi hi
  have h2:=y9A D _ _ _ all 0 h1 j oj hj
  simp only [Nat.zero_add] at h2
  unfold u4M at h2
  rw [x0J hne,cond_false] at h2
  obtain ⟨h3,h4⟩:=x0D h2
  rw [ht] at h3 h4
  refine ⟨fun e=> ?_,fun hm=> ?_⟩
  . rw [e] at h3; simp [dstNe] at h3
  . simp only [inL_ok hm,cond_true] at h4
    cases hb : tb (lnat D i) j with
    | true=>exact .inl rfl
    | false=>rw [hb,cond_false] at h4; exact .inr h4
theorem u0M (P : Program) (sz : Nat) (all : List Oper) (D : List Nat) (i : Nat) (ord : List Nat) : y5W P sz all D (i :: ord) = (match lget all i with | some o=>⟨i,lnat D i,kdOf P o.op,compI P sz all o⟩ :: y5W P sz all D ord | none=>y5W P sz all D ord):=rfl
theorem y5V (P : Program) (sz : Nat) (all : List Oper) (D : List Nat) : ∀ (ord : List Nat),(∀ j ∈ ord,j < all.length) -> (y5W P sz all D ord).map (·.i) = ord /\ ∀ x ∈ y5W P sz all D ord, ∃ o,all[x.i]? = some o /\ x.D = lnat D x.i /\ x.kd = kdOf P o.op /\ x.c = compI P sz all o
  | [],_=>⟨rfl,fun x hx=>by cases hx⟩
  | i :: ord,h=>by
    obtain ⟨h1,h2⟩:=y5V P sz all D ord fun j hj=>h j (by simp [hj])
    have hi : i < all.length:=h i (by simp)
    rw [u0M,lget_eq,List.getElem?_eq_getElem hi]
    refine ⟨by simp [h1],fun x hx=> ?_⟩
    rcases List.mem_cons.1 hx with rfl | hx
    . exact ⟨all[i],List.getElem?_eq_getElem hi,rfl,rfl,rfl⟩
    . exact h2 x hx
structure Plan (P : Program) (sz : Nat) (all : List Oper) (L : List PI) : Prop where
  item : ∀ (p : Nat) (x : PI),L[p]? = some x -> ∃ o,all[x.i]? = some o /\ x.kd = kdOf P o.op /\ x.c = compI P sz all o
  uniq : ∀ (p q : Nat) (x y : PI),L[p]? = some x -> L[q]? = some y -> x.i = y.i -> p = q
  full : ∀ (i : Nat) (o : Oper),all[i]? = some o -> ∃ (p : Nat) (x : PI),L[p]? = some x /\ x.i = i
  ahead : ∀ (p : Nat) (x : PI) (j : Nat),L[p]? = some x -> tb x.D j = true -> ∃ (q : Nat) (y : PI),q < p /\ L[q]? = some y /\ y.i = j
  hang : ∀ (p : Nat) (x : PI) (o : Oper) (S : Nat -> Prop),L[p]? = some x -> all[x.i]? = some o -> u7B all S -> (∀ e ∈ o.after.toList,Region.binds .any e = true -> S e.on) -> ∀ j,tb x.D j = true -> S j
  edge : ∀ (p : Nat) (x : PI) (o : Oper) (e : Edge),L[p]? = some x -> all[x.i]? = some o -> e ∈ o.after.toList -> Region.binds .any e = true -> tb x.D e.on = true
  dsts : ∀ (p q : Nat) (x y : PI) (ox oy : Oper) (t : Tmp),L[p]? = some x -> L[q]? = some y -> all[x.i]? = some ox -> all[y.i]? = some oy -> p ≠ q -> oy.dst = some t -> ox.dst ≠ some t
  looked : ∀ (p q : Nat) (x y : PI) (ox oy : Oper) (t : Tmp),L[p]? = some x -> L[q]? = some y -> all[x.i]? = some ox -> all[y.i]? = some oy -> p ≠ q -> oy.dst = some t -> t ∈ looks all ox -> tb x.D y.i = true \/ tb y.D x.i = true
theorem y9E {P : Program} {sz : Nat} {all : List Oper} {L : List PI} (h : y0E P sz all = some L) : Plan P sz all L:=by
  unfold y0E at h
  simp only at h
  generalize orderL (x9F all []) (v3R (isEff P) all 0) (u4Z P (x9F all []) all 0) all.length ((List.range all.length).filter (tb (v3R (isEff P) all 0))) 0 0 = ord at h
  unfold u4K at h
  cases hc : cond (y1J (x9F all []) all.length ord 0) (y1H (x9F all []) all all 0) false with
  | false=>rw [hc] at h; cases h
  | true =>
    rw [hc,cond_true] at h
    cases h
    obtain ⟨c1,c2⟩:=x0D hc
    obtain ⟨o1,o2,o3⟩:=u0B c1
    obtain ⟨i1,i2⟩:=y5V P sz all (x9F all []) ord fun j hj=>(o2 j).1 hj
    obtain ⟨d1,d2⟩:=v0D all
    generalize hL : y5W P sz all (x9F all []) ord = L at *
    have idx : ∀ (p : Nat) (x : PI),L[p]? = some x -> ord[p]? = some x.i:=fun p x hx=>by rw [<- i1]; simp [hx]
    have mem : ∀ (p : Nat) (x : PI),L[p]? = some x -> x ∈ L:=fun p x hx=>List.mem_of_getElem? hx
    have len : L.length = ord.length:=by rw [<- i1]; simp
    refine ⟨fun p x hx=> ?_,fun p q x y hx hy e=> ?_,fun i o ho=> ?_,fun p x j hx hj=> ?_,fun p x o S hx ho hS he j hj=> ?_,fun p x o e hx ho he hb=> ?_,fun p q x y ox oy t hx hy hox hoy hne ht=> ?_,fun p q x y ox oy t hx hy hox hoy hne ht hm=> ?_⟩
    . obtain ⟨o,a1,a2,a3,a4⟩:=i2 x (mem p x hx); exact ⟨o,a1,a3,a4⟩
    . have hp:=idx p x hx
      have hq:=idx q y hy
      rw [<- e] at hq
      have hpl:=(List.getElem?_eq_some_iff.1 hp).1
      exact (List.getElem?_inj hpl o1).1 (hp.trans hq.symm)
    . have : i ∈ ord:=(o2 i).2 (List.getElem?_eq_some_iff.1 ho).1
      obtain ⟨p,hp⟩:=List.getElem?_of_mem this
      have hpl : p < L.length:=by rw [len]; exact (List.getElem?_eq_some_iff.1 hp).1
      refine ⟨p,L[p],List.getElem?_eq_getElem hpl, ?_⟩
      have:=idx p _ (List.getElem?_eq_getElem hpl)
      rw [hp] at this; exact (Option.some.inj this).symm
    . obtain ⟨o,a1,a2,a3,a4⟩:=i2 x (mem p x hx)
      rw [a2] at hj
      have hp:=idx p x hx
      have hpl:=(List.getElem?_eq_some_iff.1 hp).1
      have hsplit : ord = ord.take p ++ x.i :: ord.drop (p + 1):=by
        have e1 : ord[p] = x.i:=by rw [List.getElem?_eq_getElem hpl] at hp; exact Option.some.inj hp
        rw [<- e1]; simp
      have:=o3 _ _ _ hsplit j hj
      obtain ⟨q,hq⟩:=List.getElem?_of_mem this
      have hql:=(List.getElem?_eq_some_iff.1 hq).1
      simp at hql
      rw [List.getElem?_take_of_lt (by omega)] at hq
      have hqL : q < L.length:=by rw [len]; omega
      refine ⟨q,L[q],by omega,List.getElem?_eq_getElem hqL, ?_⟩
      have:=idx q _ (List.getElem?_eq_getElem hqL)
      rw [hq] at this; exact (Option.some.inj this).symm
    . obtain ⟨o',a1,a2,a3,a4⟩:=i2 x (mem p x hx)
      rw [a2] at hj
      exact d1 x.i o (by rw [d2]; exact (List.getElem?_eq_some_iff.1 ho).1) ho S hS he j hj
    . obtain ⟨o',a1,a2,a3,a4⟩:=i2 x (mem p x hx)
      rw [a2]
      exact u2C all x.i o (by rw [d2]; exact (List.getElem?_eq_some_iff.1 ho).1) ho e he hb
    . have : x.i ≠ y.i := fun e => hne (by
        have hp:=idx p x hx
        have hq:=idx q y hy
        rw [<- e] at hq
        exact (List.getElem?_inj (List.getElem?_eq_some_iff.1 hp).1 o1).1 (hp.trans hq.symm))
      exact (y5D c2 hox hoy this ht).1
    . have : x.i ≠ y.i := fun e => hne (by
        have hp:=idx p x hx
        have hq:=idx q y hy
        rw [<- e] at hq
        exact (List.getElem?_inj (List.getElem?_eq_some_iff.1 hp).1 o1).1 (hp.trans hq.symm))
      obtain ⟨_,_,a2,_,_⟩:=i2 x (mem p x hx)
      obtain ⟨_,_,b2,_,_⟩:=i2 y (mem q y hy)
      rw [a2,b2]
      exact (y5D c2 hox hoy this ht).2 hm
end Go.Xec
