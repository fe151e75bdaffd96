/-
  THE EXECUTOR: append.; THE EXECUTOR: a string's bytes as a row of bytes; a row of bytes as the same.
-/
import Derived.Test.YtadehgdfijjikaaGreatDoorX3
import Derived.Laws.Append
import Derived.Lib.ConvBytes
import Derived.Laws.AppendOwn
set_option linter.all false
namespace Go.Xec
open Go
variable [GT]
section
variable {P : Program} {o : Oper} {T : Tm} {H H' : Hp} {n n' : Nat} {v : Value}
theorem z8M {β : Bm} : ∀ l : List UInt8,VL β (l.map fun b=>Value.int .u8 b.toNat) (l.map fun b=>Value.int .u8 b.toNat)
  | []=> .nil
  | _ :: l=> .cons (.int _ _) (z8M l)
theorem v2K {β : Bm} {w : World} (hW : WR P β (hget H) w) {xA x : Value} (hx : VR β xA x) {size k : Nat} {new : List Value} (hk : lenS xA = some k) (hn : x5U H size xA = some new) :
    (Builtin.lenOf x).run P w = .ok k w /\ ∃ us : List Value,VL β new us /\ ∀ w1 : World,w1.heap = w.heap -> (Builtin.firstCells size k x).run P w1 = .ok us.toArray w1:=by
  unfold lenS at hk
  split at hk
  . cases hk; cases hx; cases hn
    exact ⟨by simp [Builtin.lenOf],[], .nil,fun w1 _=>by simp [Builtin.firstCells]⟩
  . rename_i a m cp
    cases hk
    obtain ⟨b,k',_,hb,hρ, _⟩:=y3E hx
    subst hρ
    have hn' : (x0Y H a.block).bind (fun p=>cut p.1 a.off (Nat.mul k size)) = some new:=hn
    cases h1 : x0Y H a.block with
    | none=>rw [h1] at hn'; cases hn'
    | some p =>
      rw [h1] at hn'
      obtain ⟨c,l',rest,fz,e1,e2,e3,_,_⟩:=hW.cells h1 hb
      obtain ⟨r',q1,q2,q3⟩:=part_at e2 e3 hn'
      refine ⟨by simp [Builtin.lenOf],r',q1,fun w1 hw1=> ?_⟩
      simp only [Builtin.firstCells]
      exact x6G (by rw [hw1]; exact e1) _ r' _ q2 q3
  . rename_i s
    cases hk; cases hx; cases hn
    refine ⟨by simp [Builtin.lenOf],s.data.toList.map fun b=> .int .u8 b.toNat,z8M _,fun w1 _=> ?_⟩
    have e : s.extract 0 s.size = s:=by simp
    simp only [Builtin.firstCells,Sem.run_pure,e]
    congr 1
    apply Array.ext'
    simp
  . cases hk
theorem v3G {o : Option TypeDesc} (h : u4S o = true) : ∃ d,o = some d /\ ∀ k,d ≠ .int k:=by
  unfold u4S at h; split at h
  . cases h
  . rename_i d hne; exact ⟨d,rfl,fun k e=>hne k (by rw [e])⟩
  . cases h
theorem y7Z (z : Array Value) (m : Nat) : (Builtin.zeroCells z m).size = m * z.size:=by simp [Builtin.zeroCells]
theorem v6V {sT xT : TypeId} {s x : Operand} (ho : ∃ args ts,o.op = .call { callee:= .builtin .append,args,argTypes:=ts } /\ args.toList = [s,x] /\ ts.toList = [sT,xT])
    (h : (y6Y P sT xT s x).f T H n = .ok v H' n') : OpS P o T H n v H' n':=by
  obtain ⟨args,ts,ho,ha,ht⟩:=ho
  obtain rfl : args = #[s,x]:=Array.ext' ha
  obtain rfl : ts = #[sT,xT]:=Array.ext' ht
  unfold y6Y at h
  obtain ⟨h1,h2⟩:=x4N h
  obtain ⟨e,h3,h4⟩:=x1N h2
  obtain ⟨i,h5,h6⟩:=x1N h4
  obtain ⟨z,h7,h8⟩:=x1N h6
  obtain ⟨h9,h10⟩:=x4N h8
  obtain ⟨h11,h12⟩:=x0D h9
  obtain ⟨h13,h14⟩:=x0D h12
  obtain ⟨k,h15,h16⟩:=x1J (o:=lenS (ev T x)) h10
  obtain ⟨new,h17,h18⟩:=x1J h16
  obtain ⟨h19,h20⟩:=x2R h18
  obtain ⟨h21,h22⟩:=x0D h19
  have s1 : 1 <= i.size:=x1E h11
  have b1 : 1 <= i.bytes:=x1E h13
  have zl : z.length = i.size:=x0S h14
  have nl : new.length = k * i.size:=x0S h22
  obtain ⟨dx,hdx,hni⟩:=v3G h1
  have hsz : x1G P e = some i.size:=by unfold x1G; rw [h5]; rfl
  have common : ∀ (β : Bm) (w : World) (ρ : Operand -> Value), (∀ y ∈ o.op.operands, VR β (ev T y) (ρ y)) -> WR P β (hget H) w ->
      ∃ us : List Value,VL β new us /\ us.length = k * i.size /\ (∀ y ∈ us,y.oneCell' = true) /\ (∀ w1 : World,w1.heap = w.heap -> (Builtin.firstCells i.size k (ρ x)).run P w1 = .ok us.toArray w1) /\ (Builtin.lenOf (ρ x)).run P w = .ok k w:=by
    intro β w ρ hx hW
    have hxr:=hx x (by simp [ho,Op.operands,Call.operands])
    obtain ⟨r1,us,r2,r3⟩:=v2K hW hxr h15 h17
    exact ⟨us,r2,by rw [<- r2.length]; exact nl,y7T h21 r2,r3,r1⟩
  have hb0 : ¬ (i.bytes = 0):=by omega
  have fit : ∀ (w : World) (ρ : Operand -> Value) (base : Option Addr) (sLen sCap : Nat) (us : List Value), ρ s = .slice base sLen sCap -> (Builtin.lenOf (ρ x)).run P w = .ok k w -> (Builtin.firstCells i.size k (ρ x)).run P w = .ok us.toArray w -> sLen + k <= sCap ->
      ∀ w',(∀ a,base = some a -> (storeCells (a.add (sLen * i.size)) us).run P w = .ok () w') -> (base = none -> w' = w) -> (execOp ρ o).run P w = .ok (.value (.slice base (sLen + k) sCap)) w':=by
    intro w ρ base sLen sCap us hs r1 r3 hfit w' hw hw0
    simp only [execOp,ho,resolve,invoke,builtin,Builtin.append_,List.map_toArray,List.map_cons,List.map_nil,Sem.run_bind,Sem.run_pure,Result.andThen_ok,List.getElem?_toArray,List.getElem?_cons_zero,List.getElem?_cons_succ,
      x0M (x2G h3),hs,x1Y hsz,x0M hdx,Bool.false_eq_true,if_false,r1,Bool.not_false,if_true,if_pos hfit,r3]
    cases base with
    | none=>rw [hw0 rfl]; simp
    | some a=>simp [hw a rfl]
  have grow : ∀ (w : World) (ρ : Operand -> Value) (base : Option Addr) (sLen sCap : Nat) (us os : List Value), ρ s = .slice base sLen sCap -> (Builtin.lenOf (ρ x)).run P w = .ok k w ->
      (∀ w1 : World,w1.heap = w.heap -> (Builtin.firstCells i.size k (ρ x)).run P w1 = .ok us.toArray w1) -> (∀ w1 : World,w1.heap = w.heap -> (Builtin.firstCells i.size sLen (.slice base sLen sCap)).run P w1 = .ok os.toArray w1) ->
      ¬ (sLen + k <= sCap) -> (sLen + k) * i.bytes <= 1099511627776 ->
      ∃ (nc : Nat) (y : Value),sLen + k <= nc /\ y.cells.toList = z /\
        (execOp ρ o).run P w = .ok (.value (.slice (some ⟨w.heap.size, 0,none⟩) (sLen + k) nc)) { w with heap:=w.heap.push (.cells (os.toArray ++ us.toArray ++ Builtin.zeroCells y.cells (nc - (sLen + k))) e (0, 0)),drawn:=w.drawn + 1 } :=by
    intro w ρ base sLen sCap us os hs r1 r3 r4 hfit hbd
    have hns : ¬ (Builtin.nextslicecap (sLen + k) sCap * i.bytes > 281474976710656):=by
      have:=growslice_fits (need:=sLen + k) (old:=sCap) (bytes:=i.bytes) (by omega) (by omega)
      omega
    obtain ⟨hz1,_⟩:=y4D h7
    obtain ⟨y,hy,hyc⟩:=z2A (P:=P) (w:= { w with drawn:=w.drawn + 1 }) hz1
    refine ⟨Question.cut (.appendCap (sLen + k) sCap e) (w.tape w.drawn (.appendCap (sLen + k) sCap e)),y,by simp [Question.cut],hyc, ?_⟩
    have e48 : (2 : Nat) ^ 48 = 281474976710656:=by decide
    simp only [execOp,ho,resolve,invoke,builtin,Builtin.append_,List.map_toArray,List.map_cons,List.map_nil,Sem.run_bind,Sem.run_pure,Result.andThen_ok,List.getElem?_toArray,List.getElem?_cons_zero,List.getElem?_cons_succ,
      x0M (x2G h3),hs,x1Y hsz,x0M hdx,Bool.false_eq_true,if_false,r1,Bool.not_false,if_true,if_neg hfit,y3L h5,hb0,or_self,and_false,e48,if_neg hns,run_choose,Question.forced,run_askRoom]
    have q4:=r4 { w with drawn:=w.drawn + 1 } rfl
    have q3:=r3 { w with drawn:=w.drawn + 1 } rfl
    simp only [q4,Result.andThen_ok,q3,hy,newRow,Sem.run_bind,run_newObj,Sem.run_pure]
  have grown : ∀ (base : Option Addr) (sLen : Nat) (oldA : List Value), oldA.length = sLen * i.size -> Nat.ble (Nat.mul (Nat.add sLen k) i.bytes) 1099511627776 = true ->
      ∀ (β : Bm) (w : World) (ρ : Operand -> Value) (sCap : Nat) (us os : List Value),WR P β (hget H) w -> β n = none -> ρ s = .slice base sLen sCap -> (Builtin.lenOf (ρ x)).run P w = .ok k w ->
      (∀ w1 : World,w1.heap = w.heap -> (Builtin.firstCells i.size k (ρ x)).run P w1 = .ok us.toArray w1) -> (∀ w1 : World,w1.heap = w.heap -> (Builtin.firstCells i.size sLen (.slice base sLen sCap)).run P w1 = .ok os.toArray w1) ->
      ¬ (sLen + k <= sCap) -> VL β oldA os -> VL β new us ->
      ∃ r c w' γ, (execOp ρ o).run P w = .ok r w' /\ nextV r = some c /\ VR γ (.slice (some ⟨n, 0,none⟩) (sLen + k) unk) c /\ Ext P β (hget H) n w γ (hget (hset H n (.cells (oldA ++ new) e))) (n + 1) w':=by
    intro base sLen oldA ol hbd β w ρ sCap us os hW hn hs r1 r3 r4 hfit ho' hu'
    obtain ⟨nc,y,g1,g2,g3⟩:=grow w ρ base sLen sCap us os hs r1 r3 r4 hfit (x1E hbd)
    have ys : y.cells.size = i.size:=by rw [<- Array.length_toList,g2]; exact zl
    refine ⟨_,_,_,upd β n (w.heap.size,nc),g3,rfl, .sl _ _ (w.heap.size,nc) _ _ _ (x1F _ _ _) (.inr ⟨rfl,g1,fun _=>rfl⟩), ?_⟩
    refine Ext.congr (Ext.new hW hn (m:=nc) (.cells (oldA ++ new) (os ++ us) e _ (Builtin.zeroCells y.cells (nc - (sLen + k))).toList (0, 0) (ho'.append hu') (by simp) ?_ (.inl rfl))) rfl rfl rfl rfl
    intro sz hsz'
    rw [hsz] at hsz'; cases hsz'
    have l1:=ho'.length
    have l2:=hu'.length
    have : (sLen + k) * i.size + (nc - (sLen + k)) * i.size = nc * i.size:=by rw [<- Nat.add_mul]; congr 1; omega
    have t : (sLen + k) * i.size = sLen * i.size + k * i.size:=Nat.add_mul _ _ _
    simp only [Array.size_append,y7Z,List.size_toArray,ys]
    omega
  unfold appTo at h20
  split at h20
  ·
    rename_i hsA
    cases hk0 : Nat.beq k 0 with
    | true =>
      rw [hk0,cond_true] at h20
      cases h20
      have k0 : k = 0:=x0S hk0
      refine OpS.same fun β w ρ hx hW=> ?_
      obtain ⟨us,u1,u2,u3,u4,u5⟩:=common β w ρ hx hW
      have hr:=hx s (by simp [ho,Op.operands,Call.operands])
      rw [hsA] at hr
      have hs : ρ s = .slice none 0 0:=by generalize ρ s = y at hr; cases hr; rfl
      refine ⟨.slice none (0 + k) 0,fit w ρ none 0 0 us hs u5 (u4 w rfl) (by omega) w (fun _ h=>by cases h) (fun _=>rfl), ?_⟩
      subst k0; exact .nilSl 0 0
    | false =>
      rw [hk0,cond_false] at h20
      obtain ⟨hbd,h23⟩:=x2R h20
      cases h23
      have k0 : k ≠ 0:=fun e=>by subst e; cases hk0
      refine ⟨by omega,fun j hj h0=>by rw [x0E,if_neg (by omega)]; exact h0,fun β w ρ hx hW hf=> ?_⟩
      obtain ⟨us,u1,u2,u3,u4,u5⟩:=common β w ρ hx hW
      have hr:=hx s (by simp [ho,Op.operands,Call.operands])
      rw [hsA] at hr
      have hs : ρ s = .slice none 0 0:=by generalize ρ s = y at hr; cases hr; rfl
      have:=grown none 0 [] (by simp) (by simpa using hbd) β w ρ 0 us [] hW (hf n (Nat.le_refl _) (by omega)) hs u5 u4 (fun w1 _=>by simp [Builtin.firstCells]) (by omega) .nil u1
      simpa using this
  . rename_i a sLen sCap hsA
    cases hk0 : Nat.beq k 0 with
    | true =>
      rw [hk0,cond_true] at h20
      obtain ⟨hcap,h23⟩:=x2R h20
      cases h23
      have k0 : k = 0:=x0S hk0
      refine OpS.same fun β w ρ hx hW=> ?_
      obtain ⟨us,u1,u2,u3,u4,u5⟩:=common β w ρ hx hW
      have hr:=hx s (by simp [ho,Op.operands,Call.operands])
      rw [hsA] at hr
      obtain ⟨b,k',hsp,hb,hs,hkk⟩:=y3E hr
      have us0 : us = []:=List.eq_nil_of_length_eq_zero (by rw [u2,k0]; simp)
      subst us0
      have hle : sLen <= k':=by
        rcases hkk with ⟨e1,e2⟩ | ⟨_,e2,_⟩
        . rw [x0J e2,cond_false] at hcap; have:=x1E hcap; omega
        . exact e2
      refine ⟨.slice (some ⟨b.1,a.off,none⟩) (sLen + k) k',fit w ρ _ sLen k' [] hs u5 (u4 w rfl) (by omega) w (fun _ _=>by simp [storeCells]) (fun h=>by cases h), ?_⟩
      subst k0
      rw [hs] at hr
      exact hr
    | false =>
      rw [hk0,cond_false] at h20
      have k0 : k ≠ 0:=fun e=>by subst e; cases hk0
      obtain ⟨hbd,h23⟩:=x2R h20
      obtain ⟨p,h24,h25⟩:=x1J h23
      unfold z8V at h25
      cases hu : Nat.beq sCap unk with
      | true =>
        rw [hu,cond_true] at h25
        obtain ⟨h26,h27⟩:=x2R h25
        cases h27
        obtain ⟨h28,h29⟩:=x0D h26
        obtain ⟨h30,h31⟩:=x0D h29
        have a0 : a.off = 0:=x0S h28
        have pl : p.1.length = sLen * i.size:=x0S h30
        have pe : p.2 = e:=x0S h31
        have scu : sCap = unk:=x0S hu
        have hlive:=x3V h24
        refine ⟨by omega,fun j hj h0=> ?_,fun β w ρ hx hW hf=> ?_⟩
        . rw [x0E,if_neg (by omega),x0E]
          split
          . rename_i ej; subst ej; rw [hlive] at h0; cases h0
          . exact h0
        . have hn:=hf n (Nat.le_refl _) (by omega)
          obtain ⟨us,u1,u2,u3,u4,u5⟩:=common β w ρ hx hW
          have hr:=hx s (by simp [ho,Op.operands,Call.operands])
          rw [hsA] at hr
          obtain ⟨b,k',hsp,hb,hs,hkk⟩:=y3E hr
          have hkk : sLen <= k' /\ b.2 = k':=by
            rcases hkk with ⟨_,e2⟩ | ⟨_,e2,e3⟩
            . exact absurd scu e2
            . exact ⟨e2,e3 a0⟩
          obtain ⟨c,l',rest,fz,e1,e2,e3,e4,hz⟩:=hW.cells h24 hb
          have l1:=e2.length
          by_cases hfit : sLen + k <= k'
          ·
            have hroom : (sLen + k) * i.size <= c.size:=by
              have q1:=e4 i.size (by rw [pe]; exact hsz)
              rw [hkk.2] at q1
              exact Nat.le_trans (Nat.mul_le_mul_right _ hfit) q1
            have t : (sLen + k) * i.size = sLen * i.size + k * i.size:=Nat.add_mul _ _ _
            have hrun:=x6F (P:=P) b.1 (sLen * i.size) p.2 fz us 0 c w e1 hz (by omega) u3
            have hrow:=setRow_heap w b.1 c (c.toList.take (sLen * i.size + 0) ++ us ++ c.toList.drop (sLen * i.size + 0 + us.length)).toArray p.2 fz e1
            have hcl : c.toList.length = c.size:=Array.length_toList
            refine ⟨_,_,_,upd β n b,fit w ρ _ sLen k' us hs u5 (u4 w rfl) hfit _ (fun x hx'=>by cases hx'; rw [x4B,a0,Nat.zero_add]; exact hrun) (fun h=>by cases h),rfl, ?_, ?_⟩
            . rw [a0]
              exact .sl _ _ b _ _ _ (x1F _ _ _) (.inr ⟨rfl,hfit,fun _=>hkk.2⟩)
            . rw [<- pe]
              refine Ext.move hW hn hlive hb (by simp) (by simp) (by simp) hrow (fun c' hc'=>setRow_other w b.1 c' _ hc') (.cells (p.1 ++ new) (l' ++ us) p.2 _ (c.toList.drop (sLen * i.size + us.length)) fz (e2.append u1) ?_ (fun sz hsz'=> ?_) ?_) rfl rfl rfl
              . have : c.toList.take (sLen * i.size) = l':=by rw [e3,List.take_append_of_le_length (by omega),List.take_of_length_le (by omega)]
                simp [this]
              . have:=e4 sz hsz'
                simp; omega
              . rcases hz with hz | hz
                . exact .inl hz
                . right; simp; omega
          ·
            have hold : ∀ w1 : World,w1.heap = w.heap -> (Builtin.firstCells i.size sLen (.slice (some ⟨b.1,a.off,none⟩) sLen k')).run P w1 = .ok l'.toArray w1:=fun w1 hw1=>by
              simp only [Builtin.firstCells]
              refine x6G (by rw [hw1]; exact e1) _ l' _ (by omega) fun j v hv=> ?_
              rw [a0,Nat.zero_add,e3,List.getElem?_append_left (List.getElem?_eq_some_iff.1 hv).1]
              exact hv
            obtain ⟨r,cc,w', γ, q1,q2,q3,q4⟩:=grown (some ⟨b.1,a.off,none⟩) sLen p.1 pl hbd β w ρ k' us l' hW hn hs u5 u4 hold hfit e2 u1
            refine ⟨r,cc,w', γ, q1,q2,q3, ?_⟩
            have hin : a.block ≠ n:=fun e=>by rw [e,hW.fresh hn] at hlive; cases hlive
            have get : ∀ j,hget (hset (hset H a.block .dead) n (.cells (p.1 ++ new) e)) j = if j = n then some (.cells (p.1 ++ new) e) else if j = a.block then some .dead else hget H j:=fun j=>by rw [x0E,x0E]
            refine ⟨q4.same,⟨fun j r g=> ?_,fun j m c d r t g1 g2 d1 d2 b1 b2 bc=> ?_,q4.wr.glob,fun g cs hgt j r c k1 k2 k3=> ?_⟩,q4.size,q4.frame,fun j r d g1 g2 g3=> ?_,fun j g=> ?_,q4.kept,q4.os,q4.out,q4.tape⟩
            . rw [get] at g
              by_cases ej : j = n
              . rw [if_pos ej] at g
                exact q4.wr.obj j r (by rw [x0E,if_pos ej]; exact g)
              . rw [if_neg ej] at g
                by_cases ea : j = a.block
                . rw [if_pos ea] at g; cases g
                  obtain ⟨d,x,k1,k2,k3⟩:=q4.wr.obj j _ (by rw [x0E,if_neg ej,ea]; exact hlive)
                  exact ⟨d,x,k1,k2, .dead _⟩
                . rw [if_neg ea] at g
                  exact q4.wr.obj j r (by rw [x0E,if_neg ej]; exact g)
            . have back : ∀ j r, hget (hset (hset H a.block .dead) n (.cells (p.1 ++ new) e)) j = some r -> r ≠ .dead -> hget (hset H n (.cells (p.1 ++ new) e)) j = some r := fun j r g d => by
                rw [get] at g
                rw [x0E]
                by_cases ej : j = n
                . rw [if_pos ej] at g |-; exact g
                . rw [if_neg ej] at g |-
                  by_cases ea : j = a.block
                  . rw [if_pos ea] at g; cases g; exact absurd rfl d
                  . rw [if_neg ea] at g; exact g
              exact q4.wr.inj j m c d r t (back j r g1 d1) (back m t g2 d2) d1 d2 b1 b2 bc
            . refine q4.wr.off g cs hgt j r c ?_ k2 k3
              rw [get] at k1
              rw [x0E]
              by_cases ej : j = n
              . rw [if_pos ej] at k1 |-; exact k1
              . rw [if_neg ej] at k1 |-
                by_cases ea : j = a.block
                . rw [if_pos ea] at k1; cases k1; exact absurd rfl k2
                . rw [if_neg ea] at k1; exact k1
            . rw [get] at g1
              refine q4.orig j r d ?_ g2 g3
              rw [x0E]
              by_cases ej : j = n
              . rw [if_pos ej] at g1 |-; exact g1
              . rw [if_neg ej] at g1 |-
                by_cases ea : j = a.block
                . rw [if_pos ea] at g1; cases g1; exact absurd rfl g2
                . rw [if_neg ea] at g1; exact g1
            . rw [get,if_neg,if_neg]
              . exact g
              . intro ea; rw [ea,hlive] at g; cases g
              . intro ej; rw [ej,hW.fresh hn] at g; cases g
      | false =>
        rw [hu,cond_false] at h25
        have scu : sCap ≠ unk:=fun e=>by rw [x0R e] at hu; cases hu
        cases hfitA : Nat.ble (Nat.add sLen k) sCap with
        | true =>
          rw [hfitA,cond_true] at h25
          unfold x7R at h25
          obtain ⟨p',h26,h27⟩:=x1J h25
          obtain ⟨l2,h28,h29⟩:=x1J h27
          cases h29
          refine ⟨Nat.le_refl _,fun j _ h0=> ?_,fun β w ρ hx hW _=> ?_⟩
          . rw [x0E]; split
            . rename_i ej; subst ej; rw [x3V h26] at h0; cases h0
            . exact h0
          . obtain ⟨us,u1,u2,u3,u4,u5⟩:=common β w ρ hx hW
            have hr:=hx s (by simp [ho,Op.operands,Call.operands])
            rw [hsA] at hr
            obtain ⟨b,k',hsp,hb,hs,hkk⟩:=y3E hr
            have hkk : sCap = k':=by
              rcases hkk with ⟨e1,_⟩ | ⟨e1,_⟩
              . exact e1
              . exact absurd e1 scu
            subst hkk
            obtain ⟨w',r1,r2⟩:=z4S (P:=P) (n:=n) hW h26 hb h28 u1 u3
            refine ⟨_,_,w', β, fit w ρ _ sLen sCap us hs u5 (u4 w rfl) (x1E hfitA) w' (fun x hx'=>by cases hx'; rw [x4B]; exact r1) (fun h=>by cases h),rfl, .sl _ _ b _ _ _ hb (.inl ⟨rfl,scu⟩),r2⟩
        | false =>
          rw [hfitA,cond_false] at h25
          obtain ⟨old,h26,h27⟩:=x1J h25
          cases h27
          have hno : ¬ (sLen + k <= sCap):=fun h=>by
            have : Nat.ble (sLen + k) sCap = true:=Nat.ble_eq_true_of_le h
            rw [show Nat.add sLen k = sLen + k from rfl,this] at hfitA; cases hfitA
          refine ⟨by omega,fun j hj h0=>by rw [x0E,if_neg (by omega)]; exact h0,fun β w ρ hx hW hf=> ?_⟩
          obtain ⟨us,u1,u2,u3,u4,u5⟩:=common β w ρ hx hW
          have hr:=hx s (by simp [ho,Op.operands,Call.operands])
          rw [hsA] at hr
          obtain ⟨b,k',hsp,hb,hs,hkk⟩:=y3E hr
          have hkk : sCap = k':=by
            rcases hkk with ⟨e1,_⟩ | ⟨e1,_⟩
            . exact e1
            . exact absurd e1 scu
          subst hkk
          obtain ⟨c,l',rest,fz,e1,e2,e3,e4,hz⟩:=hW.cells h24 hb
          obtain ⟨os,q1,q2,q3⟩:=part_at e2 e3 h26
          have ol : old.length = sLen * i.size:=by rw [q1.length]; exact q2
          exact grown (some ⟨b.1,a.off,none⟩) sLen old ol hbd β w ρ sCap us os hW (hf n (Nat.le_refl _) (by omega)) hs u5 u4 (fun w1 hw1=>by
            simp only [Builtin.firstCells]
            exact x6G (by rw [hw1]; exact e1) _ os _ q2 q3) hno q1 u1
  . cases h20
end
end Go.Xec
namespace Go.Xec
open Go
variable [GT]
section
variable {P : Program} {o : Oper} {T : Tm} {H H' : Hp} {n n' : Nat} {v : Value}
theorem isU8_ok' {o : Option TypeDesc} (h : isU8 o = true) : o = some (.int .u8):=by
  unfold isU8 at h; split at h
  . rfl
  . cases h
theorem v4G {o : Option TypeDesc} (h : x9E o = true) : o = some .string:=by
  unfold x9E at h; split at h
  . rfl
  . cases h
theorem y6Z (w : World) (e : TypeId) (s : ByteArray) : (Lib.bytesWorld w e s).heap = w.heap.push (.cells (Lib.bytesCells w e s) e ((Lib.bytesCells w e s).size,(Lib.bytesCells w e s).size + 1)):=by
  apply Array.ext_getElem?
  intro j
  by_cases h1 : j < w.heap.size
  . rw [Lib.bytesWorld_at_old w e s j h1,Array.getElem?_push_lt h1,Array.getElem?_eq_getElem h1]
  . by_cases h2 : j = w.heap.size
    . subst h2
      rw [Lib.bytesWorld_at_new]; simp
    . rw [Array.getElem?_eq_none (by rw [Lib.bytesWorld_size]; omega),Array.getElem?_eq_none (by simp; omega)]
theorem u0U (w : World) (b k : Nat) {c : Array Value} {e : TypeId} {fz : Nat × Nat} (h : w.heap[b]? = some (.cells c e fz)) (hk : c.size = k) (hz : fz = (0, 0) \/ c.size <= fz.1) :
    ∃ fz',(fz' = (0, 0) \/ c.size <= fz'.1) /\ (w.freeze ⟨b,k,none⟩ 1).heap[b]? = some (.cells c e fz') /\ (∀ j,j ≠ b -> (w.freeze ⟨b,k,none⟩ 1).heap[j]? = w.heap[j]?) /\ (w.freeze ⟨b,k,none⟩ 1).heap.size = w.heap.size /\ (w.freeze ⟨b,k,none⟩ 1).os = w.os /\ (w.freeze ⟨b,k,none⟩ 1).output = w.output /\ (w.freeze ⟨b,k,none⟩ 1).tape = w.tape:=by
  subst hk
  obtain ⟨lo,hi⟩:=fz
  refine ⟨if lo == hi then (c.size,c.size + 1) else (min lo c.size,max hi (c.size + 1)), ?_, ?_,fun j hj=> ?_, ?_,rfl,rfl,rfl⟩
  . right
    split
    . exact Nat.le_refl _
    . rename_i hne
      rcases hz with hz | hz
      . cases hz; exact absurd rfl hne
      . have hz : c.size <= lo:=hz
        show c.size <= min lo c.size
        omega
  . simp [World.freeze,Array.getElem?_modify,h]
  . simp [World.freeze,Array.getElem?_modify,Ne.symm hj]
  . simp [World.freeze]
theorem u7D {s d : TypeId} {x : Operand} {e : TypeId} (ho : o.op = .convert s d x) (hd : P.underlying d = some (.slice e)) (h : (y0T P s d x e).f T H n = .ok v H' n') : OpS P o T H n v H' n':=by
  obtain ⟨h1,h2⟩:=x4N h
  obtain ⟨h3,h4⟩:=x0D h1
  have h3:=isU8_ok' h3
  have hsz : x1G P e = some 1:=by
    split at h4
    . rename_i k hk; rw [hk,x0S h4]
    . cases h4
  cases hs : x9E (P.underlying s) with
  | true =>
    rw [hs,cond_true] at h2
    obtain ⟨b,h5,h6⟩:=z2H (x:=ev T x) h2
    cases h6
    refine ⟨Nat.le_succ n,fun i hi h0=>by rw [x0E,if_neg (by omega)]; exact h0,fun β w ρ hx hW hf=> ?_⟩
    have hn:=hf n (Nat.le_refl _) (Nat.lt_succ_self n)
    have hρ : ρ x = .string b:=str_of (β := β) (h5 ▸ hx x (by simp [ho,Op.operands]))
    have hrun:=Lib.run_convert_string_bytes (P:=P) w s d e b (v4G hs) hd h3
    have hge:=grownCap_ge w b.size 0 e
    have hcs : (Lib.bytesCells w e b).size = grownCap w b.size 0 e:=by
      have : b.data.size = b.size:=rfl
      simp [Lib.bytesCells,this]; omega
    have hE : execOp ρ o = (do pure (.value (<- convert s d (ρ x)))):=by unfold execOp; rw [ho]
    refine ⟨.value (.slice (some ⟨w.heap.size, 0,none⟩) b.size (grownCap w b.size 0 e)),_,Lib.bytesWorld w e b,upd β n (w.heap.size,grownCap w b.size 0 e), ?_,rfl, .sl _ _ (w.heap.size,grownCap w b.size 0 e) _ _ _ (x1F _ _ _) (.inr ⟨rfl,hge,fun _=>rfl⟩), ?_⟩
    . rw [hE,hρ]
      simp only [Sem.run_bind,hrun,Result.andThen_ok,Sem.run_pure]
    . refine Ext.congr (Ext.new hW hn (m:=grownCap w b.size 0 e) (.cells _ (b.data.toList.map fun c=> .int .u8 c.toNat) e (Lib.bytesCells w e b) (List.replicate (grownCap w b.size 0 e - b.size) (.int .u8 0)) ((Lib.bytesCells w e b).size,(Lib.bytesCells w e b).size + 1) (x9C ?_) ?_ (fun sz hsz'=> ?_) (.inr (Nat.le_refl _)))) (y6Z w e b) rfl rfl rfl
      . generalize b.data.toList = l
        induction l with
        | nil=>rfl
        | cons a l ih=>exact ih
      . simp [Lib.bytesCells]
      . rw [hsz] at hsz'; cases hsz'
        rw [hcs]; omega
  | false =>
    rw [hs,cond_false] at h2
    obtain ⟨h5,h6⟩:=x4N h2
    obtain ⟨h7,h8⟩:=x0D h5
    have hsd : s = d:=x0S h7
    subst hsd
    obtain ⟨a,l,c,h9,h10⟩:=z2J h6
    obtain ⟨p,h11,h12⟩:=x1J h10
    cases h12
    refine ⟨Nat.le_refl _,fun i _ h0=>h0,fun β w ρ hx hW _=> ?_⟩
    have hr:=hx x (by simp [ho,Op.operands])
    rw [h9] at hr
    obtain ⟨b,k',hsp,hb,hρ, hkk⟩:=y3E hr
    obtain ⟨cs,l',rest,fz,e1,e2,e3,e4,hz⟩:=hW.cells h11 hb
    obtain ⟨fz',q1,q2,q3,q4,q5,q6,q7⟩:=u0U w b.1 cs.size e1 rfl hz
    have hE : execOp ρ o = (do pure (.value (<- convert s s (ρ x)))):=by unfold execOp; rw [ho]
    have hsh : w.shape? b.1 = some (p.2,cs.size):=by simp [World.shape?, e1]
    have hG : hget (hset H a.block (.cells p.1 p.2)) = hget H:=by
      funext j
      rw [x0E]
      split
      . rename_i e; subst e; exact (x3V h11).symm
      . rfl
    refine ⟨.value (ρ x),_,w.freeze ⟨b.1,cs.size,none⟩ 1, β, ?_,rfl,hr, ?_⟩
    . rw [hE,hρ]
      have : (convert s s (.slice (some ⟨b.1,a.off,none⟩) l k')).run P w = .ok (.slice (some ⟨b.1,a.off,none⟩) l k') (w.freeze ⟨b.1,cs.size,none⟩ 1):=by
        simp [convert,x0M hd,x0M h3,markStringish,hsh]
      simp only [Sem.run_bind,this,Result.andThen_ok,Sem.run_pure]
    . have:=Ext.turn (n:=n) hW (x3V h11) hb (by simp) (by simp) q4 q2 q3 (.cells p.1 l' p.2 cs rest fz' e2 e3 e4 q1) q5 q6 q7
      rw [hG] at this
      exact this
end
end Go.Xec
