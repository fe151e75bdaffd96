/-
  THE EXECUTOR: append.; THE EXECUTOR: a string's bytes as a row of bytes; a row of bytes as the same.; THE EXECUTOR: slices, comparisons, arithmetic, conversions, builtins; and all operations together.
-/
import Derived.Test.YtadehgdfijjikaaGreatDoorX2
import Derived.Laws.Append
import Derived.Lib.ConvBytes
import Derived.Laws.AppendOwn
import Derived.Laws.BytesString
set_option linter.all false
namespace Go.Xec
open Go
variable [GT]
section
variable {P:Program} {o:Oper} {T:Tm} {H H':Hp} {n n':Nat} {v:Value}
theorem z8Q {β:Bm}:∀ l:List UInt8,VL β (l.map fun b=>Value.int .u8 b.toNat) (l.map fun b=>Value.int .u8 b.toNat)
  | []=> .nil
  | _::l=> .cons (.int _ _) (z8Q l)
theorem v3Q {β:Bm} {w:World} (hW:WR P β (hget H) w) {xA x:Value} (hx:VR β xA x) {size k:Nat} {new:List Value} (hk:lenS xA=some k) (hn:x6J H size xA=some new) :
    (Builtin.lenOf x).run P w = .ok k w/\∃ us:List Value,VL β new us/\∀ w1:World,w1.heap=w.heap->(Builtin.firstCells size k x).run P w1 = .ok us.toArray w1:=by
  unfold lenS at hk;split at hk
  . cases hk; cases hx; cases hn;exact ⟨by simp [Builtin.lenOf],[], .nil,fun w1 _=>by simp [Builtin.firstCells]⟩
  . rename_i a m cp;cases hk;obtain ⟨b,k',_,hb,hρ, _⟩:=y4E hx;subst hρ;have hn':(x0Z H a.block).bind (fun p=>cut p.1 a.off (Nat.mul k size))=some new:=hn;cases h1:x0Z H a.block with
    | none=>rw [h1] at hn'; cases hn'
    | some p =>
      rw [h1] at hn';obtain ⟨c,l',rest,fz,e1,e2,e3,_,_⟩:=hW.cells h1 hb;obtain ⟨r',q1,q2,q3⟩:=part_at e2 e3 hn';refine ⟨by simp [Builtin.lenOf],r',q1,fun w1 hw1=> ?_⟩
      simp only [Builtin.firstCells];exact x6X (by rw [hw1]; exact e1) _ r' _ q2 q3
  . rename_i s;cases hk; cases hx; cases hn;refine ⟨by simp [Builtin.lenOf],s.data.toList.map fun b=> .int .u8 b.toNat,z8Q _,fun w1 _=> ?_⟩
    have e:s.extract 0 s.size=s:=by simp
    simp only [Builtin.firstCells,Sem.run_pure,e];congr 1;apply Array.ext';simp
  . cases hk
theorem v4Q {o:Option TypeDesc} (h:u6B o=true):∃ d,o=some d/\∀ k,d ≠ .int k:=by
  unfold u6B at h; split at h
  . cases h
  . rename_i d hne; exact ⟨d,rfl,fun k e=>hne k (by rw [e])⟩
  . cases h
theorem y9H (z:Array Value) (m:Nat):(Builtin.zeroCells z m).size=m*z.size:=by simp [Builtin.zeroCells]
theorem v7V {sT xT:TypeId} {s x:Operand} (ho:∃ args ts,o.op = .call { callee:= .builtin .append,args,argTypes:=ts }/\args.toList=[s,x]/\ts.toList=[sT,xT])
    (h:(y8E P sT xT s x).f T H n = .ok v H' n'):OpS P o T H n v H' n':=by
  obtain ⟨args,ts,ho,ha,ht⟩:=ho;obtain rfl:args=#[s,x]:=Array.ext' ha;obtain rfl:ts=#[sT,xT]:=Array.ext' ht;unfold y8E at h;obtain ⟨h1,h2⟩:=x4Y h;obtain ⟨e,h3,h4⟩:=x1S h2;obtain ⟨i,h5,h6⟩:=x1S h4;obtain ⟨z,h7,h8⟩:=x1S h6;obtain ⟨h9,h10⟩:=x4Y h8;obtain ⟨h11,h12⟩:=x0D h9;obtain ⟨h13,h14⟩:=x0D h12;obtain ⟨k,h15,h16⟩:=x1M (o:=lenS (ev T x)) h10;obtain ⟨new,h17,h18⟩:=x1M h16;obtain ⟨h19,h20⟩:=x2Z h18;obtain ⟨h21,h22⟩:=x0D h19;have s1:1 <= i.size:=x1H h11;have b1:1 <= i.bytes:=x1H h13;have zl:z.length=i.size:=x0S h14;have nl:new.length=k*i.size:=x0S h22;obtain ⟨dx,hdx,hni⟩:=v4Q h1;have hsz:x1K P e=some i.size:=by unfold x1K; rw [h5]; rfl
  have common:∀ (β:Bm) (w:World) (ρ:Operand->Value), (∀ y∈o.op.operands, VR β (ev T y) (ρ y))->WR P β (hget H) w ->
      ∃ us:List Value,VL β new us/\us.length=k*i.size/\(∀ y∈us,y.oneCell'=true)/\(∀ w1:World,w1.heap=w.heap->(Builtin.firstCells i.size k (ρ x)).run P w1 = .ok us.toArray w1)/\(Builtin.lenOf (ρ x)).run P w = .ok k w:=by
    intro β w ρ hx hW;have hxr:=hx x (by simp [ho,Op.operands,Call.operands])
    obtain ⟨r1,us,r2,r3⟩:=v3Q hW hxr h15 h17;exact ⟨us,r2,by rw [<- r2.length]; exact nl,y9B h21 r2,r3,r1⟩
  have hb0:¬ (i.bytes=0):=by omega
  have fit:∀ (w:World) (ρ:Operand->Value) (base:Option Addr) (sLen sCap:Nat) (us:List Value), ρ s = .slice base sLen sCap->(Builtin.lenOf (ρ x)).run P w = .ok k w->(Builtin.firstCells i.size k (ρ x)).run P w = .ok us.toArray w->sLen+k <= sCap ->
      ∀ w',(∀ a,base=some a->(storeCells (a.add (sLen*i.size)) us).run P w = .ok () w')->(base=none->w'=w)->(execOp ρ o).run P w = .ok (.value (.slice base (sLen+k) sCap)) w':=by
    intro w ρ base sLen sCap us hs r1 r3 hfit w' hw hw0;simp only [execOp,ho,resolve,invoke,builtin,Builtin.append_,List.map_toArray,List.map_cons,List.map_nil,Sem.run_bind,Sem.run_pure,Result.andThen_ok,List.getElem?_toArray,List.getElem?_cons_zero,List.getElem?_cons_succ,
      x0M (x2Q h3),hs,x2E hsz,x0M hdx,Bool.false_eq_true,if_false,r1,Bool.not_false,if_true,if_pos hfit,r3]
    cases base with
    | none=>rw [hw0 rfl]; simp
    | some a=>simp [hw a rfl]
  have grow:∀ (w:World) (ρ:Operand->Value) (base:Option Addr) (sLen sCap:Nat) (us os:List Value), ρ s = .slice base sLen sCap->(Builtin.lenOf (ρ x)).run P w = .ok k w ->
      (∀ w1:World,w1.heap=w.heap->(Builtin.firstCells i.size k (ρ x)).run P w1 = .ok us.toArray w1)->(∀ w1:World,w1.heap=w.heap->(Builtin.firstCells i.size sLen (.slice base sLen sCap)).run P w1 = .ok os.toArray w1) ->
      ¬ (sLen+k <= sCap)->(sLen+k)*i.bytes <= 1099511627776 ->
      ∃ (nc:Nat) (y:Value),sLen+k <= nc/\y.cells.toList=z /\
        (execOp ρ o).run P w = .ok (.value (.slice (some ⟨w.heap.size, 0,none⟩) (sLen+k) nc)) { w with heap:=w.heap.push (.cells (os.toArray++us.toArray++Builtin.zeroCells y.cells (nc-(sLen+k))) e (0, 0)),drawn:=w.drawn+1 } :=by
    intro w ρ base sLen sCap us os hs r1 r3 r4 hfit hbd;have hns:¬ (Builtin.nextslicecap (sLen+k) sCap*i.bytes > 281474976710656):=by
      have:=growslice_fits (need:=sLen+k) (old:=sCap) (bytes:=i.bytes) (by omega) (by omega)
      omega
    obtain ⟨hz1,_⟩:=y5G h7;obtain ⟨y,hy,hyc⟩:=z2K (P:=P) (w:= { w with drawn:=w.drawn+1 }) hz1;refine ⟨Question.cut (.appendCap (sLen+k) sCap e) (w.tape w.drawn (.appendCap (sLen+k) sCap e)),y,by simp [Question.cut],hyc, ?_⟩
    have e48:(2:Nat) ^ 48=281474976710656:=by decide
    simp only [execOp,ho,resolve,invoke,builtin,Builtin.append_,List.map_toArray,List.map_cons,List.map_nil,Sem.run_bind,Sem.run_pure,Result.andThen_ok,List.getElem?_toArray,List.getElem?_cons_zero,List.getElem?_cons_succ,
      x0M (x2Q h3),hs,x2E hsz,x0M hdx,Bool.false_eq_true,if_false,r1,Bool.not_false,if_true,if_neg hfit,y4K h5,hb0,or_self,and_false,e48,if_neg hns,run_choose,Question.forced,run_askRoom]
    have q4:=r4 { w with drawn:=w.drawn+1 } rfl;have q3:=r3 { w with drawn:=w.drawn+1 } rfl;simp only [q4,Result.andThen_ok,q3,hy,newRow,Sem.run_bind,run_newObj,Sem.run_pure]
  have grown:∀ (base:Option Addr) (sLen:Nat) (oldA:List Value), oldA.length=sLen*i.size->Nat.ble (Nat.mul (Nat.add sLen k) i.bytes) 1099511627776=true ->
      ∀ (β:Bm) (w:World) (ρ:Operand->Value) (sCap:Nat) (us os:List Value),WR P β (hget H) w->β n=none->ρ s = .slice base sLen sCap->(Builtin.lenOf (ρ x)).run P w = .ok k w ->
      (∀ w1:World,w1.heap=w.heap->(Builtin.firstCells i.size k (ρ x)).run P w1 = .ok us.toArray w1)->(∀ w1:World,w1.heap=w.heap->(Builtin.firstCells i.size sLen (.slice base sLen sCap)).run P w1 = .ok os.toArray w1) ->
      ¬ (sLen+k <= sCap)->VL β oldA os->VL β new us ->
      ∃ r c w' γ, (execOp ρ o).run P w = .ok r w'/\nextV r=some c/\VR γ (.slice (some ⟨n, 0,none⟩) (sLen+k) unk) c/\Ext P β (hget H) n w γ (hget (hset H n (.cells (oldA++new) e))) (n+1) w':=by
    intro base sLen oldA ol hbd β w ρ sCap us os hW hn hs r1 r3 r4 hfit ho' hu';obtain ⟨nc,y,g1,g2,g3⟩:=grow w ρ base sLen sCap us os hs r1 r3 r4 hfit (x1H hbd);have ys:y.cells.size=i.size:=by rw [<- Array.length_toList,g2]; exact zl
    refine ⟨_,_,_,upd β n (w.heap.size,nc),g3,rfl, .sl _ _ (w.heap.size,nc) _ _ _ (x1J _ _ _) (.inr ⟨rfl,g1,fun _=>rfl⟩), ?_⟩;refine Ext.congr (Ext.new hW hn (m:=nc) (.cells (oldA++new) (os++us) e _ (Builtin.zeroCells y.cells (nc-(sLen+k))).toList (0, 0) (ho'.append hu') (by simp) ?_ (.inl rfl))) rfl rfl rfl rfl
    intro sz hsz';rw [hsz] at hsz'; cases hsz';have l1:=ho'.length;have l2:=hu'.length;have:(sLen+k)*i.size+(nc-(sLen+k))*i.size=nc*i.size:=by rw [<- Nat.add_mul]; congr 1; omega
    have t:(sLen+k)*i.size=sLen*i.size+k*i.size:=Nat.add_mul _ _ _;simp only [Array.size_append,y9H,List.size_toArray,ys];omega
  unfold appTo at h20;split at h20
  ·
    rename_i hsA;cases hk0:Nat.beq k 0 with
    | true =>
      rw [hk0,cond_true] at h20;cases h20;have k0:k=0:=x0S hk0;refine OpS.same fun β w ρ hx hW=> ?_;obtain ⟨us,u1,u2,u3,u4,u5⟩:=common β w ρ hx hW;have hr:=hx s (by simp [ho,Op.operands,Call.operands])
      rw [hsA] at hr;have hs:ρ s = .slice none 0 0:=by generalize ρ s=y at hr; cases hr; rfl
      refine ⟨.slice none (0+k) 0,fit w ρ none 0 0 us hs u5 (u4 w rfl) (by omega) w (fun _ h=>by cases h) (fun _=>rfl), ?_⟩
      subst k0; exact .nilSl 0 0
    | false =>
      rw [hk0,cond_false] at h20;obtain ⟨hbd,h23⟩:=x2Z h20;cases h23;have k0:k≠0:=fun e=>by subst e; cases hk0
      refine ⟨by omega,fun j hj h0=>by rw [x0E,if_neg (by omega)]; exact h0,fun β w ρ hx hW hf=> ?_⟩
      obtain ⟨us,u1,u2,u3,u4,u5⟩:=common β w ρ hx hW;have hr:=hx s (by simp [ho,Op.operands,Call.operands])
      rw [hsA] at hr;have hs:ρ s = .slice none 0 0:=by generalize ρ s=y at hr; cases hr; rfl
      have:=grown none 0 [] (by simp) (by simpa using hbd) β w ρ 0 us [] hW (hf n (Nat.le_refl _) (by omega)) hs u5 u4 (fun w1 _=>by simp [Builtin.firstCells]) (by omega) .nil u1
      simpa using this
  . rename_i a sLen sCap hsA;cases hk0:Nat.beq k 0 with
    | true =>
      rw [hk0,cond_true] at h20;obtain ⟨hcap,h23⟩:=x2Z h20;cases h23;have k0:k=0:=x0S hk0;refine OpS.same fun β w ρ hx hW=> ?_;obtain ⟨us,u1,u2,u3,u4,u5⟩:=common β w ρ hx hW;have hr:=hx s (by simp [ho,Op.operands,Call.operands])
      rw [hsA] at hr;obtain ⟨b,k',hsp,hb,hs,hkk⟩:=y4E hr;have us0:us=[]:=List.eq_nil_of_length_eq_zero (by rw [u2,k0]; simp)
      subst us0;have hle:sLen <= k':=by
        rcases hkk with ⟨e1,e2⟩ | ⟨_,e2,_⟩
        . rw [x0J e2,cond_false] at hcap; have:=x1H hcap; omega
        . exact e2
      refine ⟨.slice (some ⟨b.1,a.off,none⟩) (sLen+k) k',fit w ρ _ sLen k' [] hs u5 (u4 w rfl) (by omega) w (fun _ _=>by simp [storeCells]) (fun h=>by cases h), ?_⟩
      subst k0;rw [hs] at hr;exact hr
    | false =>
      rw [hk0,cond_false] at h20;have k0:k≠0:=fun e=>by subst e; cases hk0
      obtain ⟨hbd,h23⟩:=x2Z h20;obtain ⟨p,h24,h25⟩:=x1M h23;unfold z8Z at h25;cases hu:Nat.beq sCap unk with
      | true =>
        rw [hu,cond_true] at h25;obtain ⟨h26,h27⟩:=x2Z h25;cases h27;obtain ⟨h28,h29⟩:=x0D h26;obtain ⟨h30,h31⟩:=x0D h29;have a0:a.off=0:=x0S h28;have pl:p.1.length=sLen*i.size:=x0S h30;have pe:p.2=e:=x0S h31;have scu:sCap=unk:=x0S hu;have hlive:=x4H h24;refine ⟨by omega,fun j hj h0=> ?_,fun β w ρ hx hW hf=> ?_⟩
        . rw [x0E,if_neg (by omega),x0E]
          split
          . rename_i ej; subst ej; rw [hlive] at h0; cases h0
          . exact h0
        . have hn:=hf n (Nat.le_refl _) (by omega)
          obtain ⟨us,u1,u2,u3,u4,u5⟩:=common β w ρ hx hW;have hr:=hx s (by simp [ho,Op.operands,Call.operands])
          rw [hsA] at hr;obtain ⟨b,k',hsp,hb,hs,hkk⟩:=y4E hr;have hkk:sLen <= k'/\b.2=k':=by
            rcases hkk with ⟨_,e2⟩ | ⟨_,e2,e3⟩
            . exact absurd scu e2
            . exact ⟨e2,e3 a0⟩
          obtain ⟨c,l',rest,fz,e1,e2,e3,e4,hz⟩:=hW.cells h24 hb;have l1:=e2.length
          by_cases hfit:sLen+k <= k'
          ·
            have hroom:(sLen+k)*i.size <= c.size:=by
              have q1:=e4 i.size (by rw [pe]; exact hsz)
              rw [hkk.2] at q1;exact Nat.le_trans (Nat.mul_le_mul_right _ hfit) q1
            have t:(sLen+k)*i.size=sLen*i.size+k*i.size:=Nat.add_mul _ _ _;have hrun:=x6W (P:=P) b.1 (sLen*i.size) p.2 fz us 0 c w e1 hz (by omega) u3
            have hrow:=setRow_heap w b.1 c (c.toList.take (sLen*i.size+0)++us++c.toList.drop (sLen*i.size+0+us.length)).toArray p.2 fz e1;have hcl:c.toList.length=c.size:=Array.length_toList;refine ⟨_,_,_,upd β n b,fit w ρ _ sLen k' us hs u5 (u4 w rfl) hfit _ (fun x hx'=>by cases hx'; rw [x4N,a0,Nat.zero_add]; exact hrun) (fun h=>by cases h),rfl, ?_, ?_⟩
            . rw [a0];exact .sl _ _ b _ _ _ (x1J _ _ _) (.inr ⟨rfl,hfit,fun _=>hkk.2⟩)
            . rw [<- pe];refine Ext.move hW hn hlive hb (by simp) (by simp) (by simp) hrow (fun c' hc'=>setRow_other w b.1 c' _ hc') (.cells (p.1++new) (l'++us) p.2 _ (c.toList.drop (sLen*i.size+us.length)) fz (e2.append u1) ?_ (fun sz hsz'=> ?_) ?_) rfl rfl rfl
              . have:c.toList.take (sLen*i.size)=l':=by rw [e3,List.take_append_of_le_length (by omega),List.take_of_length_le (by omega)]
                simp [this]
              . have:=e4 sz hsz'
                simp; omega
              . rcases hz with hz | hz
                . exact .inl hz
                . right; simp; omega
          ·
            have hold:∀ w1:World,w1.heap=w.heap->(Builtin.firstCells i.size sLen (.slice (some ⟨b.1,a.off,none⟩) sLen k')).run P w1 = .ok l'.toArray w1:=fun w1 hw1=>by
              simp only [Builtin.firstCells];refine x6X (by rw [hw1]; exact e1) _ l' _ (by omega) fun j v hv=> ?_
              rw [a0,Nat.zero_add,e3,List.getElem?_append_left (List.getElem?_eq_some_iff.1 hv).1];exact hv
            obtain ⟨r,cc,w', γ, q1,q2,q3,q4⟩:=grown (some ⟨b.1,a.off,none⟩) sLen p.1 pl hbd β w ρ k' us l' hW hn hs u5 u4 hold hfit e2 u1;refine ⟨r,cc,w', γ, q1,q2,q3, ?_⟩;have hin:a.block≠n:=fun e=>by rw [e,hW.fresh hn] at hlive; cases hlive
            have get:∀ j,hget (hset (hset H a.block .dead) n (.cells (p.1++new) e)) j=if j=n then some (.cells (p.1++new) e) else if j=a.block then some .dead else hget H j:=fun j=>by rw [x0E,x0E]
            refine ⟨q4.same,⟨fun j r g=> ?_,fun j m c d r t g1 g2 d1 d2 b1 b2 bc=> ?_,q4.wr.glob,fun g cs hgt j r c k1 k2 k3=> ?_⟩,q4.size,q4.frame,fun j r d g1 g2 g3=> ?_,fun j g=> ?_,q4.kept,q4.os,q4.out,q4.tape⟩
            . rw [get] at g
              by_cases ej:j=n
              . rw [if_pos ej] at g;exact q4.wr.obj j r (by rw [x0E,if_pos ej]; exact g)
              . rw [if_neg ej] at g
                by_cases ea:j=a.block
                . rw [if_pos ea] at g; cases g;obtain ⟨d,x,k1,k2,k3⟩:=q4.wr.obj j _ (by rw [x0E,if_neg ej,ea]; exact hlive)
                  exact ⟨d,x,k1,k2, .dead _⟩
                . rw [if_neg ea] at g;exact q4.wr.obj j r (by rw [x0E,if_neg ej]; exact g)
            . have back:∀ j r, hget (hset (hset H a.block .dead) n (.cells (p.1++new) e)) j=some r->r ≠ .dead->hget (hset H n (.cells (p.1++new) e)) j=some r := fun j r g d => by
                rw [get] at g;rw [x0E]
                by_cases ej:j=n
                . rw [if_pos ej] at g |-; exact g
                . rw [if_neg ej] at g |-
                  by_cases ea:j=a.block
                  . rw [if_pos ea] at g; cases g; exact absurd rfl d
                  . rw [if_neg ea] at g; exact g
              exact q4.wr.inj j m c d r t (back j r g1 d1) (back m t g2 d2) d1 d2 b1 b2 bc
            . refine q4.wr.off g cs hgt j r c ?_ k2 k3;rw [get] at k1;rw [x0E]
              by_cases ej:j=n
              . rw [if_pos ej] at k1 |-; exact k1
              . rw [if_neg ej] at k1 |-
                by_cases ea:j=a.block
                . rw [if_pos ea] at k1; cases k1; exact absurd rfl k2
                . rw [if_neg ea] at k1; exact k1
            . rw [get] at g1;refine q4.orig j r d ?_ g2 g3;rw [x0E]
              by_cases ej:j=n
              . rw [if_pos ej] at g1 |-; exact g1
              . rw [if_neg ej] at g1 |-
                by_cases ea:j=a.block
                . rw [if_pos ea] at g1; cases g1; exact absurd rfl g2
                . rw [if_neg ea] at g1; exact g1
            . rw [get,if_neg,if_neg]
              . exact g
              . intro ea; rw [ea,hlive] at g; cases g
              . intro ej; rw [ej,hW.fresh hn] at g; cases g
      | false =>
        rw [hu,cond_false] at h25;have scu:sCap≠unk:=fun e=>by rw [x0R e] at hu; cases hu
        cases hfitA:Nat.ble (Nat.add sLen k) sCap with
        | true =>
          rw [hfitA,cond_true] at h25;unfold x8G at h25;obtain ⟨p',h26,h27⟩:=x1M h25;obtain ⟨l2,h28,h29⟩:=x1M h27;cases h29;refine ⟨Nat.le_refl _,fun j _ h0=> ?_,fun β w ρ hx hW _=> ?_⟩
          . rw [x0E]; split
            . rename_i ej; subst ej; rw [x4H h26] at h0; cases h0
            . exact h0
          . obtain ⟨us,u1,u2,u3,u4,u5⟩:=common β w ρ hx hW;have hr:=hx s (by simp [ho,Op.operands,Call.operands])
            rw [hsA] at hr;obtain ⟨b,k',hsp,hb,hs,hkk⟩:=y4E hr;have hkk:sCap=k':=by
              rcases hkk with ⟨e1,_⟩ | ⟨e1,_⟩
              . exact e1
              . exact absurd e1 scu
            subst hkk;obtain ⟨w',r1,r2⟩:=z5E (P:=P) (n:=n) hW h26 hb h28 u1 u3;refine ⟨_,_,w', β, fit w ρ _ sLen sCap us hs u5 (u4 w rfl) (x1H hfitA) w' (fun x hx'=>by cases hx'; rw [x4N]; exact r1) (fun h=>by cases h),rfl, .sl _ _ b _ _ _ hb (.inl ⟨rfl,scu⟩),r2⟩
        | false =>
          rw [hfitA,cond_false] at h25;obtain ⟨old,h26,h27⟩:=x1M h25;cases h27;have hno:¬ (sLen+k <= sCap):=fun h=>by
            have:Nat.ble (sLen+k) sCap=true:=Nat.ble_eq_true_of_le h;rw [show Nat.add sLen k=sLen+k from rfl,this] at hfitA; cases hfitA
          refine ⟨by omega,fun j hj h0=>by rw [x0E,if_neg (by omega)]; exact h0,fun β w ρ hx hW hf=> ?_⟩
          obtain ⟨us,u1,u2,u3,u4,u5⟩:=common β w ρ hx hW;have hr:=hx s (by simp [ho,Op.operands,Call.operands])
          rw [hsA] at hr;obtain ⟨b,k',hsp,hb,hs,hkk⟩:=y4E hr;have hkk:sCap=k':=by
            rcases hkk with ⟨e1,_⟩ | ⟨e1,_⟩
            . exact e1
            . exact absurd e1 scu
          subst hkk;obtain ⟨c,l',rest,fz,e1,e2,e3,e4,hz⟩:=hW.cells h24 hb;obtain ⟨os,q1,q2,q3⟩:=part_at e2 e3 h26;have ol:old.length=sLen*i.size:=by rw [q1.length]; exact q2
          exact grown (some ⟨b.1,a.off,none⟩) sLen old ol hbd β w ρ sCap us os hW (hf n (Nat.le_refl _) (by omega)) hs u5 u4 (fun w1 hw1=>by
            simp only [Builtin.firstCells];exact x6X (by rw [hw1]; exact e1) _ os _ q2 q3) hno q1 u1
  . cases h20
end
end Go.Xec
namespace Go.Xec
open Go
variable [GT]
section
variable {P:Program} {o:Oper} {T:Tm} {H H':Hp} {n n':Nat} {v:Value}
theorem isU8_ok' {o:Option TypeDesc} (h:isU8 o=true):o=some (.int .u8):=by
  unfold isU8 at h; split at h
  . rfl
  . cases h
theorem v5T {o:Option TypeDesc} (h:x9W o=true):o=some .string:=by
  unfold x9W at h; split at h
  . rfl
  . cases h
theorem y8F (w:World) (e:TypeId) (s:ByteArray):(Lib.bytesWorld w e s).heap=w.heap.push (.cells (Lib.bytesCells w e s) e ((Lib.bytesCells w e s).size,(Lib.bytesCells w e s).size+1)):=by
  apply Array.ext_getElem?;intro j
  by_cases h1:j<w.heap.size
  . rw [Lib.bytesWorld_at_old w e s j h1,Array.getElem?_push_lt h1,Array.getElem?_eq_getElem h1]
  . by_cases h2:j=w.heap.size
    . subst h2;rw [Lib.bytesWorld_at_new]; simp
    . rw [Array.getElem?_eq_none (by rw [Lib.bytesWorld_size]; omega),Array.getElem?_eq_none (by simp; omega)]
theorem u1K (w:World) (b k:Nat) {c:Array Value} {e:TypeId} {fz:Nat×Nat} (h:w.heap[b]? = some (.cells c e fz)) (hk:c.size=k) (hz:fz=(0, 0)\/c.size <= fz.1) :
    ∃ fz',(fz'=(0, 0)\/c.size <= fz'.1)/\(w.freeze ⟨b,k,none⟩ 1).heap[b]? = some (.cells c e fz')/\(∀ j,j≠b->(w.freeze ⟨b,k,none⟩ 1).heap[j]? = w.heap[j]?)/\(w.freeze ⟨b,k,none⟩ 1).heap.size=w.heap.size/\(w.freeze ⟨b,k,none⟩ 1).os=w.os/\(w.freeze ⟨b,k,none⟩ 1).output=w.output/\(w.freeze ⟨b,k,none⟩ 1).tape=w.tape:=by
  subst hk;obtain ⟨lo,hi⟩:=fz;refine ⟨if lo==hi then (c.size,c.size+1) else (min lo c.size,max hi (c.size+1)), ?_, ?_,fun j hj=> ?_, ?_,rfl,rfl,rfl⟩
  . right;split
    . exact Nat.le_refl _
    . rename_i hne;rcases hz with hz | hz
      . cases hz; exact absurd rfl hne
      . have hz:c.size <= lo:=hz;show c.size <= min lo c.size;omega
  . simp [World.freeze,Array.getElem?_modify,h]
  . simp [World.freeze,Array.getElem?_modify,Ne.symm hj]
  . simp [World.freeze]
theorem u8R {s d:TypeId} {x:Operand} {e:TypeId} (ho:o.op = .convert s d x) (hd:P.underlying d=some (.slice e)) (h:(y1S P s d x e).f T H n = .ok v H' n'):OpS P o T H n v H' n':=by
  obtain ⟨h1,h2⟩:=x4Y h;obtain ⟨h3,h4⟩:=x0D h1;have h3:=isU8_ok' h3;have hsz:x1K P e=some 1:=by
    split at h4
    . rename_i k hk; rw [hk,x0S h4]
    . cases h4
  cases hs:x9W (P.underlying s) with
  | true =>
    rw [hs,cond_true] at h2;obtain ⟨b,h5,h6⟩:=z2T (x:=ev T x) h2;cases h6;refine ⟨Nat.le_succ n,fun i hi h0=>by rw [x0E,if_neg (by omega)]; exact h0,fun β w ρ hx hW hf=> ?_⟩
    have hn:=hf n (Nat.le_refl _) (Nat.lt_succ_self n);have hρ:ρ x = .string b:=str_of (β := β) (h5▸hx x (by simp [ho,Op.operands]))
    have hrun:=Lib.run_convert_string_bytes (P:=P) w s d e b (v5T hs) hd h3;have hge:=grownCap_ge w b.size 0 e;have hcs:(Lib.bytesCells w e b).size=grownCap w b.size 0 e:=by
      have:b.data.size=b.size:=rfl;simp [Lib.bytesCells,this]; omega
    have hE:execOp ρ o=(do pure (.value (<- convert s d (ρ x)))):=by unfold execOp; rw [ho]
    refine ⟨.value (.slice (some ⟨w.heap.size, 0,none⟩) b.size (grownCap w b.size 0 e)),_,Lib.bytesWorld w e b,upd β n (w.heap.size,grownCap w b.size 0 e), ?_,rfl, .sl _ _ (w.heap.size,grownCap w b.size 0 e) _ _ _ (x1J _ _ _) (.inr ⟨rfl,hge,fun _=>rfl⟩), ?_⟩
    . rw [hE,hρ];simp only [Sem.run_bind,hrun,Result.andThen_ok,Sem.run_pure]
    . refine Ext.congr (Ext.new hW hn (m:=grownCap w b.size 0 e) (.cells _ (b.data.toList.map fun c=> .int .u8 c.toNat) e (Lib.bytesCells w e b) (List.replicate (grownCap w b.size 0 e-b.size) (.int .u8 0)) ((Lib.bytesCells w e b).size,(Lib.bytesCells w e b).size+1) (x9U ?_) ?_ (fun sz hsz'=> ?_) (.inr (Nat.le_refl _)))) (y8F w e b) rfl rfl rfl
      . generalize b.data.toList=l
        induction l with
        | nil=>rfl
        | cons a l ih=>exact ih
      . simp [Lib.bytesCells]
      . rw [hsz] at hsz'; cases hsz';rw [hcs]; omega
  | false =>
    rw [hs,cond_false] at h2;obtain ⟨h5,h6⟩:=x4Y h2;obtain ⟨h7,h8⟩:=x0D h5;have hsd:s=d:=x0S h7;subst hsd;obtain ⟨a,l,c,h9,h10⟩:=z2U h6;obtain ⟨p,h11,h12⟩:=x1M h10;cases h12;refine ⟨Nat.le_refl _,fun i _ h0=>h0,fun β w ρ hx hW _=> ?_⟩;have hr:=hx x (by simp [ho,Op.operands])
    rw [h9] at hr;obtain ⟨b,k',hsp,hb,hρ, hkk⟩:=y4E hr;obtain ⟨cs,l',rest,fz,e1,e2,e3,e4,hz⟩:=hW.cells h11 hb;obtain ⟨fz',q1,q2,q3,q4,q5,q6,q7⟩:=u1K w b.1 cs.size e1 rfl hz;have hE:execOp ρ o=(do pure (.value (<- convert s s (ρ x)))):=by unfold execOp; rw [ho]
    have hsh:w.shape? b.1=some (p.2,cs.size):=by simp [World.shape?, e1]
    have hG:hget (hset H a.block (.cells p.1 p.2))=hget H:=by
      funext j;rw [x0E];split
      . rename_i e; subst e; exact (x4H h11).symm
      . rfl
    refine ⟨.value (ρ x),_,w.freeze ⟨b.1,cs.size,none⟩ 1, β, ?_,rfl,hr, ?_⟩
    . rw [hE,hρ];have:(convert s s (.slice (some ⟨b.1,a.off,none⟩) l k')).run P w = .ok (.slice (some ⟨b.1,a.off,none⟩) l k') (w.freeze ⟨b.1,cs.size,none⟩ 1):=by
        simp [convert,x0M hd,x0M h3,markStringish,hsh]
      simp only [Sem.run_bind,this,Result.andThen_ok,Sem.run_pure]
    . have:=Ext.turn (n:=n) hW (x4H h11) hb (by simp) (by simp) q4 q2 q3 (.cells p.1 l' p.2 cs rest fz' e2 e3 e4 q1) q5 q6 q7
      rw [hG] at this;exact this
end
end Go.Xec
namespace Go.Xec
open Go
variable [GT]
section
variable {P:Program} {o:Oper} {T:Tm} {H H':Hp} {n n':Nat} {v:Value}
theorem z2Y {x:Value} {m:Nat} (h:z6W x=some m):∃ k,x = .int k (.ofNat m):=by
  unfold z6W at h; split at h
  . cases h; exact ⟨_,rfl⟩
  . cases h
theorem y0U {w:World} {k:IntKind} {m y:Nat} {c:BoundsCode} (h:m <= y):(Instr.sliceBound (.int k (m:Int)) y c).run P w = .ok m w:=by
  have:(m:Int) <= (y:Int):=by omega
  simp [Instr.sliceBound,asIntOf,h]
theorem y8K {len cap:Nat} {lo hi:Option Operand} {f:Nat->Nat->OR} (h:y8L len cap (lo.map (ev T)) (hi.map (ev T)) f = .ok v H' n') :
    ∃ l h',l <= h'/\h' <= cap/\f l h' = .ok v H' n'/\∀ (β:Bm) (w:World) (ρ:Operand->Value),(∀ x,lo=some x->VR β (ev T x) (ρ x))->(∀ x,hi=some x->VR β (ev T x) (ρ x))->∀ cap',cap <= cap'->∀ b,
      (Instr.sliceBounds b len cap' (lo.map ρ) (hi.map ρ) none).run P w = .ok (l,h',cap') w:=by
  unfold y8L at h;obtain ⟨l,h1,h2⟩:=x1M h;obtain ⟨h',h3,h4⟩:=x1M h2;obtain ⟨h5,h6⟩:=x2Z h4;obtain ⟨h7,h8⟩:=x0D h5;have a1:=x1H h7;have a2:=x1H h8;refine ⟨l,h',a1,a2,h6,fun β w ρ hl hh cap' hc b=> ?_⟩;cases lo with
  | none =>
    have h1:some 0=some l:=h1;cases h1;cases hi with
    | none =>
      have h3:some len=some h':=h3;cases h3;simp [Instr.sliceBounds]
    | some y =>
      have h3:z6W (ev T y)=some h':=h3;obtain ⟨k,hk⟩:=z2Y h3;have hy:=int_of (β := β) (hk▸hh y rfl);simp [Instr.sliceBounds,hy,y0U (P:=P) (w:=w) (k:=k) (show h' <= cap' by omega)]
  | some x =>
    have h1:z6W (ev T x)=some l:=h1;obtain ⟨k,hk⟩:=z2Y h1;have hx:=int_of (β := β) (hk▸hl x rfl);cases hi with
    | none =>
      have h3:some len=some h':=h3;cases h3;simp [Instr.sliceBounds,hx,y0U (P:=P) (w:=w) (k:=k) a1]
    | some y =>
      have h3:z6W (ev T y)=some h':=h3;obtain ⟨k2,hk2⟩:=z2Y h3;have hy:=int_of (β := β) (hk2▸hh y rfl);simp [Instr.sliceBounds,hx,hy,y0U (P:=P) (w:=w) (k:=k) a1,y0U (P:=P) (w:=w) (k:=k2) (show h' <= cap' by omega)]
theorem y4X {o:Option TypeDesc} (h:x9W o=true):o=some .string:=by
  unfold x9W at h; split at h
  . rfl
  . cases h
theorem v3E {sz:Nat} {a:Addr} {len cap:Nat} {lo hi:Option Operand} (h:slKn sz a len cap (lo.map (ev T)) (hi.map (ev T)) H n = .ok v H' n') :
    H'=H/\n'=n/\∀ (β:Bm) (w:World) (ρ:Operand->Value),(∀ x,lo=some x->VR β (ev T x) (ρ x))->(∀ x,hi=some x->VR β (ev T x) (ρ x))->∀ (q:Nat×Nat),a.spot=none->β a.block=some q->∀ b,
      ∃ l h' c,(Instr.sliceBounds b len cap (lo.map ρ) (hi.map ρ) none).run P w = .ok (l,h',cap) w/\VR β v c /\
        c = .slice (some (if cap=l then (⟨q.1,a.off,none⟩:Addr) else (⟨q.1,a.off,none⟩:Addr).add (l*sz))) (h'-l) (cap-l):=by
  unfold slKn at h;obtain ⟨h0,h⟩:=x2Z h;have hcap:cap<unk:=by have:=x1H h0; unfold unk; omega
  obtain ⟨l,h',a1,a2,h1,h2⟩:=y8K (P:=P) h;cases h1;refine ⟨rfl,rfl,fun β w ρ hl hh q hsp hq b=>⟨l,h',_,h2 β w ρ hl hh cap (Nat.le_refl _) b, ?_,rfl⟩⟩;have hk:cap-l≠unk:=by omega
  cases hb:Nat.beq cap l with
  | true =>
    have e:cap=l:=x0S hb;rw [cond_true,if_pos e];obtain ⟨ab,ao,as⟩:=a;simp only at hsp; subst hsp;exact .sl ab ao q _ _ _ hq (.inl ⟨rfl,hk⟩)
  | false =>
    have e:¬ cap=l:=fun e=>by rw [x0R e] at hb; cases hb
    rw [cond_false,if_neg e,x4N];exact .sl _ _ q _ _ _ hq (.inl ⟨rfl,hk⟩)
theorem slUnk_ok {sz:Nat} {a:Addr} {len:Nat} {lo hi:Option Operand} (h:slUnk sz a len (lo.map (ev T)) (hi.map (ev T)) H n = .ok v H' n') :
    H'=H/\n'=n/\∀ (β:Bm) (w:World) (ρ:Operand->Value),(∀ x,lo=some x->VR β (ev T x) (ρ x))->(∀ x,hi=some x->VR β (ev T x) (ρ x))->∀ (q:Nat×Nat) (cap':Nat),a.spot=none->β a.block=some q->len <= cap'->(a.off=0->q.2=cap')->∀ b,
      ∃ l h' c,(Instr.sliceBounds b len cap' (lo.map ρ) (hi.map ρ) none).run P w = .ok (l,h',cap') w/\VR β v c /\
        c = .slice (some (if cap'=l then (⟨q.1,a.off,none⟩:Addr) else (⟨q.1,a.off,none⟩:Addr).add (l*sz))) (h'-l) (cap'-l):=by
  unfold slUnk at h;obtain ⟨l,h',a1,a2,h1,h2⟩:=y8K (P:=P) h;obtain ⟨ab,ao,as⟩:=a;cases hb:Nat.beq l 0 with
  | true =>
    rw [hb,cond_true] at h1;cases h1;have e:l=0:=x0S hb;subst e;refine ⟨rfl,rfl,fun β w ρ hl hh q cap' hsp hq hle h0 b=>⟨0,h',_,h2 β w ρ hl hh cap' hle b, ?_,rfl⟩⟩;simp only at hsp; subst hsp;have:(if cap'=0 then (⟨q.1,ao,none⟩:Addr) else (⟨q.1,ao,none⟩:Addr).add (0*sz))=⟨q.1,ao,none⟩:=by split <;> simp [x4N]
    rw [this];simp only [Nat.sub_zero];exact .sl ab ao q _ _ _ hq (.inr ⟨rfl,by omega,h0⟩)
  | false =>
    rw [hb,cond_false] at h1;obtain ⟨h3,h4⟩:=x2Z h1;cases h4;obtain ⟨h5,h6⟩:=x0D h3;have e:l≠0:=fun e=>by rw [x0R e] at hb; cases hb
    have hll:l<len:=x1H h5;have hsz:1 <= sz:=x1H h6;refine ⟨rfl,rfl,fun β w ρ hl hh q cap' hsp hq hle h0 b=>⟨l,h',_,h2 β w ρ hl hh cap' hle b, ?_,rfl⟩⟩;rw [if_neg (by omega),x4N]
    have:1 <= l*sz:=Nat.mul_pos (by omega) hsz
    exact .sl ab (ao+l*sz) q _ _ _ hq (.inr ⟨rfl,by show h'-l <= cap'-l; omega,fun h=>by omega⟩)
theorem slice_ok {t:TypeId} {x:Operand} {lo hi:Option Operand} (ho:o.op = .slice t x lo hi none) (h:(z8M P t x lo hi).f T H n = .ok v H' n'):OpS P o T H n v H' n':=by
  have hops:∀ (β:Bm) (ρ:Operand->Value),(∀ y∈o.op.operands,VR β (ev T y) (ρ y))->VR β (ev T x) (ρ x)/\(∀ y,lo=some y->VR β (ev T y) (ρ y))/\(∀ y,hi=some y->VR β (ev T y) (ρ y)):=fun β ρ hx =>
    ⟨hx x (by simp [ho,Op.operands]),fun y hy=>hx y (by subst hy; simp [ho,Op.operands]),fun y hy=>hx y (by subst hy; simp [ho,Op.operands])⟩
  unfold z8M at h;cases hstr:x9W (P.underlying t) with
  | true =>
    rw [hstr,cond_true] at h;have hu:=y4X hstr;obtain ⟨s,h1,h2⟩:=z2T (x:=ev T x) h;obtain ⟨l,h',a1,a2,h3,h4⟩:=y8K (P:=P) h2;cases h3;refine OpS.same fun β w ρ hx _=> ?_;obtain ⟨o1,o2,o3⟩:=hops β ρ hx;have hs:=str_of (β := β) (h1▸o1);refine ⟨.string (s.extract l h'), ?_, .string _⟩;have hb:=h4 β w ρ o2 o3 s.size (Nat.le_refl _) false;simp [execOp,ho,Instr.sliceAt,Instr.slice,x0M hu,hs,hb]
  | false =>
    rw [hstr,cond_false] at h;split at h
    . rename_i p hp;obtain ⟨sz,h1,h2⟩:=x1S h;obtain ⟨a,h5,h6⟩:=x4L (x:=ev T x) h2;obtain ⟨rfl,rfl,h7⟩:=v3E (P:=P) h6;refine OpS.same fun β w ρ hx _=> ?_;obtain ⟨o1,o2,o3⟩:=hops β ρ hx;obtain ⟨b,hsp,hb,hρ⟩:=x7Z (β := β) (h5▸o1);obtain ⟨l,h',c,r1,r2,r3⟩:=h7 β w ρ o2 o3 b hsp hb false;refine ⟨c, ?_,r2⟩;subst r3;simp [execOp,ho,Instr.sliceAt,x0M (y8W hp),hρ, Instr.sureAddr,r1,x2E h1]
    . rename_i hp;obtain ⟨e,h1,h2⟩:=x1S h;obtain ⟨sz,h3,h4⟩:=x1S h2;obtain ⟨a,len,cap,h5,h6⟩:=z2U (x:=ev T x) h4;have hu:=x2Q h1;cases hc:Nat.beq cap unk with
      | true =>
        rw [hc,cond_true] at h6;obtain ⟨rfl,rfl,h7⟩:=slUnk_ok (P:=P) h6;refine OpS.same fun β w ρ hx _=> ?_;obtain ⟨o1,o2,o3⟩:=hops β ρ hx;obtain ⟨b,k',hsp,hb,hρ, hk⟩:=y4E (β := β) (h5▸o1);have hk:len <= k'/\(a.off=0->b.2=k'):=by
          rcases hk with ⟨_,e2⟩ | ⟨_,e2,e3⟩
          . exact absurd (x0S hc) e2
          . exact ⟨e2,e3⟩
        obtain ⟨l,h',c,r1,r2,r3⟩:=h7 β w ρ o2 o3 b k' hsp hb hk.1 hk.2 true;refine ⟨c, ?_,r2⟩;subst r3;simp [execOp,ho,Instr.sliceAt,Instr.slice,x0M hu,hρ, r1,x2E h3];split <;> rfl
      | false =>
        rw [hc,cond_false] at h6;have hne:cap≠unk:=fun e=>by rw [x0R e] at hc; cases hc
        obtain ⟨rfl,rfl,h7⟩:=v3E (P:=P) h6;refine OpS.same fun β w ρ hx _=> ?_;obtain ⟨o1,o2,o3⟩:=hops β ρ hx;obtain ⟨b,k',hsp,hb,hρ, hk⟩:=y4E (β := β) (h5▸o1);have hk:cap=k':=by
          rcases hk with ⟨e1,_⟩ | ⟨e1,_⟩
          . exact e1
          . exact absurd e1 hne
        subst hk;obtain ⟨l,h',c,r1,r2,r3⟩:=h7 β w ρ o2 o3 b hsp hb true;refine ⟨c, ?_,r2⟩;subst r3;simp [execOp,ho,Instr.sliceAt,Instr.slice,x0M hu,hρ, r1,x2E h3];split <;> rfl
theorem x4S {t:TypeId} {x y:Value} {b:Bool} {w:World} (h:∀ k,(Op.equalIn (k+1) t x y).run P w = .ok b w):(Op.equal t x y).run P w = .ok b w:=h 9999
theorem eqK_ptr {o:Option TypeDesc} (h:eqK o = .ptr):∃ e,o=some (.pointer e):=by
  unfold eqK at h; split at h <;> first | (cases h; done) | exact ⟨_,rfl⟩
theorem v6L {o:Option TypeDesc} (h:eqK o = .slice):∃ e,o=some (.slice e):=by
  unfold eqK at h; split at h <;> first | (cases h; done) | exact ⟨_,rfl⟩
theorem eqK_func {o:Option TypeDesc} (h:eqK o = .func):∃ a b c,o=some (.func a b c):=by
  unfold eqK at h; split at h <;> first | (cases h; done) | exact ⟨_,_,_,rfl⟩
theorem v6M {o:Option TypeDesc} (h:eqK o = .iface):∃ a,o=some (.interface a):=by
  unfold eqK at h; split at h <;> first | (cases h; done) | exact ⟨_,rfl⟩
theorem z6U {β:Bm} {x:Value} (h:VR β (.pointer none) x):x = .pointer none:=by cases h; rfl
theorem u6E {β:Bm} {l c:Nat} {x:Value} (h:VR β (.slice none l c) x):x = .slice none l c:=by cases h; rfl
theorem z0S {β:Bm} {x:Value} (h:VR β .nilFunc x):x = .nilFunc:=by cases h; rfl
theorem y6N {β:Bm} {x:Value} (h:VR β .nilIface x):x = .nilIface:=by cases h; rfl
theorem v6C {β:Bm} {f:Fn} {a b:Array Value} {x:Value} (h:VR β (.func f a b) x):∃ f' a' b',x = .func f' a' b':=by cases h <;> exact ⟨_,_,_,rfl⟩
theorem u6Q {β:Bm} {t:TypeId} {v x:Value} (h:VR β (.iface t v) x):∃ v',x = .iface t v':=by cases h; exact ⟨_,rfl⟩
theorem v6J {t:TypeId} {xa ya X Y:Value} {β:Bm} {b:Bool} (h:eqOp (eqK (P.underlying t)) xa ya=some b) (hX:VR β xa X) (hY:VR β ya Y) (w:World) :
    (Op.equal t X Y).run P w = .ok b w/\(∀ op x y,(eqGuard op t x y X Y).run P w = .ok () w)/\binOp .eql t X Y=(do pure (.bool (<- Op.equal t X Y)))/\binOp .neq t X Y=(do pure (.bool (!(<- Op.equal t X Y)))):=by
  cases hk:eqK (P.underlying t) <;> rw [hk] at h
  case other=>unfold eqOp at h; split at h <;> first | (cases h; done) | contradiction
  case ptr =>
    obtain ⟨e,hu⟩:=eqK_ptr hk;unfold eqOp at h; split at h <;> first | (cases h; done) | contradiction | skip
    . cases h;obtain ⟨c,_,_,rfl⟩:=x7Z hX;obtain rfl:=z6U hY;exact ⟨x4S fun k=>by simp [Op.equalIn,x0M hu],fun op x y=>by simp [eqGuard],rfl,rfl⟩
    . cases h;obtain ⟨c,_,_,rfl⟩:=x7Z hY;obtain rfl:=z6U hX;exact ⟨x4S fun k=>by simp [Op.equalIn,x0M hu],fun op x y=>by simp [eqGuard],rfl,rfl⟩
  case slice =>
    obtain ⟨e,hu⟩:=v6L hk;unfold eqOp at h; split at h <;> first | (cases h; done) | contradiction | skip
    . cases h;obtain ⟨c,_,_,_,rfl,_⟩:=y4E hX;obtain rfl:=u6E hY;exact ⟨x4S fun k=>by simp [Op.equalIn,x0M hu],fun op x y=>by simp [eqGuard],rfl,rfl⟩
    . cases h;obtain ⟨c,_,_,_,rfl,_⟩:=y4E hY;obtain rfl:=u6E hX;exact ⟨x4S fun k=>by simp [Op.equalIn,x0M hu],fun op x y=>by simp [eqGuard],rfl,rfl⟩
  case func =>
    obtain ⟨e1,e2,e3,hu⟩:=eqK_func hk;unfold eqOp at h; split at h <;> first | (cases h; done) | contradiction | skip
    . cases h;obtain ⟨_,_,_,rfl⟩:=v6C hX;obtain rfl:=z0S hY;exact ⟨x4S fun k=>by simp [Op.equalIn,x0M hu],fun op x y=>by simp [eqGuard],rfl,rfl⟩
    . cases h;obtain ⟨_,_,_,rfl⟩:=v6C hY;obtain rfl:=z0S hX;exact ⟨x4S fun k=>by simp [Op.equalIn,x0M hu],fun op x y=>by simp [eqGuard],rfl,rfl⟩
  case iface =>
    obtain ⟨e,hu⟩:=v6M hk;unfold eqOp at h; split at h <;> first | (cases h; done) | contradiction | skip
    . cases h;obtain ⟨_,rfl⟩:=u6Q hX;obtain rfl:=y6N hY;exact ⟨x4S fun k=>by simp [Op.equalIn,x0M hu],fun op x y=>by simp [eqGuard],rfl,rfl⟩
    . cases h;obtain ⟨_,rfl⟩:=u6Q hY;obtain rfl:=y6N hX;exact ⟨x4S fun k=>by simp [Op.equalIn,x0M hu],fun op x y=>by simp [eqGuard],rfl,rfl⟩
theorem evEq_ok {t yt:TypeId} {op:BinOp} {x y:Operand} (ho:o.op = .binOp op t x y yt) (h:evEq P t op (ev T x) (ev T y) H n = .ok v H' n'):OpS P o T H n v H' n':=by
  unfold evEq at h;obtain ⟨b,h1,h2⟩:=x1M h;split at h2
  . cases h2;refine OpS.same fun β w ρ hx _=> ?_;obtain ⟨r1,r2,r3,_⟩:=v6J (P:=P) h1 (hx x (by simp [ho,Op.operands])) (hx y (by simp [ho,Op.operands])) w
    exact ⟨.bool b,by simp [execOp,ho,r2,r3,r1], .bool b⟩
  . cases h2;refine OpS.same fun β w ρ hx _=> ?_;obtain ⟨r1,r2,_,r3⟩:=v6J (P:=P) h1 (hx x (by simp [ho,Op.operands])) (hx y (by simp [ho,Op.operands])) w
    exact ⟨.bool (!b),by simp [execOp,ho,r2,r3,r1], .bool _⟩
  . cases h2
theorem x3E {t yt:TypeId} {op:BinOp} {x y:Operand} (ho:o.op = .binOp op t x y yt) (h:x4R P T H n o op t (ev T x) (ev T y) = .ok v H' n'):OpS P o T H n v H' n':=by
  unfold x4R at h;cases hp:(cond (plain (ev T x)) (plain (ev T y)) false) with
  | true =>
    rw [hp,cond_true] at h;obtain ⟨p1,p2⟩:=x0D hp;refine x4F h (by rw [ho]; simp) fun z hz=> ?_
    simp [ho,Op.operands] at hz;rcases hz with rfl | rfl <;> assumption
  | false=>rw [hp,cond_false] at h; exact evEq_ok ho h
theorem x3V {x y:Value} {f:Int->Int->OR} {els:OR} (h:x3W x y f els = .ok v H' n'):(∃ a b,x = .int .i64 a/\y = .int .i64 b/\f a b = .ok v H' n')\/els = .ok v H' n':=by
  unfold x3W at h; split at h
  . exact .inl ⟨_,_,rfl,rfl,h⟩
  . exact .inr h
theorem y7N {m:Int} {els:OR} (h:y7P m H n els = .ok v H' n'):(v = .int .i64 m/\IntKind.i64.wrap m=m/\H'=H/\n'=n)\/els = .ok v H' n':=by
  unfold y7P at h;split at h
  . rename_i m;cases hb:Nat.ble m 9223372036854775807 with
    | true =>
      rw [hb,cond_true] at h; cases h
      have:=x1H hb
      exact .inl ⟨rfl,IntWalk.i64_in _ (by simp; omega),rfl,rfl⟩
    | false=>rw [hb,cond_false] at h; exact .inr h
  . rename_i m;cases hb:Nat.ble m 9223372036854775807 with
    | true =>
      rw [hb,cond_true] at h; cases h
      have:=x1H hb
      exact .inl ⟨rfl,IntWalk.i64_in _ (by omega),rfl,rfl⟩
    | false=>rw [hb,cond_false] at h; exact .inr h
theorem x7R {t yt:TypeId} {op:BinOp} {x y:Operand} (ho:o.op = .binOp op t x y yt) {a b:Int} (hx:ev T x = .int .i64 a) (hy:ev T y = .int .i64 b) {u:Value} (hu:plain u=true)
    (hr:∀ w:World,(binOp op t (.int .i64 a) (.int .i64 b)).run P w = .ok u w):OpS P o T H n u H n:=by
  refine OpS.same fun β w ρ hρ _=>⟨u, ?_,x5L hu⟩;have e1:=int_of (β := β) (hx▸hρ x (by simp [ho,Op.operands]))
  have e2:=int_of (β := β) (hy▸hρ y (by simp [ho,Op.operands]))
  have hg:(eqGuard op t x y (.int .i64 a) (.int .i64 b)).run P w = .ok () w:=by
    unfold eqGuard;split <;> simp
  simp [execOp,ho,e1,e2,hg,hr w]
theorem binOp_ok {t yt:TypeId} {op:BinOp} {x y:Operand} (ho:o.op = .binOp op t x y yt) (h:(y4A P o t x y op).f T H n = .ok v H' n'):OpS P o T H n v H' n':=by
  unfold y4A at h;split at h
  . rcases x3V h with ⟨a,b,hx,hy,h1⟩ | h1
    . rcases y7N h1 with ⟨rfl,h2,rfl,rfl⟩ | h2
      . exact x7R ho hx hy rfl fun w=>by simp [binOp,Op.intArith,h2]
      . exact x3E ho h2
    . exact x3E ho h1
  . rcases x3V h with ⟨a,b,hx,hy,h1⟩ | h1
    . rcases y7N h1 with ⟨rfl,h2,rfl,rfl⟩ | h2
      . exact x7R ho hx hy rfl fun w=>by simp [binOp,Op.intArith,h2]
      . exact x3E ho h2
    . exact x3E ho h1
  . rcases x3V h with ⟨a,b,hx,hy,h1⟩ | h1
    . rcases y7N h1 with ⟨rfl,h2,rfl,rfl⟩ | h2
      . exact x7R ho hx hy rfl fun w=>by simp [binOp,Op.intArith,h2]
      . exact x3E ho h2
    . exact x3E ho h1
  . rcases x3V h with ⟨a,b,hx,hy,h1⟩ | h1
    . cases h1; exact x7R ho hx hy rfl fun w=>by simp [binOp,Op.intCmp]
    . exact x3E ho h1
  . rcases x3V h with ⟨a,b,hx,hy,h1⟩ | h1
    . cases h1; exact x7R ho hx hy rfl fun w=>by simp [binOp,Op.intCmp]
    . exact x3E ho h1
  . rcases x3V h with ⟨a,b,hx,hy,h1⟩ | h1
    . cases h1; exact x7R ho hx hy rfl fun w=>by simp [binOp,Op.intCmp]
    . exact x3E ho h1
  . rcases x3V h with ⟨a,b,hx,hy,h1⟩ | h1
    . cases h1; exact x7R ho hx hy rfl fun w=>by simp [binOp,Op.intCmp]
    . exact x3E ho h1
  . rcases x3V h with ⟨a,b,hx,hy,h1⟩ | h1
    . cases h1; exact x7R ho hx hy rfl fun w=>by simp [binOp,Op.intCmp]
    . exact x3E ho h1
  . rcases x3V h with ⟨a,b,hx,hy,h1⟩ | h1
    . cases h1; exact x7R ho hx hy rfl fun w=>by simp [binOp,Op.intCmp]
    . exact x3E ho h1
  . exact x3E ho h
theorem z4A (x:Value) (l:List Value):x5F (x::l)=(match x with | .int .u8 n=>(x5F l).map fun r=>UInt8.ofNat n.toNat::r | _=>none):=rfl
theorem y8G {β:Bm}:∀ {l m:List Value} {bs:List UInt8}, x5F l=some bs->VL β l m->∃ ns:List Int,m=ns.map (Value.int .u8)/\bs=ns.map fun n=>UInt8.ofNat n.toNat
  | _,_,bs,h, .nil=>by cases h; exact ⟨[],rfl,rfl⟩
  | x::l,y::m,bs,h, .cons a b=>by
    rw [z4A] at h;split at h
    . rename_i k;cases h1:x5F l with
      | none=>rw [h1] at h; cases h
      | some r =>
        rw [h1] at h; cases h;obtain ⟨ns,e1,e2⟩:=y8G h1 b;exact ⟨k::ns,by rw [int_of a,e1]; rfl,by rw [e2]; rfl⟩
    . cases h
theorem z1A:∀ (ns:List Int) (s:ByteArray),(ns.foldl (fun r n=>r.push (UInt8.ofNat n.toNat)) s).data=s.data++(ns.map fun n=>UInt8.ofNat n.toNat).toArray
  | [],s=>by simp
  | n::ns,s=>by
    rw [List.foldl_cons,z1A ns];simp [ByteArray.push]
theorem v5S {o:Option TypeDesc} (h:isU8 o=true):o=some (.int .u8):=by
  unfold isU8 at h; split at h
  . rfl
  . cases h
theorem v0Z {s d:TypeId} {x:Operand} (ho:o.op = .convert s d x) (h:(x4M P o s d x).f T H n = .ok v H' n'):OpS P o T H n v H' n':=by
  have pl:∀ {v:Value} {H':Hp} {n':Nat}, chk (plain (ev T x)) (x0W P T H n o) = .ok v H' n'->OpS P o T H n v H' n':=fun h=>by
    obtain ⟨h1,h2⟩:=x2Z h;exact x4F h2 (by rw [ho]; simp) fun z hz=>by simp [ho,Op.operands] at hz; subst hz; exact h1
  unfold x4M at h;cases hs:x9W (P.underlying d) with
  | false =>
    rw [hs,cond_false] at h;split at h
    . rename_i e he; exact u8R ho (x2Q he) h
    . exact pl h
  | true =>
    rw [hs,cond_true] at h;split at h
    . rename_i e he;obtain ⟨h1,h2⟩:=x4Y h;have h2:v4K (ev T x) _ _ = .ok v H' n':=h2;unfold v4K at h2;split at h2
      . rename_i a len cp hx0;obtain ⟨p,h3,h4⟩:=x1M h2;obtain ⟨r,h5,h6⟩:=x1M h4;obtain ⟨bs,h7,h8⟩:=x1M h6;cases h8;refine OpS.same fun β w ρ hx hW=> ?_;obtain ⟨b,k',hsp,hb,hρ, _⟩:=y4E (β := β) (hx0▸hx x (by simp [ho,Op.operands]))
        obtain ⟨c,l',rest,fz,e1,e2,e3,_,_⟩:=hW.cells h3 hb;obtain ⟨r',q1,q2,q3⟩:=part_at e2 e3 h5;obtain ⟨ns,rfl,rfl⟩:=y8G h7 q1;have hrun:=run_bytesToString (P:=P) w ⟨b.1,a.off,none⟩ len k' ns (x6X e1 a.off _ len q2 q3);refine ⟨_, ?_, .string _⟩;simp only [execOp,ho,hρ, Sem.run_bind,run_convert_bytes_string w s d e _ _ _ (x2Q he) (v5S h1) (y4X hs),hrun,Result.andThen_ok,Sem.run_pure];congr 3;apply ByteArray.ext;have e0:ByteArray.empty.data=#[]:=rfl;rw [z1A,e0];simp
      . exact pl h2
    . exact pl h
theorem u3A:∀ {l:List Operand}, allX T l=true->∀ x∈l,plain (ev T x)=true
  | [],_,_,hx=>by cases hx
  | y::l,h,x,hx=>by
    have h':cond (plain (ev T y)) (allX T l) false=true:=h;obtain ⟨h1,h2⟩:=x0D h';rcases List.mem_cons.1 hx with rfl | hx
    . exact h1
    . exact u3A h2 x hx
theorem len_ok {args:Array Operand} {ts:Array TypeId} {t:TypeId} {x:Operand} (ho:o.op = .call { callee:= .builtin .len,args,argTypes:=ts }) (ha:args.toList=[x]) (ht:ts.toList=[t])
    (h:(cLen P o t x).f T H n = .ok v H' n'):OpS P o T H n v H' n':=by
  obtain rfl:args=#[x]:=Array.ext' ha;obtain rfl:ts=#[t]:=Array.ext' ht;unfold cLen at h;split at h
  . rename_i e he;have h:(match ev T x with | .slice _ k _=>OR.ok (.int .i64 k) H n | _=> .bad) = .ok v H' n':=h
    split at h
    . rename_i a k c hx0;cases h;refine OpS.same fun β w ρ hx _=>⟨.int .i64 k, ?_, .int _ _⟩;have hr:=hx x (by simp [ho,Op.operands,Call.operands])
      rw [hx0] at hr;have:∃ a' c', ρ x = .slice a' k c':=by
        generalize ρ x=y at hr;cases hr <;> exact ⟨_,_,rfl⟩
      obtain ⟨a',c',hρ⟩:=this;simp [execOp,ho,resolve,invoke,builtin,Builtin.len_,hρ, x0M (x2Q he),goInt]
    . cases h
  . obtain ⟨h1,h2⟩:=x2Z (b:=plain (ev T x)) (x:=x0W P T H n o) h;exact x4F h2 (by rw [ho]; simp) fun z hz=>by simp [ho,Op.operands,Call.operands] at hz; subst hz; exact h1
theorem v1G {b:Builtin} {args:Array Operand} {ts:Array TypeId} (ho:o.op = .call { callee:= .builtin b,args,argTypes:=ts }) (h:(x7V P o args.toList ts.toList b).f T H n = .ok v H' n'):OpS P o T H n v H' n':=by
  unfold x7V at h;split at h
  . split at h
    . rename_i x t ha ht;exact len_ok ho ha ht h
    . cases h
  . split at h
    . rename_i s x st xt ha ht;exact v7V ⟨args,ts,ho,ha,ht⟩ h
    . cases h
  . obtain ⟨h1,h2⟩:=x2Z (b:=allX T args.toList) (x:=x0W P T H n o) h;exact x4F h2 (by rw [ho]; simp) fun z hz=>u3A h1 z (by simpa [ho,Op.operands,Call.operands] using hz)
  . obtain ⟨h1,h2⟩:=x2Z (b:=allX T args.toList) (x:=x0W P T H n o) h;exact x4F h2 (by rw [ho]; simp) fun z hz=>u3A h1 z (by simpa [ho,Op.operands,Call.operands] using hz)
  . cases h
theorem range_ok {t:TypeId} {x:Operand} (ho:o.op = .range t x) (h:(u7U P t x).f T H n = .ok v H' n'):OpS P o T H n v H' n':=by
  obtain ⟨h1,h2⟩:=x4Y h;obtain ⟨s,h3,h4⟩:=z2T h2;cases h4;refine ⟨Nat.le_succ n,fun i hi h0=>by rw [x0E,if_neg (by omega)]; exact h0,fun β w ρ hx hW hf=> ?_⟩
  have hn:=hf n (Nat.le_refl _) (Nat.lt_succ_self n);have hρ:ρ x = .string s:=str_of (β := β) (h3▸hx x (by simp [ho,Op.operands]))
  refine ⟨.value (.pointer (some ⟨w.heap.size, 0,none⟩)),_,_,_, ?_,rfl, .ptr _ _ (w.heap.size, 0) (x1J _ _ _),Ext.new hW hn (.iter s 0)⟩;simp [execOp,ho,hρ, Instr.range,x0M (y4X h1)]
theorem v5N {o:Option AObj} {p:ByteArray×Nat} (h:u6N o=some p):o=some (.iter p.1 p.2):=by
  unfold u6N at h; split at h
  . cases h; rfl
  . cases h
theorem y5X {w:World} {r:Nat} {s:ByteArray} {p:Nat} (hb:w.heap[r]? = some (.stringIter s p)):(getObj r).run P w = .ok (.stringIter s p) w:=by simp [getObj,Sem.run,hb]
theorem u0C {w:World} {r:Nat} {s:ByteArray} {p:Nat} (o:Obj) (hb:w.heap[r]? = some (.stringIter s p)):(setObj r o).run P w = .ok () { w with heap:=w.heap.setIfInBounds r o } :=by simp [setObj,Sem.run,hb]
theorem next_ok {it:Operand} (ho:o.op = .next it true) (h:(cNext it).f T H n = .ok v H' n'):OpS P o T H n v H' n':=by
  obtain ⟨a,h1,h2⟩:=x4L (x:=ev T it) h;obtain ⟨h3,h4⟩:=x2Z h2;obtain ⟨p,h5,h6⟩:=x1M h4;have hg:=v5N h5;have h3:=x0S h3;unfold v4V at h6;cases hb:Nat.ble (Nat.succ p.2) p.1.size with
  | true =>
    rw [hb,cond_true] at h6;cases h6;have hlt:p.2<p.1.size:=x1H hb;refine ⟨Nat.le_refl _,fun i _ h0=> ?_,fun β w ρ hx hW _=> ?_⟩
    . rw [x0E]; split
      . rename_i e; subst e; rw [hg] at h0; cases h0
      . exact h0
    . obtain ⟨b,hsp,hbb,hρ⟩:=x7Z (β := β) (h1▸hx it (by simp [ho,Op.operands]))
      obtain ⟨q,e1,e2⟩:=hW.at hg hbb;cases e2;refine ⟨.value (.tuple #[.bool true, .int .i64 p.2, .int .i32 (Utf8.decode p.1 p.2).1]),_, { w with heap:=w.heap.setIfInBounds b.1 (.stringIter p.1 (p.2+(Utf8.decode p.1 p.2).2)) }, β, ?_,rfl,x5L rfl, ?_⟩
      . simp [execOp,ho,hρ, h3,Instr.next,y5X e1,u0C _ e1,hlt,goInt]
      . have hsz:b.1<w.heap.size:=(Array.getElem?_eq_some_iff.1 e1).1;refine Ext.turn hW hg hbb (by simp) (by simp) (by simp) (q:= .stringIter p.1 (p.2+(Utf8.decode p.1 p.2).2)) (by simp [hsz]) (fun c hc=>Array.getElem?_setIfInBounds_ne (fun e=>hc e.symm)) (.iter _ _) rfl rfl rfl
  | false =>
    rw [hb,cond_false] at h6;cases h6;have hlt:¬ p.2<p.1.size:=fun hl=>by rw [Nat.ble_eq_true_of_le hl] at hb; cases hb
    refine OpS.same fun β w ρ hx hW=> ?_;obtain ⟨b,hsp,hbb,hρ⟩:=x7Z (β := β) (h1▸hx it (by simp [ho,Op.operands]))
    obtain ⟨q,e1,e2⟩:=hW.at hg hbb;cases e2;exact ⟨.tuple #[.bool false],by simp [execOp,ho,hρ, h3,Instr.next,y5X e1,hlt],x5L rfl⟩
theorem op_sound (h:(x0N P o).f T H n = .ok v H' n'):OpS P o T H n v H' n':=by
  unfold x0N at h;split at h
  . rename_i x ho; cases h; exact move_ok ho
  . rename_i x ho; cases h; exact v7T ho
  . rename_i ho; exact pick_ok ho h
  . rename_i ho; exact alloc_ok ho h
  . rename_i ho; cases h; exact box_ok ho
  . rename_i ho; exact build_ok ho h
  . rename_i ho; exact z4C ho h
  . rename_i ho; exact load_ok ho h
  . rename_i ho; exact store_ok ho h
  . rename_i ho; exact u0W ho h
  . rename_i ho; exact makeI_ok ho h
  . rename_i ho; cases h; exact u1A ho
  . rename_i ho; exact z6X ho h
  . rename_i ho; exact slice_ok ho h
  . rename_i ho; exact z7J ho h
  . rename_i ho; exact field_ok ho h
  . rename_i ho; exact z7B ho h
  . rename_i ho; exact u9N ho h
  . rename_i ho; exact v1G ho h
  . rename_i ho; exact v0Z ho h
  . rename_i ho; exact binOp_ok ho h
  . rename_i x ho;obtain ⟨h1,h2⟩:=x2Z (b:=plain (ev T x)) (x:=x0W P T H n o) h;exact x4F h2 (by rw [ho]; simp) fun z hz=>by simp [ho,Op.operands] at hz; subst hz; exact h1
  . rename_i t x i ho;obtain ⟨h1,h2⟩:=x2Z (b:=cond (plain (ev T x)) (plain (ev T i)) false) (x:=x0W P T H n o) h;obtain ⟨p1,p2⟩:=x0D h1;exact x4F h2 (by rw [ho]; simp) fun z hz=>by simp [ho,Op.operands] at hz; rcases hz with rfl | rfl <;> assumption
  . rename_i ho; exact range_ok ho h
  . rename_i ho; exact next_ok ho h
  . cases h
end
end Go.Xec
