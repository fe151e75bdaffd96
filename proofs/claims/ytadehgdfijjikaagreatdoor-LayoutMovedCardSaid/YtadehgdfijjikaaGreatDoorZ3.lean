/-
  PICTURES, PLAIN LEAN: leading digits, signs, what stands still, character pictures, by the reference.;PICTURES, PLAIN LEAN: pQ the reference reads a picture, as a whole.;PICTURES, PLAIN LEAN: the reference's Parse.;PICTURES, PLAIN LEAN: what drifts, by the program.;PICTURES, PLAIN LEAN: roles of the characters, by the program.
-/
import Derived.Test.YtadehgdfijjikaaGreatDoorZ2
set_option linter.all false
namespace Go.Yec
open Go
variable {N:Nat} {s b:List UInt8}
def c0 (b:List UInt8):Nat->Nat:=cnt fun i=>decide (RR b i=0)
def c1 (b:List UInt8):Nat->Nat:=cnt fun i=>decide (RR b i=1)
def c2 (b:List UInt8):Nat->Nat:=cnt fun i=>decide (RR b i=2)
def ko (b:List UInt8):Nat->Bool
  | 0=>true
  | i+1=>ko b i&&!(decide (RR b i=1)&&decide (0<c0 b i))
def bh (b:List UInt8):Nat->Bool
  | 0=>false
  | i+1=>bh b i || (decide (RR b i=1)&&decide (0<c2 b i))
theorem ko_le {b:List UInt8}{i n:Nat}(h:i <= n)(hk:ko b i=false):ko b n=false:=by
  induction h with
  | refl=>exact hk
  | step _ ih=>show (ko b _&&_)=false;rw [ih];rfl
def y0A (b:List UInt8):Bool:=ko b b.length&&(decide (1 <= c0 b b.length+c1 b b.length)&&(decide (c0 b b.length+c1 b b.length <= 9)&&!(bh b b.length&&decide (0<c0 b b.length))))
def ZsB (b:List UInt8):Bool:= !(b.elem 90&&b.elem 42)&&!((b.elem 90 || b.elem 42)&&decide (Dft b≠0))
theorem HasC (hl:s.length <= 1000)(hN:1100 <= N)(c:UInt8){n:Int}(h:n=ci c):x2L N s n=some (s.elem c):=by rw [h];exact HasL s hl hN c
theorem u4V (n:Nat):decide (0<n+1)=true:=decide_eq_true (by omega)
theorem u8J (hl:b.length <= 1000)(hN:1100 <= N):u3M N b (y0L b)=some (ZsB b&&y0A b):=by
  unfold u3M;rw [HasC hl hN 90 (n:= 90) rfl,HasC hl hN 42 (n:= 42) rfl,x7L hl hN];have loop:iter N (z4Q N b (y0L b)) (false,false,false,(0:Int),(0:Int))=some (y0A b):=by
    refine x8M (n:=b.length) (P:=Unit) (fun _ i=>(decide (0<c0 b i),bh b i,decide (0<c2 b i),((c0 b i+c1 b i:Nat):Int),(i:Int))) (fun _ i=>ko b i=true) (fun o=>o=some (y0A b)) ?_ ?_ () rfl (by omega)
    . intro again _ hk;unfold z4Q;simp only [x5D,cond_false];unfold y0A;rw [hk];have e1:decide ((1:Int) <= ((c0 b b.length+c1 b b.length:Nat):Int))=decide (1 <= c0 b b.length+c1 b b.length):=decide_eq_decide.2 (by omega)
      have e2:decide (((c0 b b.length+c1 b b.length:Nat):Int) <= 9)=decide (c0 b b.length+c1 b b.length <= 9):=decide_eq_decide.2 (by omega)
      rw [e1,e2];cases decide (1 <= c0 b b.length+c1 b b.length) <;> cases decide (c0 b b.length+c1 b b.length <= 9) <;> cases bh b b.length <;> cases decide (0<c0 b b.length) <;> rfl
    . intro again _ i hk hi bm;have h0:=y1P (fun i=>decide (RR b i=0)) i;have h1:=y1P (fun i=>decide (RR b i=1)) i;have g0:c0 b i <= i:=h0;have g1:c1 b i <= i:=h1;have e0:c0 b (i+1)=c0 b i+cond (decide (RR b i=0)) 1 0:=rfl;have e1:c1 b (i+1)=c1 b i+cond (decide (RR b i=1)) 1 0:=rfl;have e2:c2 b (i+1)=c2 b i+cond (decide (RR b i=2)) 1 0:=rfl;have ek:ko b (i+1)=(ko b i&&!(decide (RR b i=1)&&decide (0<c0 b i))):=rfl;have eb:bh b (i+1)=(bh b i || (decide (RR b i=1)&&decide (0<c2 b i))):=rfl
      unfold z4Q;simp only [x6S hi,x3F (show i<(y0L b).length by rw [x3Z];exact hi),cond_true,x3N (i:=i) (by omega),x3N (i:=c0 b i+c1 b i) (by omega)]
      rw [x4F,z3B hi];have hg:=bm ();rw [e0,e1,e2,ek,eb,hk] at hg;rcases x9X b i with h | h | h | h | h | h
      . rw [h] at hg |-
        have:=hg rfl
        simp only [decide_true,decide_false,Int.reduceEq,cond_true,cond_false,u4V,Nat.add_zero,Bool.false_and,Bool.or_false] at this;rw [show c0 b i+1+c1 b i=c0 b i+c1 b i+1 by omega] at this
        exact this
      . rw [h] at hg |-
        cases hz:decide (0<c0 b i)
        . rw [hz] at hg
          have:=hg rfl
          simp only [decide_true,decide_false,Int.reduceEq,cond_true,cond_false,Nat.add_zero,Bool.true_and] at this;rw [show c0 b i+(c1 b i+1)=c0 b i+c1 b i+1 by omega,hz] at this
          have eo:(bh b i || decide (0<c2 b i))=cond (bh b i) true (decide (0<c2 b i)):=by cases bh b i <;> rfl
          rw [eo] at this;exact this
        . have:y0A b=false := by
            unfold y0A;rw [ko_le (i:=i+1) (by omega) (by rw [ek,h,hz,hk];rfl)];rfl
          rw [this];rfl
      . rw [h] at hg |-
        have:=hg rfl
        simp only [decide_true,decide_false,Int.reduceEq,cond_true,cond_false,u4V,Nat.add_zero,Bool.false_and,Bool.or_false] at this;exact this
      . rw [h] at hg |-
        have:=hg rfl
        simp only [decide_true,decide_false,Int.reduceEq,cond_false,Nat.add_zero,Bool.false_and,Bool.or_false] at this;exact this
      . rw [h] at hg |-
        have:=hg rfl
        simp only [decide_true,decide_false,Int.reduceEq,cond_false,Nat.add_zero,Bool.false_and,Bool.or_false] at this;exact this
      . rw [h] at hg |-
        have:=hg rfl
        simp only [decide_true,decide_false,Int.reduceEq,cond_false,Nat.add_zero,Bool.false_and,Bool.or_false] at this;exact this
  rw [loop];simp only [Option.bind_some,y8B];unfold ZsB;have ed:decide (Dft b≠0)=!(decide (Dft b=0)):=by simp
  rw [ed];cases b.elem 90 <;> cases b.elem 42 <;> simp only [Option.bind_some,cond_true,cond_false,Bool.not_false,Bool.not_true,y8B] <;> cases decide (Dft b=0) <;> cases y0A b <;> rfl
def sgB (s:List UInt8):Int:=(cond (crB s) 1 0)+(cond ((x0K s).elem 83) 1 0)+(cond ((x0K s).elem 43) 1 0)+(cond ((x0K s).elem 45) 1 0)+(((x0K s).count 84:Nat):Int)+(((x0K s).count 73:Nat):Int)+(((x0K s).count 82:Nat):Int)
theorem c01 (c:Bool):0 <= (cond c 1 0:Int)/\(cond c 1 0:Int) <= 1:=by cases c <;> decide
theorem z0A (hl:s.length <= 1000)(hN:1100 <= N):z9L N s=some (sgB s):=by
  have loop:∀ (b:List UInt8) (n0:Int) (step:(Int×Int->Option Int)->Int×Int->Option Int), b.length <= 1000->0 <= n0->n0 <= 1->(∀ again x1, step again x1=(cond (decide (x1.2<(3:Int))) (cond (inB x1.2 (slen ([83, 43, 45]:List UInt8))) (Option.bind (x2L N b (sget ([83, 43, 45]:List UInt8) x1.2)) (fun (r2:Bool) => (cond r2 (again ((IntKind.wrap .i64 (x1.1+(1:Int))), (IntKind.wrap .i64 (x1.2+(1:Int))))) (again (x1.1, (IntKind.wrap .i64 (x1.2+(1:Int)))))))) none) (Option.bind (x8C N b (84:Int)) (fun (r2:Int) => (Option.bind (x8C N b (73:Int)) (fun (r3:Int) => (Option.bind (x8C N b (82:Int)) (fun (r4:Int) => (some (IntKind.wrap .i64 ((IntKind.wrap .i64 ((IntKind.wrap .i64 (x1.1+r2))+r3))+r4))))))))))) ->
      iter N step (n0,(0:Int))=some (n0+(cond (b.elem 83) 1 0)+(cond (b.elem 43) 1 0)+(cond (b.elem 45) 1 0)+((b.count 84:Nat):Int)+((b.count 73:Nat):Int)+((b.count 82:Nat):Int)):=by
    intro b n0 step hb h0 h1 hs
    have uL:N=(N-4)+1+1+1+1:=by omega
    generalize N-4=M at uL;have m1:=List.count_le_length (a:=(84:UInt8)) (l:=b);have m2:=List.count_le_length (a:=(73:UInt8)) (l:=b);have m3:=List.count_le_length (a:=(82:UInt8)) (l:=b);have fin:∀ again (n:Int), 0 <= n->n <= 10->step again (n, 3)=some (n+((b.count 84:Nat):Int)+((b.count 73:Nat):Int)+((b.count 82:Nat):Int)):=by
      intro again n eM cY;rw [hs];rw [show decide ((3:Int)<3)=false from rfl,cond_false]
      rw [show (84:Int)=ci 84 from rfl,show (73:Int)=ci 73 from rfl,show (82:Int)=ci 82 from rfl,x4E hb hN,x4E hb hN,x4E hb hN]
      simp only [Option.bind_some];rw [w64 (n:=n+_) (by omega) (by omega),w64 (n:=n+_+_) (by omega) (by omega),w64 (by omega) (by omega)]
    have st:∀ again (n:Int) (i:Nat) (c:UInt8),i<3->bt sgL i=c->0 <= n->n <= 10->step again (n,(i:Int))=again (n+cond (b.elem c) 1 0,((i+1:Nat):Int)):=by
      intro again n i c hi hc eM cY;rw [hs];simp only [decide_eq_true (show ((i:Nat):Int)<3 by omega),cond_true,show ([83, 43, 45]:List UInt8)=sgL from rfl,x3F (show i<sgL.length from hi),x3N (i:=i) (by omega)]
      rw [x4F,hc,HasL b hb hN];simp only [Option.bind_some];cases b.elem c
      . simp
      . rw [cond_true,cond_true,w64 (by omega) (by omega)]
    have k1:=c01 (b.elem 83);have k2:=c01 (b.elem 43);have k3:=c01 (b.elem 45);rw [congrArg (fun k=>iter k step (n0,(0:Int))) uL,x2G,show ((n0,(0:Int)):Int×Int)=(n0,((0:Nat):Int)) from rfl,st _ n0 0 83 (by omega) rfl (by omega) (by omega),x2G,st _ _ 1 43 (by omega) rfl (by omega) (by omega),x2G,st _ _ 2 45 (by omega) rfl (by omega) (by omega),x2G]
    exact fin _ _ (by omega) (by omega)
  unfold z9L;rw [x5U hl];simp only [Option.bind_some];unfold sgB;cases h:crB s
  . rw [y8Q h,cond_false,loop s 0 (v8A N s) hl (by omega) (by omega) (fun _ _=>rfl)];rfl
  . rw [cond_true,z4F hl h,cond_true,loop (x0K s) 1 (v8B N s) (by have:=y5G (s:=s);omega) (by omega) (by omega) (fun _ _=>by rw [<- y8P hl h];rfl)];rfl
variable {N:Nat} {s b:List UInt8}
def dj (b:List UInt8)(j:Nat):Bool:=(decide (RR b j=0) || decide (RR b j=1)) || decide (bt b j=Dft b)
def Sta (b:List UInt8):Prop:= ∀ i,i<b.length->drL.elem (bt b i)=true->bt b i≠Dft b->¬((∃ j,j<i/\dj b j=true)/\∃ j,i<j/\j<b.length/\dj b j=true)
theorem y3B (hl:b.length <= 1000)(hN:1100 <= N):(Sta b->z9H N b (y0L b)=some true)/\(¬ Sta b->z9H N b (y0L b)=some false):=by
  unfold z9H;rw [x7L hl hN];simp only [Option.bind_some];refine x8M (n:=b.length) (P:=Unit) (fun _ i=>(i:Int)) (fun _ i=> ∀ k,k<i->drL.elem (bt b k)=true->bt b k≠Dft b->¬((∃ j,j<k/\dj b j=true)/\∃ j,k<j/\j<b.length/\dj b j=true)) (fun o=>(Sta b->o=some true)/\(¬ Sta b->o=some false)) ?_ ?_ () (fun k h=>by omega) (by omega)
  . intro again _ h;unfold u3D;rw [x5D,cond_false];exact ⟨fun _=>rfl,fun h2=>absurd h h2⟩
  . intro again _ i h hi bm;unfold u3D;simp only [x6S hi,x3F hi,cond_true,x3N (i:=i) (by omega),show ([36, 83, 43, 45]:List UInt8)=drL from rfl]
    rw [x4F,HasL drL (by decide) hN,y1Q]
    simp only [Option.bind_some];have go:(drL.elem (bt b i)=true->bt b i≠Dft b->¬((∃ j,j<i/\dj b j=true)/\∃ j,i<j/\j<b.length/\dj b j=true))->(Sta b->again ((i+1:Nat):Int)=some true)/\(¬ Sta b->again ((i+1:Nat):Int)=some false):=fun h2=>bm () fun k hk=>by
      by_cases e:k=i
      . rw [e];exact h2
      . exact h k (by omega)
    cases hd:drL.elem (bt b i)
    . exact go (by rw [hd];intro h;cases h)
    . by_cases hc:bt b i=Dft b
      . rw [decide_eq_true hc];exact go fun _ h=>absurd hc h
      . rw [decide_eq_false hc];simp only [Bool.not_true,Bool.not_false,cond_true,cond_false];refine x8M (n:=b.length) (P:=Bool×Bool) (fun a j=>(a.1,a.2,(j:Int))) (fun a j=>(a.1=true↔∃ k,k<j/\k<i/\dj b k=true)/\(a.2=true↔∃ k,k<j/\i<k/\dj b k=true)) (fun o=>(Sta b->o=some true)/\(¬ Sta b->o=some false)) ?_ ?_ (false,false) ⟨⟨fun h=>(by cases h),fun ⟨k,h,_⟩=>(by omega)⟩,⟨fun h=>(by cases h),fun ⟨k,h,_⟩=>(by omega)⟩⟩ (by omega)
        . rintro again3 ⟨a1,a2⟩ ⟨h1,h2⟩;unfold u3E;simp only [x5D,cond_false,x3N (i:=i) (by omega)]
          cases hb:(cond a1 a2 false)
          . refine go fun _ _=>?_;rintro ⟨⟨j,ow,cG⟩,⟨k,pU,fV,cT⟩⟩;have e1:=h1.2 ⟨j,by omega,ow,cG⟩
            have e2:=h2.2 ⟨k,fV,pU,cT⟩;simp only at e1 e2;rw [e1,e2] at hb;cases hb
          . have gi:a1=true:=by cases a1 <;> first | rfl | cases hb
            have sB:a2=true:=by rw [gi] at hb;exact hb
            rw [cond_true];refine ⟨fun hs=>?_,fun _=>rfl⟩;obtain ⟨j,_,ow,cG⟩:=h1.1 gi;obtain ⟨k,pU,fV,cT⟩:=h2.1 sB;exact absurd ⟨⟨j,ow,cG⟩,⟨k,fV,pU,cT⟩⟩ (hs i hi hd hc)
        . rintro again3 ⟨a1,a2⟩ j ⟨h1,h2⟩ hj oW;unfold u3E;simp only [x6S hj,x3F hj,x3F (show j<(y0L b).length by rw [x3Z];exact hj),cond_true,x3N (i:=j) (by omega)]
          rw [x4F,x4F,z3B hj,y1Q];have ez:cond (cond (decide (ci (mkR (RR b j))=100)) true (decide (ci (mkR (RR b j))=99))) true (decide (bt b j=Dft b))=dj b j:=by
            unfold dj;rcases x9X b j with e | e | e | e | e | e <;> rw [e] <;> cases decide (bt b j=Dft b) <;> rfl
          rw [ez];have l1:decide ((j:Int)<(i:Int))=decide (j<i):=decide_eq_decide.2 (by omega)
          have l2:decide ((i:Int)<(j:Int))=decide (i<j):=decide_eq_decide.2 (by omega)
          rw [l1,l2];have triv:∀ c:Bool,cond c true true=true:=fun c=>by cases c <;> rfl
          rw [triv,cond_true,triv,cond_true];simp only at h1 h2;cases hz:dj b j
          . rw [cond_false];refine oW (a1,a2) ⟨h1.trans ⟨fun ⟨k,x,y,z⟩=>⟨k,by omega,y,z⟩,fun ⟨k,x,y,z⟩=>⟨k, ?_,y,z⟩⟩,h2.trans ⟨fun ⟨k,x,y,z⟩=>⟨k,by omega,y,z⟩,fun ⟨k,x,y,z⟩=>⟨k, ?_,y,z⟩⟩⟩
            . by_cases e:k=j
              . rw [e,hz] at z;cases z
              . omega
            . by_cases e:k=j
              . rw [e,hz] at z;cases z
              . omega
          . rw [cond_true];refine oW (cond a1 true (decide (j<i)),cond a2 true (decide (i<j))) ⟨?_, ?_⟩
            . show cond a1 true (decide (j<i))=true↔_;cases ha:a1
              . rw [cond_false];constructor
                . intro ai;exact ⟨j,by omega,of_decide_eq_true ai,hz⟩
                . rintro ⟨k,x,y,z⟩
                  by_cases e:k=j
                  . exact decide_eq_true (by omega)
                  . have:=h1.2 ⟨k,by omega,y,z⟩
                    rw [ha] at this;cases this
              . rw [cond_true];refine ⟨fun _=>?_,fun _=>rfl⟩;obtain ⟨k,x,y,z⟩:=h1.1 ha;exact ⟨k,by omega,y,z⟩
            . show cond a2 true (decide (i<j))=true↔_;cases ha:a2
              . rw [cond_false];constructor
                . intro ai;exact ⟨j,by omega,of_decide_eq_true ai,hz⟩
                . rintro ⟨k,x,y,z⟩
                  by_cases e:k=j
                  . exact decide_eq_true (by omega)
                  . have:=h2.2 ⟨k,by omega,y,z⟩
                    rw [ha] at this;cases this
              . rw [cond_true];refine ⟨fun _=>?_,fun _=>rfl⟩;obtain ⟨k,x,y,z⟩:=h2.1 ha;exact ⟨k,by omega,y,z⟩
def axL:List UInt8:=[65, 88, 57]
def nmL:List UInt8:=[65, 88, 67, 68]
def chB (s:List UInt8):Bool:=s.all (fun c=>axL.elem c)&&(s.elem 65 || s.elem 88)
theorem all_bt {p:UInt8->Bool}:s.all p=true↔∀ i,i<s.length->p (bt s i)=true:=by
  rw [List.all_eq_true];constructor
  . intro h i hi;exact h _ (mem_bt.2 ⟨i,hi,rfl⟩)
  . intro h c hc;obtain ⟨i,hi,rfl⟩:=mem_bt.1 hc;exact h i hi
theorem z8P (hl:s.length <= 1000)(hN:1100 <= N):v0U N s=some (chB s):=by
  unfold v0U;refine x8M (n:=s.length) (P:=Unit) (fun _ i=>(i:Int)) (fun _ i=> ∀ k,k<i->axL.elem (bt s k)=true) (fun o=>o=some (chB s)) ?_ ?_ () (fun k h=>by omega) (by omega)
  . intro again _ h;unfold u3L;rw [x5D,cond_false,HasC hl hN 65 (n:= 65) rfl,HasC hl hN 88 (n:= 88) rfl];unfold chB;rw [all_bt.2 h];cases s.elem 65 <;> cases s.elem 88 <;> rfl
  . intro again _ i h hi bm;unfold u3L;simp only [x6S hi,x3F hi,cond_true,x3N (i:=i) (by omega),show ([65, 88, 57]:List UInt8)=axL from rfl]
    rw [x4F,HasL axL (by decide) hN]
    simp only [Option.bind_some];cases hx:axL.elem (bt s i)
    . unfold chB;have:s.all (fun c=>axL.elem c)=false:=by
        cases ha:s.all (fun c=>axL.elem c)
        . rfl
        . rw [all_bt.1 ha i hi] at hx;cases hx
      rw [this];rfl
    . refine bm () fun k hk=>?_
      by_cases e:k=i
      . rw [e];exact hx
      . exact h k (by omega)
theorem crB_no (h:∀ c,c∈b->nmL.elem c=false):crB b=false:=by
  cases hc:crB b
  . rfl
  . have h2:=y2V hc;unfold crB at hc;rw [decide_eq_true h2,cond_true,Bool.or_eq_true,decide_eq_true_eq,decide_eq_true_eq] at hc;rcases hc with hc | hc
    . have:=h 67 (List.mem_of_mem_drop (i:=b.length-2) (by rw [hc];simp))
      revert this;decide
    . have:=h 68 (List.mem_of_mem_drop (i:=b.length-2) (by rw [hc];simp))
      revert this;decide
def NumP (s:List UInt8):Prop:=(∀ c,c∈x0K s->nmL.elem c=false)/\(x0K s).count 86 <= 1/\DRok (x0K s)/\ZsB (x0K s)=true/\y0A (x0K s)=true/\sgB s <= 1/\Sta (x0K s)
def G143 (N:Nat)(b s:List UInt8)(again2:Int->Option (Bool))(x2:Int):Option (Bool):=(cond (decide (x2<(slen b))) (cond (inB x2 (slen b)) (Option.bind (x2L N ([65, 88, 67, 68]:List UInt8) (sget b x2)) (fun (r3:Bool)=>(cond r3 (some false) (again2 (IntKind.wrap .i64 (x2+(1:Int))))))) none) (Option.bind (z9K N b) (fun (r3:List UInt8)=>(Option.bind (x8C N b (86:Int)) (fun (r4:Int)=>(Option.bind (cond (decide (r4 <= (1:Int))) (z9J N b) (some (default:Bool))) (fun (r5:Bool)=>(Option.bind (cond (cond (decide (r4 <= (1:Int))) r5 false) (u3M N b r3) (some (default:Bool))) (fun (r6:Bool)=>(Option.bind (cond (cond (cond (decide (r4 <= (1:Int))) r5 false) r6 false) (z9L N s) (some (default:Int))) (fun (r7:Int)=>(Option.bind (cond (cond (cond (cond (decide (r4 <= (1:Int))) r5 false) r6 false) (decide (r7 <= (1:Int))) false) (z9H N b r3) (some (default:Bool))) (fun (r8:Bool)=>(some (cond (cond (cond (cond (decide (r4 <= (1:Int))) r5 false) r6 false) (decide (r7 <= (1:Int))) false) r8 false)))))))))))))))
theorem v8E (hl:s.length <= 1000)(hb:b=x0K s)(hN:1100 <= N):(NumP s->iter N (G143 N b s) 0=some true)/\(¬ NumP s->iter N (G143 N b s) 0=some false):=by
  have aM:b.length <= 1000:=by have:=y5G (s:=s);rw [hb];omega
  refine x8M (n:=b.length) (P:=Unit) (fun _ i=>(i:Int)) (fun _ i=> ∀ k,k<i->nmL.elem (bt b k)=false) (fun o=>(NumP s->o=some true)/\(¬ NumP s->o=some false)) ?_ ?_ () (fun k h=>by omega) (by omega)
  . intro again _ h;unfold G143;have ay:∀ c,c∈b->nmL.elem c=false:=fun c hc=>by
      obtain ⟨i,hi,rfl⟩:=mem_bt.1 hc;exact h i hi
    have uo:=crB_no ay;have jm:mkS b=y0L b:=by unfold mkS;rw [y8Q uo,uo];simp
    rw [x5D,cond_false,z0U aM hN,show (86:Int)=ci 86 from rfl,x4E aM hN,z0A hl hN,jm]
    simp only [Option.bind_some];rw [u8J aM hN];have e86:decide (((b.count 86:Nat):Int) <= 1)=decide (b.count 86 <= 1):=decide_eq_decide.2 (by omega)
    rw [e86];unfold NumP;rw [<- hb]
    by_cases p1:b.count 86 <= 1
    . rw [decide_eq_true p1];simp only [cond_true]
      by_cases p2:DRok b
      . rw [(y7V aM hN).1 p2];simp only [Option.bind_some,cond_true];cases p3:ZsB b
        . exact ⟨fun ⟨_,_,_,h,_⟩=>(by cases h),fun _=>rfl⟩
        . cases p4:y0A b
          . exact ⟨fun ⟨_,_,_,_,h,_⟩=>(by cases h),fun _=>rfl⟩
          . simp only [Bool.and_self,Option.bind_some,cond_true]
            by_cases p5:sgB s <= 1
            . rw [decide_eq_true p5];simp only [cond_true]
              by_cases p6:Sta b
              . rw [(y3B aM hN).1 p6];exact ⟨fun _=>rfl,fun h=>absurd ⟨ay,p1,p2,by first | rfl | trivial,by first | rfl | trivial,p5,p6⟩ h⟩
              . rw [(y3B aM hN).2 p6];exact ⟨fun ⟨_,_,_,_,_,_,h⟩=>absurd h p6,fun _=>rfl⟩
            . rw [decide_eq_false p5];exact ⟨fun ⟨_,_,_,_,_,h,_⟩=>absurd h p5,fun _=>rfl⟩
      . rw [(y7V aM hN).2 p2];exact ⟨fun ⟨_,_,h,_⟩=>absurd h p2,fun _=>rfl⟩
    . rw [decide_eq_false p1];exact ⟨fun ⟨_,h,_⟩=>absurd h p1,fun _=>rfl⟩
  . intro again _ i h hi bm;unfold G143;simp only [x6S hi,x3F hi,cond_true,x3N (i:=i) (by omega),show ([65, 88, 67, 68]:List UInt8)=nmL from rfl]
    rw [x4F,HasL nmL (by decide) hN]
    simp only [Option.bind_some];cases hx:nmL.elem (bt b i)
    . refine bm () fun k hk=>?_
      by_cases e:k=i
      . rw [e];exact hx
      . exact h k (by omega)
    . refine ⟨fun ⟨hn,_⟩=>?_,fun _=>rfl⟩;rw [<- hb] at hn;rw [hn _ (mem_bt.2 ⟨i,hi,rfl⟩)] at hx;cases hx
theorem y3L (hl:s.length <= 1000)(hN:1100 <= N):(chB s=false/\NumP s->v0T N s=some true)/\(¬ (chB s=false/\NumP s)->v0T N s=some false):=by
  unfold v0T;rw [z8P hl hN,x5U hl];simp only [Option.bind_some];cases hc:chB s
  . rw [cond_false];have key:=v8E (b:=x0K s) hl rfl hN;have:(cond (crB s) (cond (decide (0 <= (IntKind.wrap .i64 ((slen s)-(2:Int)))/\(IntKind.wrap .i64 ((slen s)-(2:Int))) <= slen s)) (iter N (v8D N s) (0:Int)) none) (iter N (v8C N s) (0:Int)))=iter N (G143 N (x0K s) s) 0:=by
      cases h:crB s
      . rw [y8Q h];rfl
      . rw [z4F hl h, <- y8P hl h];rfl
    rw [this];exact ⟨fun h=>key.1 h.2,fun h=>key.2 fun h2=>h ⟨rfl,h2⟩⟩
  . exact ⟨fun h=>(by cases h.1),fun _=>rfl⟩
variable {N:Nat} {s b o:List UInt8}
def scl (b:List UInt8):Nat->Nat
  | 0=> 0
  | i+1=>scl b i+cond ((decide (RR b i=0) || decide (RR b i=1))&&(b.take i).elem 86) 1 0
theorem scl_le (b:List UInt8):∀ i,scl b i <= i
  | 0=>Nat.le_refl _
  | i+1=>by
    have:=scl_le b i
    show scl b i+_ <= _;cases ((decide (RR b i=0) || decide (RR b i=1))&&(b.take i).elem 86) <;> simp only [cond_true,cond_false] <;> omega
abbrev PicR:=(List UInt8×Bool×Int×Int×Int×Bool)×Int
def u6Z:PicR:=(([],false, 0, 0, 0,false), 30)
def u5B (o:List UInt8):PicR:=((o,true,(o.length:Int)-((o.count 86:Nat):Int),((c0 (x0K o) (x0K o).length+c1 (x0K o) (x0K o).length:Nat):Int),((scl (x0K o) (x0K o).length:Nat):Int),decide (sgB o=1)), 0)
open Classical in
noncomputable def u7W (o:List UInt8):PicR:=if chB o=true then ((o,false,(o.length:Int), 0, 0,false), 0) else if NumP o then u5B o else u6Z
noncomputable def picS (s:List UInt8):PicR:=match mch s 0 0 [] with
  | some o=>u7W o
  | none=>u6Z
theorem y3N:∀ (s:List UInt8) (st n:Int) (out o:List UInt8),mch s st n out=some o->out.length <= 32->(∀ c,c∈out->lettersL.elem c=true)->o.length <= 32/\o≠[]/\∀ c,c∈o->lettersL.elem c=true
  | [],st,n,out,o,h,h1,h2=>by
    unfold mch at h;split at h
    . rename_i hh;cases h;exact ⟨h1,hh.2,h2⟩
    . cases h
  | c::r,st,n,out,o,h,h1,h2=>by
    have put:∀ (m:Int) (q:List UInt8),putS c m out=some q->q.length <= 32/\∀ x,x∈q->lettersL.elem x=true:=by
      intro m q hq;unfold putS at hq;split at hq
      . rename_i hh;cases hq;refine ⟨?_,fun x hx=>?_⟩
        . simp only [List.length_append,List.length_replicate];have:=hh.2;omega
        . rcases List.mem_append.1 hx with hx | hx
          . exact h2 x hx
          . rw [List.eq_of_mem_replicate hx];exact hh.1
      . cases hq
    rw [x9L] at h;split at h
    . split at h
      . split at h
        . exact y3N r _ _ _ _ h h1 h2
        . cases h
      . cases hr:repS n c with
        | none=>rw [hr] at h;cases h
        | some n'=>rw [hr] at h;exact y3N r _ _ _ _ h h1 h2
    . split at h
      . cases hp:putS c n out with
        | none=>rw [hp] at h;cases h
        | some q=>rw [hp] at h;exact y3N r _ _ _ _ h (put _ _ hp).1 (put _ _ hp).2
      . split at h
        . exact y3N r _ _ _ _ h h1 h2
        . cases hp:putS c 1 out with
          | none=>rw [hp] at h;cases h
          | some q=>rw [hp] at h;exact y3N r _ _ _ _ h (put _ _ hp).1 (put _ _ hp).2
theorem u0U (h:mch s 0 0 []=some o):o.length <= 32:=(y3N s 0 0 [] o h (by simp) (by simp)).1
theorem y6U (h:mch s 0 0 []=some o):∀ c,c∈o->lettersL.elem c=true:=(y3N s 0 0 [] o h (by simp) (by simp)).2.2
theorem v4R (o:List UInt8):(mkS o).length=o.length:=by
  unfold mkS;rw [List.length_append,x3Z];unfold x0K;cases h:crB o
  . simp
  . have:=y2V h
    simp only [cond_true,List.length_take,List.length_cons,List.length_nil];omega
theorem u2W (o:List UInt8):(x0K o).length+cond (crB o) 2 0=o.length:=by
  unfold x0K;cases h:crB o
  . rfl
  . have:=y2V h
    simp only [cond_true,List.length_take];omega
theorem mkS_lo {i:Nat}(h:i<(x0K o).length):bt (mkS o) i=mkR (RR (x0K o) i):=by
  rw [<- z3B h];unfold mkS bt;rw [List.getD_eq_getElem?_getD,List.getD_eq_getElem?_getD,List.getElem?_append_left (by rw [x3Z];exact h)]
theorem mkS_hi {i:Nat}(h:(x0K o).length <= i)(h2:i<o.length):bt (mkS o) i=115:=by
  have hl:=u2W o;unfold mkS bt;rw [List.getD_eq_getElem?_getD,List.getElem?_append_right (by rw [x3Z];exact h),x3Z]
  cases hc:crB o
  . rw [hc,cond_false] at hl;omega
  . rw [hc,cond_true] at hl;have:i-(x0K o).length=0\/i-(x0K o).length=1:=by omega
    rcases this with e | e <;> rw [e] <;> rfl
theorem v7M {i:Nat}(h:i <= (x0K o).length):o.take i=(x0K o).take i:=by
  unfold x0K at h |-
  cases hc:crB o
  . rfl
  . rw [hc] at h;simp only [cond_true,List.length_take] at h |-
    rw [List.take_take];congr 1;omega
theorem z9E (hl:s.length <= 1000)(hN:1100 <= N):v0V N s=some (picS s):=by
  unfold v0V;rw [u8T hl hN];simp only [Option.bind_some];unfold picS;cases hm:mch s 0 0 [] with
  | none=>rfl
  | some o =>
    have jS:o.length <= 1000:=by have:=u0U hm;omega
    simp only [decide_true,Bool.not_true,cond_false];rw [z8P jS hN,show (86:Int)=ci 86 from rfl,x4E jS hN,z0A jS hN,z0U jS hN]
    simp only [Option.bind_some];unfold u7W;cases hc:chB o
    . rw [cond_false,if_neg (by decide)]
      by_cases hp:NumP o
      . rw [(y3L jS hN).1 ⟨hc,hp⟩,if_pos hp];simp only [Option.bind_some,Bool.not_true,cond_false];have gg:=List.count_le_length (a:=(86:UInt8)) (l:=o);rw [w64 (n:=slen o-_) (by rw [x0Q];omega) (by rw [x0Q];omega)]
        have aM:=u2W o;generalize ut:(x0K o).length=n at aM;have aI:n <= o.length:=by omega
        have loop := x8M (n := o.length) (step := z4T N (o, 0) (mkS o)) (P := Nat×Nat) (fun a i => ((i:Int), o, true, slen o-((o.count 86:Nat):Int), (a.1:Int), (a.2:Int), decide (sgB o=1))) (fun a i => (i <= n->a.1=c0 (x0K o) i+c1 (x0K o) i/\a.2=scl (x0K o) i)/\(n <= i->a.1=c0 (x0K o) n+c1 (x0K o) n/\a.2=scl (x0K o) n)) (fun x => x=some (u5B o)) ?_ ?_ (N := N) (0, 0) ⟨fun _ => ⟨rfl, rfl⟩, fun h => by
            have:n=0:=by omega
            rw [this];exact ⟨rfl,rfl⟩⟩ (by omega)
        . exact loop
        . rintro again ⟨d,sc⟩ ⟨_,h2⟩;obtain ⟨e1,e2⟩:=h2 aI;simp only at e1 e2;unfold z4T;simp only;rw [decide_eq_false (show ¬ ((o.length:Nat):Int)<slen (mkS o) by rw [x0Q,v4R];omega),cond_false]
          unfold u5B;rw [ut, <- e1, <- e2];rfl
        . rintro again ⟨d,sc⟩ i ⟨h1,h2⟩ hi bm;have mC:i<(mkS o).length:=by rw [v4R];exact hi
          simp only at h1 h2;unfold z4T;simp only [x6S mC,x3F mC,cond_true,x3N (i:=i) (by omega),decide_eq_true (show 0 <= ((i:Nat):Int)/\((i:Nat):Int) <= slen o by rw [x0Q];omega)]
          rw [x4F,y5V,show (86:Int)=ci 86 from rfl,HasL (o.take i) (by rw [List.length_take];omega) hN]
          simp only [Option.bind_some]
          by_cases dE:i<n
          . obtain ⟨e1,e2⟩:=h1 (by omega)
            have b0:=y1P (fun i=>decide (RR (x0K o) i=0)) i;have b1:=y1P (fun i=>decide (RR (x0K o) i=1)) i;have g0:c0 (x0K o) i <= i:=b0;have g1:c1 (x0K o) i <= i:=b1;have g2:=scl_le (x0K o) i;rw [mkS_lo (by omega),v7M (by omega),x3N (i:=d) (by omega),x3N (i:=sc) (by omega)]
            have nx:∀ d' sc':Nat,d'=d+cond (decide (RR (x0K o) i=0) || decide (RR (x0K o) i=1)) 1 0->sc'=sc+cond ((decide (RR (x0K o) i=0) || decide (RR (x0K o) i=1))&&((x0K o).take i).elem 86) 1 0->again (((i+1:Nat):Int),o,true,slen o-((o.count 86:Nat):Int),(d':Int),(sc':Int),decide (sgB o=1))=some (u5B o):=by
              intro d' sc' hd hs;have ed:d'=c0 (x0K o) (i+1)+c1 (x0K o) (i+1):=by
                have x0:c0 (x0K o) (i+1)=c0 (x0K o) i+cond (decide (RR (x0K o) i=0)) 1 0:=rfl;have x1:c1 (x0K o) (i+1)=c1 (x0K o) i+cond (decide (RR (x0K o) i=1)) 1 0:=rfl;rw [hd,x0,x1,e1];rcases x9X (x0K o) i with h | h | h | h | h | h <;> rw [h] <;> simp <;> omega
              have es:sc'=scl (x0K o) (i+1):=by rw [hs,e2];rfl
              refine bm (d',sc') ⟨fun _=>⟨ed,es⟩,fun h=>?_⟩;have:n=i+1:=by omega
              rw [this];exact ⟨ed,es⟩
            rcases x9X (x0K o) i with h | h | h | h | h | h
            . cases he:((x0K o).take i).elem 86
              . rw [h];exact nx (d+1) sc (by rw [h];rfl) (by rw [h,he];rfl)
              . rw [h];exact nx (d+1) (sc+1) (by rw [h];rfl) (by rw [h,he];rfl)
            . cases he:((x0K o).take i).elem 86
              . rw [h];exact nx (d+1) sc (by rw [h];rfl) (by rw [h,he];rfl)
              . rw [h];exact nx (d+1) (sc+1) (by rw [h];rfl) (by rw [h,he];rfl)
            . rw [h];exact nx d sc (by rw [h];rfl) (by rw [h];rfl)
            . rw [h];exact nx d sc (by rw [h];rfl) (by rw [h];rfl)
            . rw [h];exact nx d sc (by rw [h];rfl) (by rw [h];rfl)
            . rw [h];exact nx d sc (by rw [h];rfl) (by rw [h];rfl)
          . rw [mkS_hi (by omega) hi]
            exact bm (d,sc) ⟨fun h=>by omega,fun _=>h2 (by omega)⟩
      . rw [(y3L jS hN).2 fun h=>hp h.2,if_neg hp];rfl
    . rw [cond_true,if_pos rfl];rfl
variable {N:Nat} {s b:List UInt8}
theorem y7G:∀ {b:List UInt8} {c:UInt8} {n:Nat}, IsF b c n->Lib.indexByte b c=(n:Int)
  | [],c,n,h=>absurd h.1 (Nat.not_lt_zero _)
  | x::l,c,n,h=>by
    have e0:bt (x::l) 0=x:=rfl;unfold Lib.indexByte;cases n with
    | zero =>
      have:x=c:=by rw [<- e0];exact h.2.1
      subst this;simp
    | succ n =>
      have hx:¬ x=c:=fun e=>h.2.2 0 (by omega) (by rw [e0];exact e)
      have hF:IsF l c n:=⟨by have:=h.1;simp at this;omega,h.2.1,fun i hi=>h.2.2 (i+1) (by omega)⟩
      have ih:=y7G hF;have hb:(x==c)=false:=by simpa using hx
      rw [hb,ih];simp only [Bool.false_eq_true,if_false];rw [if_neg (by simp)]
      omega
theorem hIx_F {b:List UInt8}{c:UInt8}{n:Nat}(h:IsF b c n):hIx b (ci c)=(n:Int):=by
  unfold hIx;rw [z2C];exact y7G h
theorem u1E {b:List UInt8}{c:UInt8}{l:Nat}(h:IsL b c l):y7K b (ci c)=(l:Int):=by
  have hb:∀ j,j<b.length->((b.toArray[j]!).toNat:Int)=ci (bt b j):=fun j hj=>by
    rw [x4K hj];unfold ci;rw [getElem!_pos b.toArray j (by simpa using hj)]
    simp
  have hs:(⟨b.toArray⟩:ByteArray).size=b.length:=by show b.toArray.size=_;simp
  unfold y7K;rcases Lib.lastIndexByte_spec ⟨b.toArray⟩ (ci c) with ⟨_,h2⟩ | ⟨i,h1,h2,h3,h4⟩
  . have:=h2 l (by rw [hs];exact h.1)
    rw [show (⟨b.toArray⟩:ByteArray).data=b.toArray from rfl,hb l h.1,h.2.1] at this
    exact absurd rfl this
  . rw [hs] at h1;rw [show (⟨b.toArray⟩:ByteArray).data=b.toArray from rfl,hb i h1] at h3
    rw [h2];have:IsL b c i:=⟨h1,ci_eq.1 h3,fun j h5 h6=>by
      have:=h4 j h5 (by rw [hs];exact h6)
      rw [show (⟨b.toArray⟩:ByteArray).data=b.toArray from rfl,hb j h6] at this
      exact fun e=>this (by rw [e])⟩
    rw [this.uniq h]
theorem IsL.ex {b:List UInt8}{c:UInt8}(h:c∈b):∃ l,IsL b c l:=by
  obtain ⟨i,hi,e⟩:=mem_bt.1 h;have:∀ n, ∀ i,b.length-i <= n->i<b.length->bt b i=c->∃ f,IsL b c f:=by
    intro n
    induction n with
    | zero=>intro i h;omega
    | succ n ih =>
      intro i h1 h2 h3
      by_cases hx:∃ j,i<j/\j<b.length/\bt b j=c
      . obtain ⟨j,h4,h5,h6⟩:=hx;exact ih j (by omega) h5 h6
      . exact ⟨i,h2,h3,fun j hj cG e=>hx ⟨j,hj,cG,e⟩⟩
  exact this b.length i (by omega) hi e
theorem y7L (b:List UInt8)(c:UInt8):hHas b [c]=b.elem c:=by
  have:=u1F b c
  unfold hIx at this;rw [z2C] at this;exact this
theorem u8Q (b:List UInt8)(c:UInt8):u5U b [c]=((b.count c:Nat):Int):=rfl
theorem rs_dr {c:UInt8}(h:drL.elem c=true):y5Z (ci c)=[c]:=by
  have:c=36\/c=83\/c=43\/c=45:=by simpa [drL] using h
  rcases this with rfl | rfl | rfl | rfl <;> decide
def FI (b:List UInt8)(f:Int):Prop:=(Dft b=0/\f=-1)\/(Dft b≠0/\∃ n:Nat,IsF b (Dft b) n/\f=(n:Int))
theorem v6T:∀ i,i<4->∀ j,j<i->bt drL j≠bt drL i:=by decide
theorem drL_at {c:UInt8}(h:drL.elem c=true):∃ i,i<4/\bt drL i=c:=by
  obtain ⟨i,hi,e⟩:=mem_bt.1 (elem_iff.1 h);exact ⟨i,hi,e⟩
theorem drL_bt {i:Nat}(h:i<4):drL.elem (bt drL i)=true:=elem_iff.2 (mem_bt.2 ⟨i,h,rfl⟩)
abbrev KD (R:Type):=List UInt8->Bool->Int->Int->Int->Bool->Int->Int->Bool->Int->Int->Option R
theorem y3R {n:Nat}{s:List UInt8}(h:s.length<n):hSz n s=true:=decide_eq_true h
theorem z3W {R:Type}(hl:b.length <= 1000)(hN:1100 <= N){k0 k3:KD R}{z:Option R}(p1:List UInt8)(p2 p3 p4 p7 p8:Int)(cr:Bool)
    (z0:∀ a b c d e f g h i j k,k0 a b c d e f g h i j k=z) :
    (DRok b->∃ f,FI b f/\iter N (x8B N b k0 k3) (0,p1,true,p2,p3,p4,false, 0, -1,cr,p7,p8)=k3 p1 true p2 p3 p4 false (ci (Dft b)) f cr p7 p8) /\
    (¬ DRok b->iter N (x8B N b k0 k3) (0,p1,true,p2,p3,p4,false, 0, -1,cr,p7,p8)=z):=by
  have one:∀ c,drL.elem c=true->2 <= b.count c->DRok b->Dft b=c/\DOK b c:=by
    intro c hc h2 hd;rcases hd with h | ⟨h,hk⟩
    . have:=z4X h hc;omega
    . have:Dft b=c := by
        apply Classical.byContradiction;intro ac
        have:=h c hc fun e=>ac e.symm
        omega
      rw [<- this];exact ⟨rfl,hk⟩
  refine x8M (n:= 4) (P:=Int×Int) (fun a i=>((i:Int),p1,true,p2,p3,p4,false,a.1,a.2,cr,p7,p8))
    (fun a i=>(a=(0, -1)/\∀ j,j<i->b.count (bt drL j)<2)\/∃ (c:UInt8) (n:Nat),a=(ci c,(n:Int))/\IsF b c n/\DOK b c/\drL.elem c=true/\2 <= b.count c/\(∃ j,j<i/\bt drL j=c)/\∀ j,j<i->bt drL j≠c->b.count (bt drL j)<2)
    (fun o=>(DRok b->∃ f,FI b f/\o=k3 p1 true p2 p3 p4 false (ci (Dft b)) f cr p7 p8)/\(¬ DRok b->o=z)) ?_ ?_ (0, -1) (.inl ⟨rfl,fun j h=>by omega⟩) (by omega)
  . intro again a h;unfold x8B;simp only [show decide (((4:Nat):Int)<ilen [36, 83, 43, 45])=false from rfl,cond_false]
    rcases h with ⟨rfl,h⟩ | ⟨c,n,rfl,h1,h2,h3,h4,h5,h6⟩
    . have hd:Dft b=0 := by
        refine u7L fun j hj=>?_;unfold isDr;cases hx:drL.elem (bt b j)
        . rfl
        . obtain ⟨i,hi,e⟩:=drL_at hx;rw [decide_eq_false (by rw [<- e];have:=h i hi;omega)];rfl
      exact ⟨fun _=>⟨-1, .inl ⟨hd,rfl⟩,by rw [hd];rfl⟩,fun h=>absurd (.inl hd) h⟩
    . have ho:∀ x, drL.elem x=true->x≠c->b.count x<2 := fun x hx ac => by
        obtain ⟨i,hi,rfl⟩:=drL_at hx;exact h6 i hi ac
      have hd:Dft b=c:=Dft_only (by unfold isDr;rw [h3,decide_eq_true h4];rfl) ho
      have h0:c≠0:=fun e=>by rw [e] at h3;revert h3;decide
      refine ⟨fun _=>⟨(n:Int), .inr ⟨by rw [hd];exact h0,n,by rw [hd];exact h1,rfl⟩,by rw [hd]⟩,fun h=>absurd (.inr ?_) h⟩
      rw [hd];exact ⟨ho,h2⟩
  . intro again a i h hi bm;have hc:=drL_bt hi;have hget:x1U [36, 83, 43, 45] (i:Int)=ci (bt drL i):=y4X (b:=drL) hi;unfold x8B;simp only [y2K (b:=[36, 83, 43, 45]) hi,x7W (b:=[36, 83, 43, 45]) hi,cond_true,x3N (i:=i) (by omega)]
    rw [hget,rs_dr hc,u8Q];generalize bu:bt drL i=c at hc hget;simp only [show hOne [c]=true from rfl,cond_true]
    by_cases h2:b.count c<2
    . rw [decide_eq_true (show ((b.count c:Nat):Int)<2 by omega),cond_true]
      refine bm a ?_;rcases h with ⟨e,h⟩ | ⟨c',n,e,h1,pB,h3,h4,⟨j,hj,cG⟩,h6⟩
      . refine .inl ⟨e,fun j hj=>?_⟩
        by_cases e:j=i
        . rw [e,bu];exact h2
        . exact h j (by omega)
      . refine .inr ⟨c',n,e,h1,pB,h3,h4,⟨j,by omega,cG⟩,fun k hk ac=>?_⟩
        by_cases e:k=i
        . rw [e,bu];exact h2
        . exact h6 k (by omega) ac
    rw [decide_eq_false (show ¬ ((b.count c:Nat):Int)<2 by omega),cond_false]
    rcases h with ⟨rfl,h⟩ | ⟨c',n,rfl,h1,pB,h3,h4,⟨j,hj,cG⟩,h6⟩
    . simp only [show decide ((0:Int)=0)=true from rfl,Bool.not_true,cond_false]
      rw [y3R (by omega),cond_true]
      have hm:c∈b:=List.count_pos_iff.1 (by omega)
      obtain ⟨f,hf⟩:=IsF.ex hm;obtain ⟨l,hL⟩:=IsL.ex hm;rw [hIx_F hf,u1E hL];have wM:=hf.1;have rF:=hL.1;have wI:f <= l:=by
        apply Classical.byContradiction;intro hn;exact hL.2.2 f (by omega) wM hf.2.1
      rw [decide_eq_true (show 0 <= ((f:Nat):Int)/\((f:Nat):Int) <= slen b by rw [x0Q];omega),cond_true,show hOne [86]=true from rfl,cond_true,y5V,y7L,x3N (i:=l) (by omega),decide_eq_true (show 0 <= ((f:Nat):Int)/\((f:Nat):Int) <= ((l+1:Nat):Int)/\((l+1:Nat):Int) <= slen b by rw [x0Q];omega),cond_true]
      cases hv:(b.take f).elem 86
      . rw [cond_false];have nov:∀ i,i<f->bt b i≠86:=fun i hi e=>by
          have:(86:UInt8)∈b.take f:=mem_bt.2 ⟨i,by simp;omega,by rw [u2V hi];exact e⟩
          rw [elem_iff.2 this] at hv;cases hv
        have br:ssub b ((f:Nat):Int) ((l+1:Nat):Int)=(b.drop f).take (l+1-f):=rfl;have eK:((b.drop f).take (l+1-f)).length=l+1-f:=by simp;omega
        refine x8M (n:=l+1-f) (P:=Unit) (fun _ j=>(j:Int)) (fun _ j=> ∀ k,k<j->bt b (f+k)=c\/insL.elem (bt b (f+k))=true)
          (fun o=>(DRok b->∃ f,FI b f/\o=k3 p1 true p2 p3 p4 false (ci (Dft b)) f cr p7 p8)/\(¬ DRok b->o=z)) ?_ ?_ () (fun k h=>by omega) (by omega)
        . intro again1 _ hk;unfold u3J;rw [hget,hIx_F hf,u1E hL,x3N (i:=l) (by omega),br]
          rw [decide_eq_false (show ¬ ((l+1-f:Nat):Int)<ilen (x0S ((b.drop f).take (l+1-f))) by rw [x9M,x1P,eK];omega),cond_false]
          simp only [x3N (i:=i) (by omega)]
          refine bm (ci c,(f:Int)) (.inr ⟨c,f,rfl,hf,⟨f,l,hf,hL,nov,fun k h1 h2=>?_⟩,hc,by omega,⟨i,by omega,bu⟩,fun k hk ac=>?_⟩)
          . have:=hk (k-f) (by omega)
            rw [show f+(k-f)=k by omega] at this
            exact this
          . by_cases e:k=i
            . rw [e,bu] at ac;exact absurd rfl ac
            . exact h k (by omega)
        . intro again1 _ j hk hj sy;unfold u3J;simp only [hget,hIx_F hf,u1E hL,x3N (i:=l) (by omega),br]
          have fW:j<((b.drop f).take (l+1-f)).length:=by rw [eK];exact hj
          rw [y2K (by rw [x1P];exact fW),cond_true,x7W (by rw [x1P];exact fW),cond_true,y4X fW,u2V hj,bt_drop,y1Q,show ([44, 46, 47, 66, 86]:List UInt8)=insL from rfl,z3G,x3N (i:=j) (by omega)]
          have go:(bt b (f+j)=c\/insL.elem (bt b (f+j))=true)->(DRok b->∃ f,FI b f/\again1 ((j+1:Nat):Int)=k3 p1 true p2 p3 p4 false (ci (Dft b)) f cr p7 p8)/\(¬ DRok b->again1 ((j+1:Nat):Int)=z):=fun h2=>sy () fun k fV=>by
            by_cases e:k=j
            . rw [e];exact h2
            . exact hk k (by omega)
          by_cases hx:bt b (f+j)=c
          . rw [decide_eq_true hx];exact go (.inl hx)
          . rw [decide_eq_false hx];cases hy:insL.elem (bt b (f+j))
            . simp only [Bool.not_false,cond_true];rw [z0 p1 true p2 p3 p4 false (ci c)];refine ⟨fun hd=>?_,fun _=>rfl⟩;obtain ⟨e,f',l',h4,h5,_,h7⟩:=one c hc (by omega) hd
              have e1:=h4.uniq hf;have e2:=h5.uniq hL;subst e1 e2;rcases h7 (f'+j) (by omega) (by omega) with h8 | h8
              . exact absurd h8 hx
              . rw [hy] at h8;cases h8
            . exact go (.inr hy)
      . rw [cond_true,z0 p1 true p2 p3 p4 false (ci c)];refine ⟨fun hd=>?_,fun _=>rfl⟩;obtain ⟨e,f',l',h4,_,h6,_⟩:=one c hc (by omega) hd
        have e1:=h4.uniq hf;subst e1;obtain ⟨k,hk,fV⟩:=mem_bt.1 (elem_iff.1 hv);have cT:k<f':=by simp at hk;omega
        rw [u2V cT] at fV;exact absurd fV (h6 k cT)
    . have h0:c'≠0:=fun e=>by rw [e] at h3;revert h3;decide
      simp only [y8B];rw [decide_eq_false h0,Bool.not_false,cond_true,z0];refine ⟨fun hd=>?_,fun _=>rfl⟩;have e1:=(one c hc (by omega) hd).1
      have e2:=(one c' h3 h4 hd).1;exact absurd (by rw [cG,bu, <- e1, <- e2]) (v6T i hi j hj)
variable {N:Nat} {s b:List UInt8}
theorem isD_no {b:List UInt8}{c:UInt8}(h:drL.elem c=false):isD b c=false:=by
  unfold isD
  by_cases e:c=Dft b
  . by_cases h0:Dft b=0
    . rw [h0];rfl
    . have:=z4Y h0
      unfold isDr at this;rw [<- e,h] at this;cases this
  . rw [decide_eq_false e,Bool.and_false]
theorem sn_iff {b:List UInt8}:∀ {i:Nat}, sn b i=true↔Dft b≠0/\∃ j,j<i/\bt b j=Dft b
  | 0=>⟨fun h=>(by cases h),fun ⟨_,j,h,_⟩=>(by omega)⟩
  | i+1=>by
    show (sn b i || isD b (bt b i))=true↔_
    rw [Bool.or_eq_true,sn_iff];unfold isD;rw [Bool.and_eq_true,decide_eq_true_eq,decide_eq_true_eq];constructor
    . rintro (⟨h0,j,hj,e⟩ | ⟨h0,e⟩)
      . exact ⟨h0,j,by omega,e⟩
      . exact ⟨h0,i,by omega,e⟩
    . rintro ⟨h0,j,hj,e⟩
      by_cases lB:j=i
      . subst lB;exact .inr ⟨h0,e⟩
      . exact .inl ⟨h0,j,by omega,e⟩
theorem RR2 (b:List UInt8)(i:Nat):decide (RR b i=2)=decide (bt b i=86):=by
  unfold RR rl
  by_cases h:bt b i=86
  . rw [h,isD_no rfl,Bool.false_and];rfl
  . rw [decide_eq_false h];cases firmL.elem (bt b i)
    . cases (zsL.elem (bt b i) || (isD b (bt b i)&&sn b i))
      . cases decide (bt b i=36)
        . cases sgL.elem (bt b i) <;> rfl
        . rfl
      . rfl
    . rfl
theorem c2_count (b:List UInt8):c2 b b.length=b.count 86:=by
  rw [x7G];exact y8A fun i _=>RR2 b i
theorem c2_elem {b:List UInt8}{i:Nat}(hi:i <= b.length)(h:b.count 86 <= 1):c2 b i=cond ((b.take i).elem 86) 1 0:=by
  have e:c2 b i=(b.take i).count 86:=by
    rw [<- v7E hi];exact y8A fun i _=>RR2 b i
  have l:(b.take i).count 86 <= b.count 86:=(List.take_sublist i b).count_le 86;rw [e];cases hx:(b.take i).elem 86
  . refine List.count_eq_zero.2 fun hm=>?_;rw [elem_iff.2 hm] at hx;cases hx
  . have:0<(b.take i).count 86:=List.count_pos_iff.2 (elem_iff.1 hx);rw [cond_true];omega
def scl2 (b:List UInt8):Nat->Nat
  | 0=> 0
  | i+1=>scl2 b i+cond (decide (RR b i=0) || decide (RR b i=1)) (c2 b i) 0
theorem v2G {b:List UInt8}(h:b.count 86 <= 1):∀ {i:Nat}, i <= b.length->scl2 b i=scl b i
  | 0,_=>rfl
  | i+1,hi=>by
    show scl2 b i+_=scl b i+_;rw [v2G h (by omega),c2_elem (by omega) h]
    cases (decide (RR b i=0) || decide (RR b i=1)) <;> rfl
theorem v2F {b:List UInt8}:∀ {i:Nat}, scl2 b i <= i*i
  | 0=>Nat.le_refl _
  | i+1=>by
    have h1:=v2F (b:=b) (i:=i);have h2:c2 b i <= i:=y1P _ i;show scl2 b i+_ <= _;have h3:(i+1)*(i+1)=i*i+2*i+1:=by rw [Nat.add_mul,Nat.mul_add];omega
    cases (decide (RR b i=0) || decide (RR b i=1)) <;> simp only [cond_true,cond_false] <;> omega
theorem v2N {R:Type}{f:Int}(hf:FI b f)(hz:∀ c,c∈b->c≠0){i:Nat}(hi:i<b.length)(p2:List UInt8)(p3:Bool)(p4 p5 p6:Int)(p7:Bool)(p10:Bool)(p11 p12:Int)(p13:List Int)(k0:Int->Option R) :
    z4V N (ci (bt b i)) (i:Int) p2 p3 p4 p5 p6 p7 (ci (Dft b)) f p10 p11 p12 p13 k0=k0 (RR b i):=by
  unfold z4V;rw [show ([57, 89, 84, 73, 82]:List UInt8)=firmL from rfl,u1F,y1Q,x8Y (bt b i) 90 (show (90:Int)=ci 90 from rfl),x8Y (bt b i) 42 (show (42:Int)=ci 42 from rfl),x8Y (bt b i) 86 (show (86:Int)=ci 86 from rfl),x8Y (bt b i) 36 (show (36:Int)=ci 36 from rfl),x8Y (bt b i) 83 (show (83:Int)=ci 83 from rfl),x8Y (bt b i) 43 (show (43:Int)=ci 43 from rfl),x8Y (bt b i) 45 (show (45:Int)=ci 45 from rfl)]
  have e1:cond (cond (decide (bt b i=90)) true (decide (bt b i=42))) true (cond (decide (bt b i=Dft b)) (!(decide ((i:Int)=f))) false)=(zsL.elem (bt b i) || (isD b (bt b i)&&sn b i)):=by
    have z:zsL.elem (bt b i)=cond (decide (bt b i=90)) true (decide (bt b i=42)):=by
      by_cases h1:bt b i=90
      . rw [h1];rfl
      . by_cases h2:bt b i=42
        . rw [h2];rfl
        . rw [decide_eq_false h1,decide_eq_false h2];cases h3:zsL.elem (bt b i)
          . rfl
          . have:bt b i=90\/bt b i=42:=by simpa [zsL] using h3
            rcases this with e | e
            . exact absurd e h1
            . exact absurd e h2
    have d:cond (decide (bt b i=Dft b)) (!(decide ((i:Int)=f))) false=(isD b (bt b i)&&sn b i):=by
      by_cases e:bt b i=Dft b
      . rw [decide_eq_true e,cond_true];have h0:Dft b≠0:=by rw [<- e];exact hz _ (mem_bt.2 ⟨i,hi,rfl⟩)
        have hd:isD b (bt b i)=true:=by unfold isD;rw [decide_eq_true h0,decide_eq_true e];rfl
        rw [hd,Bool.true_and];rcases hf with ⟨h,_⟩ | ⟨_,n,hn,rfl⟩
        . exact absurd h h0
        . by_cases dE:i=n
          . subst dE;rw [decide_eq_true rfl];cases hs:sn b i
            . rfl
            . obtain ⟨_,j,hj,cG⟩:=sn_iff.1 hs;exact absurd cG (hn.2.2 j hj)
          . rw [decide_eq_false (by omega)]
            have:n<i:=by
              apply Classical.byContradiction;intro jk;exact hn.2.2 i (by omega) e
            rw [sn_iff.2 ⟨h0,n,this,hn.2.1⟩];rfl
      . rw [decide_eq_false e];unfold isD;rw [decide_eq_false e,Bool.and_false];rfl
    rw [z,d];cases cond (decide (bt b i=90)) true (decide (bt b i=42)) <;> rfl
  have e2:cond (cond (decide (bt b i=83)) true (decide (bt b i=43))) true (decide (bt b i=45))=sgL.elem (bt b i):=by
    by_cases h1:bt b i=83
    . rw [h1];rfl
    . by_cases h2:bt b i=43
      . rw [h2];rfl
      . by_cases h3:bt b i=45
        . rw [h3];rfl
        . rw [decide_eq_false h1,decide_eq_false h2,decide_eq_false h3];cases h4:sgL.elem (bt b i)
          . rfl
          . have:bt b i=83\/bt b i=43\/bt b i=45:=by simpa [sgL] using h4
            rcases this with e | e | e
            . exact absurd e h1
            . exact absurd e h2
            . exact absurd e h3
  rw [e1,e2];unfold RR rl;cases firmL.elem (bt b i)
  . cases (zsL.elem (bt b i) || (isD b (bt b i)&&sn b i))
    . cases decide (bt b i=86)
      . cases decide (bt b i=36)
        . cases sgL.elem (bt b i) <;> rfl
        . rfl
      . rfl
    . rfl
  . rfl
def rrow (b:List UInt8)(i:Nat):List Int:=(List.range i).map (RR b)
theorem v2K (b:List UInt8)(i:Nat):rrow b (i+1)=rrow b i++[RR b i]:=by
  unfold rrow;rw [List.range_succ,List.map_append];rfl
theorem x5C (b:List UInt8)(i:Nat):(rrow b i).length=i:=by unfold rrow;simp
theorem z2N {b:List UInt8}{n i:Nat}(h:i<n):x1U (rrow b n) (i:Int)=RR b i:=by
  rw [z7F,List.getD_eq_getElem?_getD,List.getElem?_eq_getElem (by rw [x5C];exact h)]
  unfold rrow;simp
theorem c_lim (b:List UInt8)(i:Nat):c0 b i+c1 b i+c2 b i <= i:=by
  induction i with
  | zero=>exact Nat.le_refl _
  | succ i ih =>
    have e0:c0 b (i+1)=c0 b i+cond (decide (RR b i=0)) 1 0:=rfl;have e1:c1 b (i+1)=c1 b i+cond (decide (RR b i=1)) 1 0:=rfl;have e2:c2 b (i+1)=c2 b i+cond (decide (RR b i=2)) 1 0:=rfl;rw [e0,e1,e2];rcases x9X b i with h | h | h | h | h | h <;> rw [h] <;> simp <;> omega
abbrev KP0 (R:Type):=List UInt8->Bool->Int->Int->Int->Bool->Int->Int->Bool->Int->Int->List Int->Option R
abbrev KP1 (R:Type):=Bool->List UInt8->Bool->Int->Int->Int->Bool->Int->Int->Bool->Int->Int->List Int->Option R
theorem u0H {R:Type}(hl:b.length <= 1000)(hN:1100 <= N){f:Int}(hf:FI b f)(hz:∀ c,c∈b->c≠0){k0:KP0 R}{k1:KP1 R}{z:Option R}(p1:List UInt8)(p2 p6 p9:Bool)(p10:Int)
    (z0:∀ a b c d e f g h i j k l,k0 a b c d e f g h i j k l=z) (z1:∀ a b c d e f g h i j k l,k1 false a b c d e f g h i j k l=z) :
    iter N (z4S N b k0 k1) (0,false, 0,p1,p2, 0, 0, 0,p6,[],ci (Dft b),f,p9,p10, 0) =
      cond (y0A b&&decide (b.count 86 <= 1)) (k1 true p1 p2 ((b.length-b.count 86:Nat):Int) ((c0 b b.length+c1 b b.length:Nat):Int) ((scl b b.length:Nat):Int) p6 (ci (Dft b)) f p9 p10 ((c0 b b.length:Nat):Int) (rrow b b.length)) z:=by
  refine x8M (n:=b.length) (P:=Unit) (fun _ i=>(((c2 b i:Nat):Int),bh b i,(i:Int),p1,p2,((i-c2 b i:Nat):Int),((c0 b i+c1 b i:Nat):Int),((scl2 b i:Nat):Int),p6,rrow b i,ci (Dft b),f,p9,p10,((c0 b i:Nat):Int))) (fun _ i=>ko b i=true)
    (fun o=>o=cond (y0A b&&decide (b.count 86 <= 1)) (k1 true p1 p2 ((b.length-b.count 86:Nat):Int) ((c0 b b.length+c1 b b.length:Nat):Int) ((scl b b.length:Nat):Int) p6 (ci (Dft b)) f p9 p10 ((c0 b b.length:Nat):Int) (rrow b b.length)) z) ?_ ?_ () rfl (by omega)
  . intro again _ hk;unfold z4S;simp only;have nl:decide (((b.length:Nat):Int)<ilen (x0S b))=false:=by
      have:=z2X (x0S b)
      rw [x1P] at this;exact this
    rw [nl,cond_false,c2_count];have e1:decide ((1:Int) <= ((c0 b b.length+c1 b b.length:Nat):Int))=decide (1 <= c0 b b.length+c1 b b.length):=decide_eq_decide.2 (by omega)
    have e2:decide (((c0 b b.length+c1 b b.length:Nat):Int) <= 9)=decide (c0 b b.length+c1 b b.length <= 9):=decide_eq_decide.2 (by omega)
    have e3:decide (((b.count 86:Nat):Int) <= 1)=decide (b.count 86 <= 1):=decide_eq_decide.2 (by omega)
    have e4:decide ((0:Int)<((c0 b b.length:Nat):Int))=decide (0<c0 b b.length):=decide_eq_decide.2 (by omega)
    rw [e1,e2,e3,e4];unfold y0A;rw [hk]
    by_cases hp:b.count 86 <= 1
    . rw [decide_eq_true hp,v2G hp (Nat.le_refl _)];cases decide (1 <= c0 b b.length+c1 b b.length) <;> cases decide (c0 b b.length+c1 b b.length <= 9) <;> cases bh b b.length <;> cases decide (0<c0 b b.length) <;> first | rfl | exact z1 _ _ _ _ _ _ _ _ _ _ _ _
    . rw [decide_eq_false hp,Bool.and_false];exact z1 _ _ _ _ _ _ _ _ _ _ _ _
  . intro again _ i hk hi bm;have wg:=c_lim b i;have aW:=v2F (b:=b) (i:=i);have yN:i*i <= 1000*1000:=Nat.mul_le_mul (by omega) (by omega)
    have e0:c0 b (i+1)=c0 b i+cond (decide (RR b i=0)) 1 0:=rfl;have e1:c1 b (i+1)=c1 b i+cond (decide (RR b i=1)) 1 0:=rfl;have e2:c2 b (i+1)=c2 b i+cond (decide (RR b i=2)) 1 0:=rfl;have es:scl2 b (i+1)=scl2 b i+cond (decide (RR b i=0) || decide (RR b i=1)) (c2 b i) 0:=rfl
    have ek:ko b (i+1)=(ko b i&&!(decide (RR b i=1)&&decide (0<c0 b i))):=rfl;have eb:bh b (i+1)=(bh b i || (decide (RR b i=1)&&decide (0<c2 b i))):=rfl
    have hg:=bm ();rw [e0,e1,e2,es,ek,eb,hk,v2K] at hg;unfold z4S;simp only;rw [y2K (b:=x0S b) (by rw [x1P];exact hi),cond_true,x7W (b:=x0S b) (by rw [x1P];exact hi),cond_true,y4X hi,v2N hf hz hi]
    have w0:IntKind.wrap .i64 (((c2 b i:Nat):Int)+1)=((c2 b i+1:Nat):Int):=x3N (by omega)
    have w1:IntKind.wrap .i64 ((i:Int)+1)=((i+1:Nat):Int):=x3N (by omega)
    have w2:IntKind.wrap .i64 (((i-c2 b i:Nat):Int)+1)=((i+1-c2 b i:Nat):Int):=by rw [x3N (by omega)];congr 1;omega
    have w3:IntKind.wrap .i64 (((c0 b i+c1 b i:Nat):Int)+1)=((c0 b i+c1 b i+1:Nat):Int):=x3N (by omega)
    have w4:IntKind.wrap .i64 (((scl2 b i:Nat):Int)+((c2 b i:Nat):Int))=((scl2 b i+c2 b i:Nat):Int):=by rw [w64 (by omega) (by omega)];omega
    have w5:IntKind.wrap .i64 (((c0 b i:Nat):Int)+1)=((c0 b i+1:Nat):Int):=x3N (by omega)
    have d1:decide ((0:Int)<((c0 b i:Nat):Int))=decide (0<c0 b i):=decide_eq_decide.2 (by omega)
    have d2:decide ((0:Int)<((c2 b i:Nat):Int))=decide (0<c2 b i):=decide_eq_decide.2 (by omega)
    rw [z4L (show (rrow b i).length<137438953472 by rw [x5C];omega),cond_true,w0,w1,w2,w3,w4,w5,d1,d2]
    rcases x9X b i with h | h | h | h | h | h
    . rw [h] at hg |-
      have:=hg rfl
      simp only [decide_true,decide_false,Int.reduceEq,cond_true,cond_false,Nat.add_zero,Bool.false_and,Bool.or_false,Bool.true_or] at this |-
      rw [show c0 b i+1+c1 b i=c0 b i+c1 b i+1 by omega] at this
      exact this
    . rw [h] at hg |-
      cases mN:decide (0<c0 b i)
      . rw [mN] at hg
        have:=hg rfl
        simp only [decide_true,decide_false,Int.reduceEq,cond_true,cond_false,Nat.add_zero,Bool.true_and,Bool.or_true] at this |-
        rw [show c0 b i+(c1 b i+1)=c0 b i+c1 b i+1 by omega] at this
        have eo:(bh b i || decide (0<c2 b i))=cond (bh b i) true (decide (0<c2 b i)):=by cases bh b i <;> rfl
        rw [eo] at this;exact this
      . have:y0A b=false := by
          unfold y0A;rw [ko_le (i:=i+1) (by omega) (by rw [ek,h,mN,hk];rfl)];rfl
        rw [this];simp only [decide_true,decide_false,Int.reduceEq,cond_true,cond_false,Bool.false_and];exact z0 _ _ _ _ _ _ _ _ _ _ _ _
    . rw [h] at hg |-
      have:=hg rfl
      simp only [decide_true,decide_false,Int.reduceEq,cond_true,cond_false,Nat.add_zero,Bool.false_and,Bool.or_false] at this |-
      rw [show i+1-(c2 b i+1)=i-c2 b i by omega] at this
      exact this
    . rw [h] at hg |-
      have:=hg rfl
      simp only [decide_true,decide_false,Int.reduceEq,cond_true,cond_false,Nat.add_zero,Bool.false_and,Bool.or_false] at this |-
      exact this
    . rw [h] at hg |-
      have:=hg rfl
      simp only [decide_true,decide_false,Int.reduceEq,cond_true,cond_false,Nat.add_zero,Bool.false_and,Bool.or_false] at this |-
      exact this
    . rw [h] at hg |-
      have:=hg rfl
      simp only [decide_true,decide_false,Int.reduceEq,cond_true,cond_false,Nat.add_zero,Bool.false_and,Bool.or_false] at this |-
      exact this
end Go.Yec
