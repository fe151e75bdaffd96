/-
  THE PURE EXECUTOR IS SOUND: code, functions.;YSeat;fixed.tens: the table of powers, by one closed run.;digits[uint8] at eight digits, by 256 closed runs.;bytesOf: the bits of bytes, written by a strings.Builder.;FUNCTIONS OF THE LIBRARY WHOSE LAWS THE SHELF GIVES: as a vU of the executor, as entries of the pure executor's table.
-/
import Derived.Test.YtadehgdfijjikaaGreatDoorY9
import Derived.KernelRfl
import Derived.Test.YtadehgdfijjikaaGreatDoorChecked
import Derived.Test.YtadehgdfijjikaaGreatDoorY1
import Derived.Below
import Derived.Test.YtadehgdfijjikaaGreatDoorX7
import Derived.Test.YtadehgdfijjikaaGreatDoorY2
import Derived.Shelf.Strings.BuilderF
import Derived.WalkKit
import Derived.Deep.LoopGhost
import Derived.Deep.DeepFit
import Derived.Shelf.Small.Strs
import Derived.Shelf.Strings.Count
import Derived.Shelf.Strings.Search3
import Derived.Shelf.Strings.Prefix
import Derived.Shelf.Strings.LastIndex
import Derived.Shelf.Strings.IndexAnyAll
import Derived.Shelf.Strings.SlTrimAscii
import Derived.Shelf.Strings.Repeat
import Derived.Shelf.Strconv.Atoi
import Derived.Lib.AtoiErrMem
set_option linter.all false
namespace Go.Yec
open Go Go.Xec
variable [GT]
section
variable {D:Type} {V:D->List (PV D)} {P:Program} {hk:Hook} {X:Nat->Prop} {R:Type} {tbl:Tbl D} {sz:Nat}
def CRun (P:Program)(hk:Hook)(fn:FuncId)(sz:Nat)(c:Code)(T:Tm)(H:Hp)(n:Nat)(e:Ex)(T':Tm)(H':Hp)(n':Nat):Prop:= ∃ k0, ∀ k,k0 <= k->run P hk k (.code none fn sz c T) H n = .ok e T' H' n'
theorem CRun.of {fn:FuncId}{c:Code}{T T':Tm}{H H':Hp}{n n':Nat}{e:Ex}{k0:Nat}(h:∀ k,k0 <= k->y5D P (run P hk k) none fn sz T H n c = .ok e T' H' n'):CRun P hk fn sz c T H n e T' H' n' :=
  ⟨k0+1,fun k bG=>by
    obtain ⟨j,rfl⟩:∃ j,k=j+1:=⟨k-1,by omega⟩
    exact h j (by omega)⟩
def CodeOk (P:Program)(hk:Hook)(V:D->List (PV D))(X:Nat->Prop)(fn:FuncId)(sz:Nat)(c:Code)(asg:List Nat)(μ:Mu)(st:Y D)(T:Tm)(H:Hp)(n:Nat)(e:Ex)(st':Y D):Prop :=
  ∃ T' H' n',CRun P hk fn sz c T H n e T' H' n'/\x6A st'.T/\(∃ μ',SR V X μ' st' T' H' n'/\Gr μ st.B st.m H n μ' st'.B st'.m H' n')/\∀ t,t∉asg->pget st'.T t=pget st.T t
theorem y6Q {T:Tt D}(h:x6A T):RegI T []:=⟨fun t C g v e=>absurd e (h t C g v),fun C t hm=>(by cases hm),fun C t hm=>(by cases hm)⟩
theorem v4T {P:Program}{sz:Nat}{all:List Oper}:∀ {rest:List Oper} {Cs:List Ch} {acc:List Ch} {l:List YO} {Cr:List Ch}, Cs=acc++Cr->x5V all rest acc=some Cs->v7A P sz rest Cr=some l->Made P sz all rest l
  | [],Cs,acc,l,Cr,e,h1,h2=>by
    cases h1;have:Cr=[]:=by
      have:=congrArg List.length e
      simp at this;exact this
    subst this;cases h2;exact .nil
  | o::rest,Cs,acc,l,Cr,e,h1,h2=>by
    have h1:((chOf all acc o.guard).bind fun C=>x5V all rest (acc++[C]))=some Cs:=h1;obtain ⟨C,h3,h4⟩:=x0A h1;cases Cr with
    | nil=>cases h2
    | cons C' Cr =>
      have h2:((Yec.compI P sz C' o).bind fun y=>(v7A P sz rest Cr).map fun r=>y::r)=some l:=h2;obtain ⟨yo,h5,h6⟩:=x0A h2;obtain ⟨r,h7,rfl⟩:=x0C h6;have pre:∀ {rest:List Oper} {acc Cs:List Ch}, x5V all rest acc=some Cs->∃ Cr,Cs=acc++Cr:=by
        intro rest
        induction rest with
        | nil=>intro acc Cs h;cases h;exact ⟨[],by simp⟩
        | cons o rest ih =>
          intro acc Cs h;have h:((chOf all acc o.guard).bind fun C=>x5V all rest (acc++[C]))=some Cs:=h;obtain ⟨C,_,h4⟩:=x0A h;obtain ⟨Cr,e⟩:=ih h4;exact ⟨C::Cr,by rw [e];simp⟩
      obtain ⟨Cr2,e2⟩:=pre h4;have ec:C'=C/\Cr=Cr2:=by
        rw [e2] at e;have:acc++([C]++Cr2)=acc++(C'::Cr):=by rw [<- List.append_assoc];exact e
        have:=List.append_cancel_left this
        simp at this;exact ⟨this.1.symm,this.2.symm⟩
      obtain ⟨rfl,rfl⟩:=ec;unfold Yec.compI at h5;obtain ⟨h8,h9⟩:=x0B h5;obtain ⟨y,aH,rfl⟩:=x0C h9;exact .cons o C' y rest r aH h8 (z1S h3) (v4T e2 h4 h7)
theorem y3S (o:YO)(l:List YO):x2B (o::l)=(match o.C,o.dst with | _::_,some d=>d::x2B l | _,_=>x2B l):=rfl
theorem v6U:∀ {l:List YO} {dn:Dn} {C:Ch} {t:Nat}, (C,t)∈dnL l dn->C≠[]->(C,t)∈dn\/t∈x2B l
  | [],dn,C,t,h,_=> .inl h
  | o::l,dn,C,t,h,ac=>by
    have h:(C,t)∈dnL l (x7Y o.dst o.C dn):=h;have lift:t∈x2B l->t∈x2B (o::l):=fun hm=>by
      rw [y3S];split
      . exact List.mem_cons_of_mem _ hm
      . exact hm
    rcases v6U h ac with h1 | h1
    . unfold x7Y at h1;split at h1
      . rename_i d hd;rcases List.mem_cons.1 h1 with e | h1
        . cases e;right;rw [y3S,hd];cases hC:o.C with
          | nil=>exact absurd hC ac
          | cons p C'=>exact List.mem_cons_self
        . exact .inl h1
      . exact .inl h1
    . exact .inr (lift h1)
theorem clr_ok {μ:Mu}{st:Y D}{T:Tm}{H:Hp}{n:Nat}{l:List YO}(hS:SR V X μ st T H n)(hI:RegI st.T (dnL l [])):SR V X μ ⟨clrT st.T (x2B l),st.B,st.m⟩ T H n/\x6A (clrT st.T (x2B l)):=by
  refine ⟨⟨hS.hr,fun t=>?_⟩,fun t C g v h=>?_⟩
  . show Rep V μ H _ (pget (clrT st.T (x2B l)) t) _;rw [x6L];split
    . exact .undef _
    . exact hS.tr t
  . rw [x6L] at h;split at h
    . cases h
    . rename_i hn;obtain ⟨h1,_,h2⟩:=hI.opt t C g v h;rcases v6U h1 h2 with h3 | h3
      . cases h3
      . exact hn h3
theorem ops_ok (hT:y1V P hk V tbl){fn:FuncId}{id:Nat}{ops:Array Oper}{l:List YO}{Cs:List Ch}(h1:x5V ops.toList ops.toList []=some Cs)(h2:v7A P sz ops.toList Cs=some l)(h3:x6G l []=true){μ:Mu}{st:Y D}{T:Tm}{H:Hp}{n:Nat}(aI:x6A st.T)(hS:SR V X μ st T H n)
    {K:Y D->Option R} {r:R} (h:v6F tbl l st K=some r):∃ st',CodeOk P hk V X fn sz (.region id ops false) (y7U l++x2B l) μ st T H n .normal ⟨clrT st'.T (x2B l),st'.B,st'.m⟩/\K st'=some r:=by
  obtain ⟨st',T',H',n',⟨k0,q1⟩,q2,q3⟩:=u6A (sz:=sz) (all:=ops.toList) hT (v4T (acc:=[]) rfl h1 h2) hS (y6Q aI) h3 h;obtain ⟨μ',q4,q5⟩:=q2.ex;obtain ⟨c1,c2⟩:=clr_ok (l:=l) q4 q2.reg;refine ⟨st',⟨T',H',n',CRun.of (k0:=k0) fun k bG=>q1 k bG,c2,⟨μ',c1,q5⟩,fun t ht=>?_⟩,q3⟩;simp only [List.mem_append,not_or] at ht;show pget (clrT st'.T (x2B l)) t=_;rw [x6L,if_neg ht.2,q2.oth t ht.1]
theorem u5J {P:Program}{sz:Nat}{all:List Oper}{Cs:List Ch}(uR:x5V all all []=some Cs){Lall:List PI}(pl:Plan P sz all Lall):∀ {L:List PI} {l:List YD}, (∀ x,x∈L->x∈Lall)->v7B P sz all Cs L=some l->MadeD P sz all L l
  | [],l,_,h=>by cases h;exact .nil
  | x::L,l,hs,h=>by
    have h:((lget all x.i).bind fun o=>(lget Cs x.i).bind fun C=>(Yec.compI P sz C o).bind fun y=>(v7B P sz all Cs L).map fun r=>(⟨x.i,x.D,dkOf x.kd,y⟩:YD)::r)=some l:=h;obtain ⟨o,h1,h2⟩:=x0A h;obtain ⟨C,h3,h4⟩:=x0A h2;obtain ⟨yo,h5,h6⟩:=x0A h4;obtain ⟨r,h7,rfl⟩:=x0C h6;unfold Yec.compI at h5;obtain ⟨h8,h9⟩:=x0B h5;obtain ⟨y,aH,rfl⟩:=x0C h9;obtain ⟨p,hp⟩:=List.getElem?_of_mem (hs x (by simp))
    obtain ⟨o',g1,g2,g3⟩:=pl.item p x hp;rw [lget_eq] at h1;rw [h1] at g1;cases g1;have hG:y4A all o C:=by
      have key:∀ {rest:List Oper} {acc Cs:List Ch}, x5V all rest acc=some Cs->∀ k o,rest[k]? = some o->∃ pre C,pre.length=acc.length+k/\Cs[acc.length+k]? = some C/\chOf all pre o.guard=some C:=by
        intro rest
        induction rest with
        | nil=>intro acc Cs h k o hk;simp at hk
        | cons a rest ih =>
          intro acc Cs h k o hk;have h:((chOf all acc a.guard).bind fun C=>x5V all rest (acc++[C]))=some Cs:=h;obtain ⟨C,e1,e2⟩:=x0A h;cases k with
          | zero =>
            simp at hk;subst hk;have pre:∀ {rest:List Oper} {acc Cs:List Ch}, x5V all rest acc=some Cs->∃ Cr,Cs=acc++Cr:=by
              intro rest
              induction rest with
              | nil=>intro acc Cs h;cases h;exact ⟨[],by simp⟩
              | cons o rest ih =>
                intro acc Cs h;have h:((chOf all acc o.guard).bind fun C=>x5V all rest (acc++[C]))=some Cs:=h;obtain ⟨C,_,h4⟩:=x0A h;obtain ⟨Cr,e⟩:=ih h4;exact ⟨C::Cr,by rw [e];simp⟩
            obtain ⟨Cr,e3⟩:=pre e2;exact ⟨acc,C,rfl,by rw [e3];simp,e1⟩
          | succ k =>
            obtain ⟨pre,C2,e3,e4,e5⟩:=ih e2 k o (by simpa using hk)
            refine ⟨pre,C2,by rw [e3];simp;omega, ?_,e5⟩
            rw [<- e4];congr 1;simp;omega
      obtain ⟨pre,C2,_,e4,e5⟩:=key uR x.i o h1;rw [lget_eq] at h3;have:C2=C:=by
        simp at e4;rw [h3] at e4;cases e4;rfl
      subst this;exact z1S e5
    exact .cons x o C y L r aH h8 hG g3 g2 (u5J uR pl (fun z hz=>hs z (by simp [hz])) h7)
theorem drawL_cons (x:YD)(l:List YD)(st:Y D)(W:Ws)(mk:Nat)(K:Y D->Option R):Yec.drawL tbl (x::l) st W mk K=drawO tbl x st W mk fun st W mk=>Yec.drawL tbl l st W mk K:=rfl
theorem v1A (x:YD)(l:List YD):ysOf (x::l)=x.o::ysOf l:=rfl
theorem u6L (hT:y1V P hk V tbl){all:List Oper}:∀ {L:List PI} {l:List YD}, MadeD P sz all L l->∀ {μ:Mu} {st:Y D} {W:Ws} {mk:Nat} {dn:Dn} {E A:Nat} {s:DS} {K:Y D->Option R} {r:R}, DR P V X μ st W mk dn E A s->x6G (ysOf l) dn=true->okEA l E A=true->Yec.drawL tbl l st W mk K=some r ->
    ∃ st' T' H' n',(∃ k0, ∀ k,k0 <= k->Xec.drawL (run P hk k) L s = .ok .normal T' H' n')/\RunOk P hk V X μ st s.H s.n st' T' H' n' (dnL (ysOf l) dn) (y7U (ysOf l))/\K st'=some r
  | _,_, .nil, μ, st,W,mk,dn,E,A,s,K,r,hd,_,_,h=>⟨st,s.T,s.H,s.n,⟨0,fun _ _=>rfl⟩,⟨⟨μ, hd.sr,Gr.refl _ _ _ _ _⟩,hd.reg,fun _ _=>rfl⟩,h⟩
  | _,_, .cons x o C y L l h1 h2 h3 h4 h5 ht, μ, st,W,mk,dn,E,A,s,K,r,hd,aC,wP,h=>by
    rw [drawL_cons] at h;rw [v1A] at aC |-
    obtain ⟨s1,s2,s3⟩:=y6N aC;obtain ⟨e1,e2,e3⟩:=v3F wP;obtain ⟨st1,W1,mk1,⟨μ1,d1,⟨k1,q1⟩,q2,q3,q4⟩,q5⟩:=drawO_ok hT h1 h2 h3 h4 h5 hd s1 s2 e1 e2 h;obtain ⟨st',T',H',n',⟨k2,r1⟩,r2,r3⟩:=u6L hT ht q2 s3 e3 q5;obtain ⟨μ',u1,u2⟩:=r2.ex;refine ⟨st',T',H',n',⟨max k1 k2,fun k bG=>?_⟩,⟨⟨μ',u1,q3.trans u2⟩,r2.reg,fun t iI=>?_⟩,r3⟩
    . show (match x2U (run P hk k) x s with | some s=>Xec.drawL (run P hk k) L s | none=> .bad)=_
      rw [q1 k (by omega)]
      exact r1 k (by omega)
    . obtain ⟨e1,e2⟩:=u6F iI;rw [r2.oth t e2,q4 t e1]
theorem draws_ok (hT:y1V P hk V tbl){fn:FuncId}{id:Nat}{ops:Array Oper}{l:List YD}{Cs:List Ch}{L:List PI}(h1:x5V ops.toList ops.toList []=some Cs)(hL:y1B P sz ops.toList=some L)(h2:v7B P sz ops.toList Cs L=some l)(h3:x6G (ysOf l) []=true)(h4:okEA l 0 0=true){μ:Mu}{st:Y D}{T:Tm}{H:Hp}{n:Nat}(aI:x6A st.T)(hS:SR V X μ st T H n)
    {K:Y D->Option R} {r:R} (h:Yec.drawL tbl l st [] st.m K=some r):∃ st',CodeOk P hk V X fn sz (.region id ops true) (y7U (ysOf l)++x2B (ysOf l)) μ st T H n .normal ⟨clrT st'.T (x2B (ysOf l)),st'.B,st'.m⟩/\K st'=some r:=by
  have hd:DR P V X μ st [] st.m [] 0 0 ⟨T,H,n,H, 0, 0,[]⟩:=⟨hS,y6Q aI,fun _ _ _ _ _=>rfl,Nat.le_refl _,rfl,sub_refl 0, .nil⟩;obtain ⟨st',T',H',n',⟨k0,q1⟩,q2,q3⟩:=u6L (sz:=sz) hT (u5J h1 (z0L hL) (fun _ h=>h) h2) hd h3 h4 h;obtain ⟨μ',q4,q5⟩:=q2.ex;obtain ⟨c1,c2⟩:=clr_ok (l:=ysOf l) q4 q2.reg;refine ⟨st',⟨T',H',n',CRun.of (k0:=k0) fun k bG=>?_,c2,⟨μ',c1,q5⟩,fun t ht=>?_⟩,q3⟩
  . show u0A (run P hk k) T H n (y1B P sz ops.toList)=_;rw [hL];exact q1 k bG
  . simp only [List.mem_append,not_or] at ht;show pget (clrT st'.T (x2B (ysOf l))) t=_;rw [x6L,if_neg ht.2,q2.oth t ht.1]
theorem CodeOk.mono {fn:FuncId}{c:Code}{a a':List Nat}{μ:Mu}{st st':Y D}{T:Tm}{H:Hp}{n:Nat}{e:Ex}(h:CodeOk P hk V X fn sz c a μ st T H n e st')(hs:∀ t,t∈a->t∈a'):CodeOk P hk V X fn sz c a' μ st T H n e st':=by
  obtain ⟨T',H',n',h1,h2,h3,h4⟩:=h;exact ⟨T',H',n',h1,h2,h3,fun t ht=>h4 t fun hm=>ht (hs t hm)⟩
theorem v4W {fn:FuncId}{b:Code}{yb:YC}{h:Hint}{N0:Nat}{μ:Mu}{st:Y D}{T:Tm}{H:Hp}{n:Nat}(aI:x6A st.T)(uH:SR V X μ st T H n){k:Ex->Y D->Option R}{r:R}
    (ih:∀ (μ:Mu) (st:Y D) (T:Tm) (H:Hp) (n:Nat) (k:Ex->Y D->Option R) (r:R),x6A st.T->SR V X μ st T H n->sem tbl N0 yb st k=some r->∃ e st',CodeOk P hk V X fn sz b (x6C yb) μ st T H n e st'/\k e st'=some r) :
    ∀ (N:Nat) (μ1:Mu) (st1:Y D) (T1:Tm) (H1:Hp) (n1:Nat),SR V X μ1 st1 T1 H1 n1->Gr μ st.B st.m H n μ1 st1.B st1.m H1 n1->(∀ t,t∉x5F h++x6C yb->pget st1.T t=pget st.T t) ->
      u7F h st.m (x4D h (x5F h++x6C yb) st) (fun x=>iter N (fun again x=>sem tbl N0 yb (injL h x (x4D h (x5F h++x6C yb) st)) (z5U h st.m (x4D h (x5F h++x6C yb) st) k again)) x) st1=some r ->
      ∃ e st' T' H' n',CRun P hk fn sz (.loop b) T1 H1 n1 e T' H' n'/\x6A st'.T/\(∃ μ',SR V X μ' st' T' H' n'/\Gr μ st.B st.m H n μ' st'.B st'.m H' n')/\(∀ t,t∉x5F h++x6C yb->pget st'.T t=pget st.T t)/\k e st'=some r
  | 0, μ1,st1,T1,H1,n1,_,_,_,h0=>by
    obtain ⟨_,h2⟩:=x0B h0;split at h2
    . cases h2
    . cases h2
  | N+1, μ1,st1,T1,H1,n1,xF,lG,gu,h0=>by
    obtain ⟨hc,h2⟩:=x0B h0;obtain ⟨c1,lN⟩:=x0D hc;obtain ⟨c2,pW⟩:=x0D lN;obtain ⟨c3,c4⟩:=x0D pW;have ls:LS V X h (x5F h++x6C yb) μ st T H n μ1 st1 T1 H1 n1:=⟨uH,xF,lG,gu,c1,c2,c3,c4⟩;split at h2
    . rename_i x hx;obtain ⟨μ2,q1,q2,q3,q4⟩:=ls.head aI hx;have h2:sem tbl N0 yb (injL h x (x4D h (x5F h++x6C yb) st)) (z5U h st.m (x4D h (x5F h++x6C yb) st) k (fun x=>iter N (fun again x=>sem tbl N0 yb (injL h x (x4D h (x5F h++x6C yb) st)) (z5U h st.m (x4D h (x5F h++x6C yb) st) k again)) x))=some r:=h2;obtain ⟨e,st2,⟨T2,H2,n2,⟨k1,r1⟩,r2,⟨μ3,r3,r4⟩,r5⟩,r6⟩:=ih μ2 _ T1 H1 n1 _ r q3 q1 h2;have fin:e ≠ .normal->k e st2=some r->∃ e st' T' H' n',CRun P hk fn sz (.loop b) T1 H1 n1 e T' H' n'/\x6A st'.T/\(∃ μ',SR V X μ' st' T' H' n'/\Gr μ st.B st.m H n μ' st'.B st'.m H' n')/\(∀ t,t∉x5F h++x6C yb->pget st'.T t=pget st.T t)/\k e st'=some r:=fun ac bG=>by
        refine ⟨e,st2,T2,H2,n2,CRun.of (k0:=k1) fun j hj=>?_,r2,⟨μ3,r3,q2.trans r4⟩,fun t ht=>?_,bG⟩
        . show seqK (run P hk j) none fn sz (.loop b) (run P hk j (.code none fn sz b T1) H1 n1)=_;rw [r1 j hj];cases e <;> first | exact absurd rfl ac | rfl
        . have iI:=ht;simp only [List.mem_append,not_or] at ht;rw [r5 t ht.2,q4 t ht.1 iI]
      cases e with
      | normal =>
        have r6:u7F h st.m (x4D h (x5F h++x6C yb) st) (fun x=>iter N (fun again x=>sem tbl N0 yb (injL h x (x4D h (x5F h++x6C yb) st)) (z5U h st.m (x4D h (x5F h++x6C yb) st) k again)) x) st2=some r:=r6;obtain ⟨e,st',T',H',n',⟨k2,u1⟩,u2,u3,u4,u5⟩:=v4W aI uH ih N μ3 st2 T2 H2 n2 r3 (q2.trans r4) (fun t ht=>by
          have iI:=ht;simp only [List.mem_append,not_or] at ht;rw [r5 t ht.2,q4 t ht.1 iI]) r6
        refine ⟨e,st',T',H',n',CRun.of (k0:=max k1 k2) fun j hj=>?_,u2,u3,u4,u5⟩;show seqK (run P hk j) none fn sz (.loop b) (run P hk j (.code none fn sz b T1) H1 n1)=_;rw [r1 j (by omega)]
        exact u1 j (by omega)
      | exit i=>exact fin (by simp) r6
      | ret=>exact fin (by simp) r6
      | goto l=>exact fin (by simp) r6
    . cases h2
theorem sem_ok (hT:y1V P hk V tbl)(N:Nat)(fn:FuncId):∀ (c:Code) (hs bn:List Hint) (yc:YC),z8N P sz c hs=some (yc,bn)->∀ (μ:Mu) (st:Y D) (T:Tm) (H:Hp) (n:Nat) (k:Ex->Y D->Option R) (r:R),x6A st.T->SR V X μ st T H n->sem tbl N yc st k=some r ->
    ∃ e st',CodeOk P hk V X fn sz c (x6C yc) μ st T H n e st'/\k e st'=some r:=by
  intro c;have stay:∀ (c:Code) (e:Ex) (a:List Nat) (μ:Mu) (st:Y D) (T:Tm) (H:Hp) (n:Nat),(∀ self,y5D P self none fn sz T H n c = .ok e T H n)->x6A st.T->SR V X μ st T H n->CodeOk P hk V X fn sz c a μ st T H n e st:=fun c e a μ st T H n h aI hS =>
    ⟨T,H,n,CRun.of (k0:= 0) fun k _=>h _,aI,⟨μ, hS,Gr.refl _ _ _ _ _⟩,fun _ _=>rfl⟩
  induction c with
  | skip=>intro hs bn yc hc μ st T H n k r aI hS h;cases hc;exact ⟨.normal,st,stay _ _ _ _ _ _ _ _ (fun _=>rfl) aI hS,h⟩
  | exit id=>intro hs bn yc hc μ st T H n k r aI hS h;cases hc;exact ⟨.exit id,st,stay _ _ _ _ _ _ _ _ (fun _=>rfl) aI hS,h⟩
  | ret=>intro hs bn yc hc μ st T H n k r aI hS h;cases hc;exact ⟨.ret,st,stay _ _ _ _ _ _ _ _ (fun _=>rfl) aI hS,h⟩
  | scope b ih=>intro hs bn yc hc;cases hc
  | label l=>intro hs bn yc hc;cases hc
  | goto l=>intro hs bn yc hc;cases hc
  | refuse w=>intro hs bn yc hc;cases hc
  | rangeFunc f ps a b i1 i2=>intro hs bn yc hc;cases hc
  | region id ops d =>
    intro hs bn yc hc μ st T H n k r aI hS h;have hc:(compR P sz ops.toList d).map (fun y=>(y,hs))=some (yc,bn):=hc;obtain ⟨y,h1,h2⟩:=x0C hc;cases h2;cases d with
    | false =>
      obtain ⟨Cs,h3,h4⟩:=x0A (show (x5V ops.toList ops.toList []).bind (fun Cs=>(v7A P sz ops.toList Cs).bind fun l=>cond (x6G l []) (some (.ops l (x2B l))) none)=some yc from h1)
      obtain ⟨l,h5,h6⟩:=x0A h4;obtain ⟨h7,h8⟩:=x0B h6;cases h8;obtain ⟨st',q1,q2⟩:=ops_ok (fn:=fn) (id:=id) hT h3 h5 h7 aI hS (K:=fun st=>k .normal ⟨clrT st.T (x2B l),st.B,st.m⟩) h;exact ⟨.normal,_,q1,q2⟩
    | true =>
      obtain ⟨Cs,h3,h4⟩:=x0A (show (x5V ops.toList ops.toList []).bind (fun Cs=>(y1B P sz ops.toList).bind fun L=>(v7B P sz ops.toList Cs L).bind fun l=>cond (cond (x6G (ysOf l) []) (okEA l 0 0) false) (some (.draw l (x2B (ysOf l)))) none)=some yc from h1)
      obtain ⟨L,h5,h6⟩:=x0A h4;obtain ⟨l,h7,h8⟩:=x0A h6;obtain ⟨h9,aH⟩:=x0B h8;obtain ⟨bK,cX⟩:=x0D h9;cases aH;obtain ⟨st',q1,q2⟩:=draws_ok (fn:=fn) (id:=id) hT h3 h5 h7 bK cX aI hS (K:=fun st=>k .normal ⟨clrT st.T (x2B (ysOf l)),st.B,st.m⟩) h;exact ⟨.normal,_,q1,q2⟩
  | seq a b ia ib =>
    intro hs bn yc hc μ st T H n k r aI hS h;obtain ⟨p,h1,h2⟩:=x0A (show (z8N P sz a hs).bind (fun p=>(z8N P sz b p.2).map fun q=>(YC.seq p.1 q.1,q.2))=some (yc,bn) from hc)
    obtain ⟨q,h3,h4⟩:=x0C h2;cases h4;obtain ⟨pa,pb⟩:=p;obtain ⟨qa,qb⟩:=q;obtain ⟨e1,st1,⟨T1,H1,n1,⟨k1,c1⟩,c2,⟨μ1,c3,c4⟩,c5⟩,c6⟩:=ia hs pb pa h1 μ st T H n (fun e st=>match e with | .normal=>sem tbl N qa st k | e=>k e st) r aI hS h
    have fin:e1 ≠ .normal->k e1 st1=some r->∃ e st',CodeOk P hk V X fn sz (.seq a b) (x6C (.seq pa qa)) μ st T H n e st'/\k e st'=some r:=fun ac bG =>
      ⟨e1,st1,⟨T1,H1,n1,CRun.of (k0:=k1) fun j hj=>by
        show seqK (run P hk j) none fn sz b (run P hk j (.code none fn sz a T) H n)=_;rw [c1 j hj];cases e1 <;> first | exact absurd rfl ac | rfl,c2,⟨μ1,c3,c4⟩,fun t ht=>c5 t fun hm=>ht (List.mem_append_left _ hm)⟩,bG⟩
    cases e1 with
    | normal =>
      obtain ⟨e2,st2,⟨T2,H2,n2,⟨k2,d1⟩,d2,⟨μ2,d3,d4⟩,d5⟩,d6⟩:=ib pb qb qa h3 μ1 st1 T1 H1 n1 k r c2 c3 c6;refine ⟨e2,st2,⟨T2,H2,n2,CRun.of (k0:=max k1 k2) fun j hj=>?_,d2,⟨μ2,d3,c4.trans d4⟩,fun t ht=>?_⟩,d6⟩
      . show seqK (run P hk j) none fn sz b (run P hk j (.code none fn sz a T) H n)=_;rw [c1 j (by omega)]
        exact d1 j (by omega)
      . rw [d5 t fun hm=>ht (List.mem_append_right _ hm),c5 t fun hm=>ht (List.mem_append_left _ hm)]
    | exit i=>exact fin (by simp) c6
    | ret=>exact fin (by simp) c6
    | goto l=>exact fin (by simp) c6
  | cond c a b ia ib =>
    intro hs bn yc hc μ st T H n k r aI hS h;obtain ⟨y,h1,h2⟩:=x0A (show (ydO c).bind (fun c=>(z8N P sz a hs).bind fun p=>(z8N P sz b p.2).map fun q=>(YC.cond c p.1 q.1,q.2))=some (yc,bn) from hc)
    obtain ⟨p,h3,h4⟩:=x0A h2;obtain ⟨q,h5,h6⟩:=x0C h4;cases h6;obtain ⟨pa,pb⟩:=p;obtain ⟨qa,qb⟩:=q;have h:(match opd st.T [] y with | .bool b=>cond b (sem tbl N pa st k) (sem tbl N qa st k) | _=>none)=some r:=h
    have aj:=x2T (C:=[]) hS (y6Q aI) rfl c y h1;split at h
    . rename_i bb hb;rw [hb] at aj;have fC:=aj.bool_of;have go:∀ (x:Code) (ax:List Nat) (e:Ex) (st':Y D),cond bb a b=x->(∀ t,t∈ax->t∈x6C (.cond y pa qa))->CodeOk P hk V X fn sz x ax μ st T H n e st'->CodeOk P hk V X fn sz (.cond c a b) (x6C (.cond y pa qa)) μ st T H n e st':=fun x ax e st' hx xk wW=>by
        obtain ⟨T',H',n',⟨k1,c1⟩,c2,c3,c4⟩:=wW;refine ⟨T',H',n',CRun.of (k0:=k1) fun j hj=>?_,c2,c3,fun t ht=>c4 t fun hm=>ht (xk t hm)⟩;show cond (okX c) (v6Z (run P hk j) none fn sz a b T H n (ev T c)) Xec.R.bad=_;rw [x8K h1,fC];show run P hk j (.code none fn sz (cond bb a b) T) H n=_;rw [hx];exact c1 j hj
      cases bb with
      | true =>
        obtain ⟨e,st',q1,q2⟩:=ia hs pb pa h3 μ st T H n k r aI hS h;exact ⟨e,st',go a _ e st' rfl (fun t hm=>List.mem_append_left _ hm) q1,q2⟩
      | false =>
        obtain ⟨e,st',q1,q2⟩:=ib pb qb qa h5 μ st T H n k r aI hS h;exact ⟨e,st',go b _ e st' rfl (fun t hm=>List.mem_append_right _ hm) q1,q2⟩
    . cases h
  | block id b ib =>
    intro hs bn yc hc μ st T H n k r aI hS h;obtain ⟨p,h1,h2⟩:=x0C (show (z8N P sz b hs).map (fun p=>(YC.block id p.1,p.2))=some (yc,bn) from hc)
    cases h2;obtain ⟨pa,pb⟩:=p;obtain ⟨e1,st1,⟨T1,H1,n1,⟨k1,c1⟩,c2,c3,c4⟩,c6⟩:=ib hs pb pa h1 μ st T H n (fun e st=>match e with | .exit i=>cond (Nat.beq i id) (k .normal st) (k (.exit i) st) | e=>k e st) r aI hS h
    have go:∀ e2,u6X id (.ok e1 T1 H1 n1) = .ok e2 T1 H1 n1->CodeOk P hk V X fn sz (.block id b) (x6C (.block id pa)) μ st T H n e2 st1:=fun e2 he =>
      ⟨T1,H1,n1,CRun.of (k0:=k1) fun j hj=>by
        show u6X id (run P hk j (.code none fn sz b T) H n)=_;rw [c1 j hj];exact he,c2,c3,c4⟩
    cases e1 with
    | normal=>exact ⟨.normal,st1,go _ rfl,c6⟩
    | ret=>exact ⟨.ret,st1,go _ rfl,c6⟩
    | goto l=>exact ⟨.goto l,st1,go _ rfl,c6⟩
    | exit i =>
      have c6:cond (Nat.beq i id) (k .normal st1) (k (.exit i) st1)=some r:=c6;cases hb:Nat.beq i id with
      | true=>rw [hb] at c6;exact ⟨.normal,st1,go _ (by show cond (Nat.beq i id) _ _=_;rw [hb];rfl),c6⟩
      | false=>rw [hb] at c6;exact ⟨.exit i,st1,go _ (by show cond (Nat.beq i id) _ _=_;rw [hb];rfl),c6⟩
  | loop b ib =>
    intro hs bn yc hc μ st T H n k r aI hS h;cases hs with
    | nil=>cases hc
    | cons hh hs =>
      obtain ⟨p,h1,h2⟩:=x0C (show (z8N P sz b hs).map (fun p=>(YC.loop hh (x5F hh++x6C p.1) p.1,p.2))=some (yc,bn) from hc)
      cases h2;obtain ⟨pa,pb⟩:=p;obtain ⟨e,st',T',H',n',q1,q2,q3,q4,q5⟩:=v4W (fn:=fn) (b:=b) (yb:=pa) (h:=hh) (N0:=N) aI hS (ib hs pb pa h1) N μ st T H n hS (Gr.refl _ _ _ _ _) (fun _ _=>rfl) h;exact ⟨e,st',⟨T',H',n',q1,q2,q3,q4⟩,q5⟩
theorem u7C:∀ (vs:List (PV D)) (xs:List Value) (k:Nat) (T:Tt D) (T':Tm) {μ:Mu} {H:Hp} {M:Nat->Prop}, RepL V μ H M vs xs->(∀ t,Rep V μ H M (pget T t) (tget T' t))->∀ t,Rep V μ H M (pget (v7S vs k T) t) (tget (y2Z xs k T') t)
  | [],_,k,T,T', μ, H,M, .nil,h,t=>h t
  | v::vs,_,k,T,T', μ, H,M, .cons _ x _ xs hv ht,h,t=>by
    refine u7C vs xs (k+1) (pset T k v) (tset T' k x) ht (fun u=>?_) t;rw [x3W,x8N];split
    . exact hv
    . exact h u
theorem u7Z {vs:List (PV D)}(hv:∀ v,v∈vs->∀ C g w,v ≠ .opt C g w):∀ (k:Nat) (T:Tt D),x6A T->x6A (v7S vs k T):=by
  induction vs with
  | nil=>exact fun _ _ h=>h
  | cons v vs ih =>
    intro k T h;refine ih (fun w hw=>hv w (by simp [hw])) (k+1) (pset T k v) fun t C g w=>?_
    rw [x3W];split
    . exact hv v (by simp) C g w
    . exact h t C g w
theorem strip_no {C:Ch}{v:PV D}(h:∀ C g w,v ≠ .opt C g w):x3T C v=v:=by
  unfold x3T;split
  . exact absurd rfl (h _ _ _)
  . rfl
theorem u4P {μ:Mu}{st:Y D}{T:Tm}{H:Hp}{n:Nat}(aI:x6A st.T)(hS:SR V X μ st T H n){r:ResultVar}{q:RV}(hr:resV P r=some q){v:PV D}(hv:retV st q=some v):∃ x,(∀ l vs,resL P T H l=some vs->resL P T H (r::l)=some (x::vs))/\Rep V μ H (MX X μ st.B) v x:=by
  cases r with
  | tmp t =>
    cases hr;cases hv;refine ⟨tget T t,fun l vs h=>by rw [y0Z,h];rfl, ?_⟩
    rw [strip_no (aI t)];exact hS.tr t
  | cell a t =>
    obtain ⟨d,h1,h2⟩:=x0A (show (P.underlying t).bind (fun _=>(x1K P t).map fun n=>RV.c a n (x2C (P.underlying t)))=some q from hr)
    obtain ⟨k,h3,rfl⟩:=x0C h2;have hv:(match pget st.T a with
      | .lptr i off=>match bget st.B i with
        | some (_, .cells l)=>z6G (x2C (P.underlying t)) off k l
        | _=>none
      | _=>none)=some v:=hv
    have aj:=hS.tr a;split at hv
    . rename_i i off hp;rw [hp] at aj;split at hv
      . rename_i s l hb;obtain ⟨x,len,xl,e,e1,e2,e3⟩:=hS.hr.cells hb;obtain ⟨x',len',e4,e5⟩:=y0G aj;obtain ⟨rfl,rfl⟩:=mu_eq e1 e4;obtain ⟨w,h4,h5⟩:=y6H hv e3;refine ⟨w,fun l' vs h=>?_,h5⟩;rw [y0Z,h];show (v0Q (tget T a)).bind _=_;rw [e5];show (z5W P H t ⟨x,off,none⟩).bind _=_;have:z5W P H t ⟨x,off,none⟩=some w:=by
          unfold z5W;show (cellsOf (hget H x)).bind _=_;rw [e2];show cond (x2C (P.underlying t)) ((x1K P t).bind fun n=>(cut xl off n).map x5Z) ((P.underlying t).bind fun _=>lget xl off)=_;rw [<- h4,h3,h1];rfl
        rw [this];rfl
      . cases hv
    . cases hv
theorem y4L {μ:Mu}{st:Y D}{T:Tm}{H:Hp}{n:Nat}(aI:x6A st.T)(hS:SR V X μ st T H n):∀ {l:List ResultVar} {rs:List RV} {vs:List (PV D)}, resT P l=some rs->retL st rs=some vs->∃ xs,resL P T H l=some xs/\RepL V μ H (MX X μ st.B) vs xs/\rs.length=vs.length
  | [],rs,vs,hr,hv=>by cases hr;cases hv;exact ⟨[],rfl, .nil,rfl⟩
  | r::l,rs,vs,hr,hv=>by
    obtain ⟨q,h1,h2⟩:=x0A (show (resV P r).bind (fun v=>(resT P l).map fun vs=>v::vs)=some rs from hr)
    obtain ⟨ts,h3,rfl⟩:=x0C h2;have hv:Option.casesOn (motive:=fun _=>Option (List (PV D))) (retV st q) none (fun v=>Option.casesOn (motive:=fun _=>Option (List (PV D))) (retL st ts) none (fun vs=>some (v::vs)))=some vs:=hv;obtain ⟨v,h4,h5⟩:=x0Y (z:=(none:Option (List (PV D)))) hv (by simp)
    obtain ⟨ws,h6,h7⟩:=x0Y (z:=(none:Option (List (PV D)))) h5 (by simp)
    cases h7;obtain ⟨x,h8,h9⟩:=u4P aI hS h1 h4;obtain ⟨xs,aH,bK,cX⟩:=y4L aI hS h3 h6;exact ⟨x::xs,h8 l xs aH, .cons _ _ _ _ h9 bK,by simp [cX]⟩
theorem ret_rel {μ:Mu}{st:Y D}{T:Tm}{H:Hp}{n:Nat}(aI:x6A st.T)(hS:SR V X μ st T H n){l:List ResultVar}{rs:List RV}{v:PV D}(hr:resT P l=some rs)(hv:retP st rs=some v):∃ xv,Xec.retK H n (resL P T H l) = .ok .ret (one xv) H n/\Rep V μ H (MX X μ st.B) v xv:=by
  have many:(∀ r,rs≠[r])->retP st rs=Option.casesOn (motive:=fun _=>Option (PV D)) (retL st rs) none (fun vs=>some (.tup vs)):=fun h=>by
    unfold retP;split
    . exact absurd rfl (h _)
    . rfl
  match rs,hr,hv,many with
  | [q],hr,hv,_ =>
    cases l with
    | nil=>cases hr
    | cons r l =>
      obtain ⟨q',h1,h2⟩:=x0A (show (resV P r).bind (fun v=>(resT P l).map fun vs=>v::vs)=some [q] from hr)
      obtain ⟨ts,h3,h4⟩:=x0C h2;cases h4;obtain ⟨x,h5,h6⟩:=u4P aI hS h1 hv;obtain ⟨xs,h7,h8,_⟩:=y4L (vs:=[]) aI hS h3 rfl;cases h8;exact ⟨x,by rw [h5 l [] h7];rfl,h6⟩
  | [],hr,hv,many =>
    have hv:some (PV.tup [])=some v:=hv;cases hv;obtain ⟨xs,h3,h4,h5⟩:=y4L (vs:=[]) aI hS hr rfl;cases h4;exact ⟨.tuple #[],by rw [h3];rfl, .tup _ _ .nil⟩
  | a::b::r,hr,hv,many =>
    rw [many (by simp)] at hv
    obtain ⟨vs,h1,h2⟩:=x0Y (z:=(none:Option (PV D))) hv (by simp)
    cases h2;obtain ⟨xs,h3,h4,h5⟩:=y4L aI hS hr h1;have fH:xs.length=r.length+2:=by rw [<- h4.length, <- h5];simp
    match xs,h3,h4,fH with
    | x::y::w,h3,h4,_=>exact ⟨.tuple (x::y::w).toArray,by rw [h3];rfl, .tup _ _ (by simpa using h4)⟩
    | [x],_,_,h6=>simp at h6
    | [],_,_,h6=>simp at h6
theorem v6A (hT:y1V P hk V tbl){N:Nat}{f:FuncId}{hs:List Hint}{yc:YC}{rs:List RV}{sz:Nat}(hc:v0H P f hs=some (yc,rs,sz))(ae:∀ xs,hk f xs=none){args:List (PV D)}(am:args.length <= sz)(aI:∀ v,v∈args->∀ C g w,v ≠ .opt C g w){μ:Mu}{B:Bt D}{m:Nat}{H:Hp}{n:Nat}{xs:List Value}(hr:HR V X μ B m H n)(ha:RepL V μ H (MX X μ B) args xs)
    {K:PV D->Y D->Option R} {r:R} (h:fsem tbl N yc rs args B m K=some r):∃ v st' xv H' n' μ',(∃ k0, ∀ k,k0 <= k->run P hk k (.call f xs) H n = .ok .ret (one xv) H' n')/\HR V X μ' st'.B st'.m H' n'/\Gr μ B m H n μ' st'.B st'.m H' n'/\Rep V μ' H' (MX X μ' st'.B) v xv/\K v st'=some r:=by
  obtain ⟨fn,h1,h2⟩:=x0A hc;obtain ⟨c,h3,h4⟩:=x0A h2;obtain ⟨p,h5,h6⟩:=x0A h4;obtain ⟨ts,h7,h8⟩:=x0C h6;cases h8;obtain ⟨yc,bn⟩:=p;have hS:SR V X μ ⟨v7S args 0 .leaf,B,m⟩ (y2Z xs 0 .leaf) H n:=⟨hr,u7C args xs 0 .leaf .leaf ha fun t=>by rw [z6F];exact .undef _⟩
  have kW:x6A (⟨v7S args 0 .leaf,B,m⟩:Y D).T:=u7Z aI 0 .leaf fun t C g w=>by rw [z6F];simp
  obtain ⟨e,st',⟨T',H',n',⟨k0,q1⟩,q2,⟨μ',q3,q4⟩,_⟩,q5⟩:=sem_ok hT N f c hs bn yc h5 μ _ _ H n _ r kW hS h;have fin:(e = .normal\/e = .ret)->Yec.retK st' rs K=some r->∃ v st' xv H' n' μ',(∃ k0, ∀ k,k0 <= k->run P hk k (.call f xs) H n = .ok .ret (one xv) H' n')/\HR V X μ' st'.B st'.m H' n'/\Gr μ B m H n μ' st'.B st'.m H' n'/\Rep V μ' H' (MX X μ' st'.B) v xv/\K v st'=some r:=fun he hK=>by
    obtain ⟨v,hv,hK⟩:=x0Y (z:=(none:Option R)) hK (by simp)
    obtain ⟨xv,w1,w2⟩:=ret_rel (P:=P) q2 q3 h7 hv;refine ⟨v,st',xv,H',n', μ',⟨k0+1,fun k bG=>?_⟩,q3.hr,q4,w2,hK⟩;obtain ⟨j,rfl⟩:∃ j,k=j+1:=⟨k-1,by omega⟩
    show hookK H n (onOR (P.funcs[f]?) fun fn=>onOR fn.body fun c=>cond (Nat.ble xs.length fn.ntmps) (callK P fn (run P hk j (.code none f fn.ntmps c (y2Z xs 0 .leaf)) H n)) .bad) (hk f xs)=_;rw [ae,h1];show onOR fn.body (fun c=>cond (Nat.ble xs.length fn.ntmps) (callK P fn (run P hk j (.code none f fn.ntmps c (y2Z xs 0 .leaf)) H n)) .bad)=_;rw [h3];show cond (Nat.ble xs.length fn.ntmps) (callK P fn (run P hk j (.code none f fn.ntmps c (y2Z xs 0 .leaf)) H n)) .bad=_;rw [Nat.ble_eq_true_of_le (by rw [<- ha.length];exact am),cond_true,q1 j (by omega)]
    rcases he with rfl | rfl
    . exact w1
    . exact w1
  cases e with
  | normal=>exact fin (.inl rfl) q5
  | ret=>exact fin (.inr rfl) q5
  | exit i=>cases q5
  | goto l=>cases q5
theorem fun_pure (hT:y1V P hk V tbl){N:Nat}{f:FuncId}{hs:List Hint}{yc:YC}{rs:List RV}{sz:Nat}(hc:v0H P f hs=some (yc,rs,sz))(ae:∀ xs,hk f xs=none){args:List (PV D)}(am:args.length <= sz)(aI:∀ v,v∈args->∀ C g w,v ≠ .opt C g w)(eA:IdLtL V 0 args)
    {K:PV D->Y D->Option R} {r:R} {out:PV D} (h:fsem tbl N yc rs args .leaf 0 K=some r) (hK:∀ v st,K v st=some r->v=out) (ho:IdLt V 0 out) (B:Bt D) (m:Nat):FunS P hk V f args B m [] out B m:=by
  intro X μ H n xs hr ha;have h2:HR V (MX X μ B) (fun _=>none) (.leaf:Bt D) 0 H n:=by
    refine ⟨fun i s b hb=>(by rw [x4U] at hb;cases hb),fun i j s s' b b' x a c hb=>(by rw [x4U] at hb;cases hb),fun i s b x len hb=>(by rw [x4U] at hb;cases hb),fun i x len hm=>(by cases hm),fun i q hm=>(by cases hm),fun x hx=>?_,hr.fresh⟩
    rcases hx with hx | ⟨i,s,b,len,_,hm⟩
    . exact hr.xlt x hx
    . exact hr.lt i x len hm
  have sB:RepL V (fun _=>none) H (MX (MX X μ B) (fun _=>none) (.leaf:Bt D)) args xs:=ha.lower (m:= 0) (fun i q hi _=>absurd hi (Nat.not_lt_zero i)) (fun y hy hm=>by
    rcases hm with hm | ⟨i,s,b,len,hb,_⟩
    . exact hy hm
    . rw [x4U] at hb;cases hb) eA
  obtain ⟨v,st',xv,H',n', μ2,h3,h4,h5,h6,h7⟩:=v6A hT hc ae am aI h2 sB h;obtain rfl:=hK v st' h7;have same:∀ x,x<n->hget H' x=hget H x:=fun x hx=>h5.frame x hx fun i s b len hb=>by rw [x4U] at hb;cases hb
  have kp:Keep μ H (MX X μ B) μ H' (MX X μ B):=⟨fun _ _ h=>h,fun x o hx cB=>⟨hx,by
    rw [same x ?_];exact cB;apply Classical.byContradiction;intro hn;rw [hr.fresh x (by omega)] at cB;cases cB⟩⟩
  refine ⟨xv,H',n', μ, h3,⟨fun i s b hb=>?_,hr.inj,hr.nx,fun i x len hm=>Nat.lt_of_lt_of_le (hr.lt i x len hm) h5.le,hr.lm,fun x hx=>Nat.lt_of_lt_of_le (hr.xlt x hx) h5.le,h4.fresh⟩,⟨h5.le,Nat.le_refl _,fun _ _=>rfl,fun x hx _=>same x hx,fun i s b _ hb=>⟨s,b,hb⟩,fun i s b x len _ hb hm=> .inr ⟨i,s,b,len,hb,hm⟩,fun _ _ _ hb _=>hb,fun i s b x len _ _ _ hm=>same x (hr.lt i x len hm)⟩, ?_,fun i s b x len _ _ hm=>same x (hr.lt i x len hm)⟩
  . obtain ⟨q1,ox,len,q2,q3⟩:=hr.blk i s b hb;exact ⟨q1,ox,len,q2,q3.keep kp fun x hx=>same x (by subst hx;exact hr.lt i x len q2)⟩
  . exact h6.lower (m:= 0) (fun i q hi _=>absurd hi (Nat.not_lt_zero i)) (fun y hy hm=>hy (.inl hm)) ho
noncomputable def x1X (l:List (Nat×(List (PV D)->Bt D->Nat->CallR D))):Tbl D:=fun f args B m=>List.rec .bad (fun e _ ih=>cond (Nat.beq e.1 f) (e.2 args B m) ih) l
theorem x0H {l:List (Nat×(List (PV D)->Bt D->Nat->CallR D))}(h:∀ e,e∈l->∀ args B m,x4V P hk V e.1 args B m (e.2 args B m)):y1V P hk V (x1X l):=by
  intro f args B m
  induction l with
  | nil=>trivial
  | cons e l ih =>
    show x4V P hk V f args B m (cond (Nat.beq e.1 f) (e.2 args B m) (x1X l f args B m));cases hb:Nat.beq e.1 f with
    | true=>rw [cond_true, <- x0U hb];exact h e (by simp) args B m
    | false=>rw [cond_false];exact ih fun e' he=>h e' (by simp [he])
end
open Go.Proofs
def y1G (f:Nat):Bool:=[14, 229, 137, 195, 181, 182, 198, 212, 214, 225, 236, 244, 245, 268].elem f
instance gtSeat:GT:=⟨fun g=>cond (Nat.beq g 0) (some punV) none⟩
def HkN (hk:Hook):Prop:= ∀ f,y1G f=false->∀ xs,hk f xs=none
end Go.Yec
namespace Go.Proofs
open Go.RowKit
def tenV:Array Value:= #[.int .i64 1, .int .i64 10, .int .i64 100, .int .i64 1000, .int .i64 10000, .int .i64 100000, .int .i64 1000000, .int .i64 10000000, .int .i64 100000000, .int .i64 1000000000, .int .i64 10000000000, .int .i64 100000000000, .int .i64 1000000000000, .int .i64 10000000000000, .int .i64 100000000000000, .int .i64 1000000000000000, .int .i64 10000000000000000, .int .i64 100000000000000000, .int .i64 1000000000000000000]
theorem v1P:Xec.givesB Tryz.prog 2000 195 [] (.agg tenV)=true:=by kernel_rfl
theorem x2N:Xec.namesB Tryz.prog=true:=by kernel_rfl
theorem x2P:Tryz.prog.follows .mixedOrders=true:=by kernel_rfl
theorem Tryz.tens (w:World)(hg:Xec.Glob w):Calls Tryz.prog 195 #[] w fun e w'=>e = .returned (.agg tenV)/\Below w.heap.size w w' :=
  Calls.mono (Xec.closed_call x2P x2N v1P w hg) fun _ _ ⟨h1,h2,h3,h4,h5,h6⟩=>⟨h1,h4,h6,h5,h3,h2⟩
theorem v0M:((List.range 256).all fun c=>Xec.givesB Tryz.prog 3000 167 [.int .u8 (c:Int), .int .i64 8] (.string ⟨(Yec.bitsB c.toUInt8).toArray⟩))=true:=by kernel_rfl
theorem c106 (c:UInt8)(w:World)(hg:Xec.Glob w):Calls Tryz.prog 167 #[.int .u8 (c.toNat:Int), .int .i64 8] w fun e w'=>e = .returned (.string ⟨(Yec.bitsB c).toArray⟩)/\Below w.heap.size w w':=by
  have h:=List.all_eq_true.1 v0M c.toNat (List.mem_range.2 c.toNat_lt);rw [show c.toNat.toUInt8=c from by simp] at h
  exact Calls.mono (Xec.closed_call x2P x2N h w hg) fun _ _ ⟨h1,h2,h3,h4,h5,h6⟩=>⟨h1,h4,h6,h5,h3,h2⟩
open Go.Lib Go.Shelf
theorem x1C {w w':World}(h:Below w.heap.size w w')(hg:Xec.Glob w):Xec.Glob w':=fun g cs e=>by
  obtain ⟨t,fz,h1⟩:=hg g cs e;exact ⟨t,fz,by rw [h.block g (Array.getElem?_eq_some_iff.1 h1).1];exact h1⟩
theorem Tryz.extra105:Builder.Extra Tryz.prog Tryz.lays105_ren:= {
  sizeBuilder:=by kernel_rfl
  liesBuilder:=by kernel_rfl
  t5:=Tryz.underlying5
  a5:=Tryz.isAgg5
  z5:=Tryz.sizeOf5
  v5:=Tryz.zeroValue5
  infoByte:=by kernel_rfl
  cellsByte:=by kernel_rfl
  sizeByte:=by kernel_rfl
  neB5:=by decide }
theorem y8T {T e:TypeId}{B b:Nat}{p:Value}{bs:List Value}{w w':World}(h:Lib.BuilderAtF T e B b p bs w)(hf:∀ j,j<w.heap.size->w'.heap[j]? = w.heap[j]?):Lib.BuilderAtF T e B b p bs w':=by
  have ai:=h.lt;obtain ⟨hB,v,hb,aQ,ac⟩:=h;refine ⟨hB,v,(hf b ai).trans hb, ?_,ac⟩;obtain ⟨h1,h2⟩:=aQ;refine ⟨h1, ?_⟩;rcases h2 with h2 | ⟨g,cap,cur,fz,e1,e2,e3,e4,e5,e6,e7,e8⟩
  . exact .inl h2
  . exact .inr ⟨g,cap,cur,fz,e1,e2,(hf g (Array.getElem?_eq_some_iff.1 e3).1).trans e3,e4,e5,e6,e7,e8⟩
theorem v7N {T e:TypeId}{B b:Nat}{bs:List Value}{w w':World}(h:Lib.IsBuilderF T e B b bs w)(hf:∀ j,j<w.heap.size->w'.heap[j]? = w.heap[j]?):Lib.IsBuilderF T e B b bs w' :=
  h.elim (fun x=> .inl (y8T x hf)) (fun x=> .inr (y8T x hf))
set_option maxHeartbeats 2000000 in
theorem c72 (s:ByteArray)(w:World)(hs:s.size<65536)(hg:Xec.Glob w):Calls Tryz.prog 137 #[.string s] w fun e w'=>e = .returned (.string ⟨(Yec.hBits s.data.toList).toArray⟩)/\Below w.heap.size w w':=by
  have h0:Lib.IsBuilderF 209 5 w.heap.size w.heap.size (Lib.byteCells []) (w.alloc (.cells #[.pointer none, .slice none 0 0] 209)):=Lib.IsBuilderF.of (Lib.fresh_isBuilder 209 5 w);have b0:Below w.heap.size w (w.alloc (.cells #[.pointer none, .slice none 0 0] 209)):=(Below.refl _ w).alloc (Nat.le_refl _) _;have eK:s.data.toList.length=s.size:=(Lib.size_eq s).symm;go_enter Tryz.func137,Tryz.ntmps137;go_wp2
  go_loopg [7] s.size (fun g s7 wx=> ∃ k:Nat,k <= s.size/\g=s.size-k/\s7 = .int .i64 k/\Lib.IsBuilderF 209 5 w.heap.size w.heap.size (Lib.byteCells (Yec.hBits (s.data.toList.take k))) wx/\Below w.heap.size w wx)
  case atStart=>exact ⟨0,Nat.zero_le _,rfl,rfl,h0,b0⟩
  case round =>
    obtain ⟨k,hk,rfl,rfl,hB,iP⟩:=hrel
    by_cases ae:k<s.size
    . have om:(k:Int)<(s.size:Int):=by omega
      have c1:=c106 s[k] wr (x1C iP hg)
      go_wp2_with (go_at_call 167;go_fit c1;rintro e W1 ⟨rfl,b1⟩)
      have au:=v7N hB b1.block;have tZ:(Yec.bitsB s[k]).length=8:=rfl;have cu:(⟨(Yec.bitsB s[k]).toArray⟩:ByteArray).size=8:=rfl;have bB:Below w.heap.size w W1:=iP.trans (b1.mono iP.size);have c2:=Any.Builder_WriteString_f { Tryz.lays105 with } Tryz.extra105 w.heap.size w.heap.size _ ⟨(Yec.bitsB s[k]).toArray⟩ W1 au (by
        rw [Lib.byteCells_length,Yec.hBits_len,cu,List.length_take]
        omega) bB.size
      go_wp2_with (go_at_call 168;go_fit c2;rintro e W2 ⟨rfl,h2,b2⟩)
      go_roundg (s.size-(k+1))
      case measure=>omega
      case rel =>
        refine ⟨k+1,by omega,rfl,by first | rfl | simp,Or.inr ?_,bB.trans b2⟩
        rw [Lib.strCells_eq, <- Lib.byteCells_append] at h2;rw [Yec.hBits_take (by omega)]
        exact h2
    . obtain rfl:k=s.size:=by omega
      have om:¬ ((s.size:Int)<(s.size:Int)):=by omega
      rw [show s.data.toList.take s.size=s.data.toList by rw [<- eK,List.take_length]] at hB
      have c3:=Any.Builder_String_any_f { Tryz.lays105 with } Tryz.extra105 w.heap.size w.heap.size (Yec.hBits s.data.toList) wr hB iP.size
      go_wp2_with (go_at_call 169;go_fit c3;rintro e W3 ⟨rfl,h3,b3⟩)
      go_ret;exact ⟨rfl,iP.trans b3⟩
theorem Tryz.indexByte (s:ByteArray)(c:Int)(w:World):Calls Tryz.prog 236 #[.string s, .int .u8 c] w fun e w'=>e = .returned (.int .i64 (Lib.indexByte s.data.toList c.toNat.toUInt8))/\w'=w:=Any.strings_IndexByte Tryz.lays137 s c w
theorem Tryz.count (s:ByteArray)(c:UInt8)(w:World):Calls Tryz.prog 244 #[.string s, .string ⟨#[c]⟩] w fun e w'=>e = .returned (.int .i64 (Lib.countByte s.data.toList c))/\w'=w:=Any.strings_Count_one Tryz.lays138 s c w
theorem Tryz.contains (s:ByteArray)(c:UInt8)(w:World):Calls Tryz.prog 214 #[.string s, .string ⟨#[c]⟩] w fun e w'=>e = .returned (.bool (decide (0 <= Lib.indexByte s.data.toList c)))/\w'=w:=Any.strings_Contains_one Tryz.lays144 s c w
theorem Tryz.hasSuffix (s p:ByteArray)(w:World)(hs:s.size <= 9223372036854775807):Calls Tryz.prog 212 #[.string s, .string p] w fun e w'=>e = .returned (.bool (Lib.hasSuffix s.data.toList p.data.toList))/\w'=w:=Any.strings_HasSuffix Tryz.lays100 s p w hs
theorem Tryz.lastIndexByte (s:ByteArray)(c:Int)(w:World)(hs:s.size<4611686018427387904):Calls Tryz.prog 245 #[.string s, .int .u8 c] w fun e w'=>e = .returned (.int .i64 (Lib.lastIndexByte s c))/\w'=w:=Any.strings_LastIndexByte Tryz.lays149 s c hs w
theorem Tryz.containsAny (s chars:ByteArray)(w:World)(hs:s.size<4294967281)(f9:chars.size<4294967281)(has:∀ (j:Nat) b,s.data.toList[j]? = some b->b.toNat<128)(xo:∀ (j:Nat) b,chars.data.toList[j]? = some b->b.toNat<128) :
    Calls Tryz.prog 182 #[.string s, .string chars] w fun e w'=>e = .returned (.bool (Lib.containsAny s.data.toList chars.data.toList))/\Go.RowKit.Below w.heap.size w w':=Any.strings_ContainsAny_laid Tryz.lays150 (by kernel_rfl) s chars w hs f9 has xo
theorem Tryz.trim (s cutset:ByteArray)(w:World)(hs:s.size <= 9223372036854775807)(f9:cutset.size<4294967281)(lZ:∀ (j:Nat) b,cutset.data.toList[j]? = some b->b.toNat<128) :
    Calls Tryz.prog 181 #[.string s, .string cutset] w fun e w'=>e = .returned (.string ⟨(Lib.trimS s.data.toList cutset.data.toList).toArray⟩)/\Go.RowKit.Below w.heap.size w w':=Any.strings_Trim_laid Tryz.lays160 (by kernel_rfl) s cutset w hs f9 lZ
theorem Tryz.atoi (s:ByteArray)(n:Int)(w:World)(hl:s.size <= 18)(h:Lib.atoi s.data.toList=some n):Calls Tryz.prog 198 #[.string s] w fun e w'=>e = .returned (.tuple #[.int .i64 n, .nilIface])/\Go.RowKit.Below w.heap.size w w' :=
  (Any.strconv_Atoi Tryz.lays172 s n hl h w).mono (by
    rintro e w' ⟨h1,t,rfl⟩;exact ⟨h1,Lib.bytesWorld_below _ _ _⟩)
theorem Tryz.repeat' (s:ByteArray)(c:Nat)(w:World)(hc:c <= 9223372036854775807)(am:s.size*c <= 140737488355328):Calls Tryz.prog 229 #[.string s, .int .i64 c] w fun e w'=>e = .returned (.string ⟨(Lib.repeatL s.data.toList c).toArray⟩)/\Go.RowKit.Below w.heap.size w w' :=
  Any.strings_Repeat Tryz.lays105 Tryz.extra105 s c w hc am
end Go.Proofs
namespace Go.Yec
open Go Go.Xec Go.Proofs
def hkSB (f:Nat)(s:List UInt8)(c:Int):Option Value :=
  if f=236 then some (.int .i64 (hIx s c)) else if f=245 then (if hSz 4611686018427387904 s=true then some (.int .i64 (y7K s c)) else none) else none
def hkSS (f:Nat)(s t:List UInt8):Option Value :=
  if f=244 then (if hOne t=true then some (.int .i64 (u5U s t)) else none)
  else if f=214 then (if hOne t=true then some (.bool (hHas s t)) else none)
  else if f=212 then (if hSz 9223372036854775808 s=true then some (.bool (hSuf s t)) else none)
  else if f=182 then (if x7C s t=true then some (.bool (hAny s t)) else none)
  else if f=181 then (if y2N s t=true then some (.string ⟨(u8P s t).toArray⟩) else none)
  else none
def hkS1 (f:Nat)(s:List UInt8):Option Value:=if f=198 then (if v5W s=true then some (.tuple #[.int .i64 (hAtoi s), .nilIface]) else none)
  else if f=137 then (if hBitsOk s=true then some (.string ⟨(hBits s).toArray⟩) else none) else none
def hkSI (f:Nat)(s:List UInt8)(n:Int):Option Value:=if f=229 then (if hRepOk s n=true then some (.string ⟨(hRep s n).toArray⟩) else none) else none
def hkB1 (f:Nat)(c:Int):Option Value:=if f=225 then some (.tuple #[.int .i64 (hUnp1 c), .bool (hUnp2 c), .bool (hUnp3 c)]) else none
def hkIB (f:Nat)(d:Int)(m:Bool):Option Value:=if f=268 then some (.tuple #[.int .u8 (hPun1 d m), .bool (hPun2 d)]) else none
def hkV:Hook:=fun f args=>match args with
  | [.string s, .int .u8 c]=>hkSB f s.data.toList c
  | [.string s, .string t]=>hkSS f s.data.toList t.data.toList
  | [.string s]=>hkS1 f s.data.toList
  | [.string s, .int .i64 n]=>hkSI f s.data.toList n
  | [.int .u8 c]=>hkB1 f c
  | [.int .i64 d, .bool m]=>hkIB f d m
  | _=>none
theorem hkV_no:HkN hkV:=fun f hf xs=>by
  unfold y1G at hf;simp only [List.elem_cons,List.elem_nil,Bool.or_eq_false_iff] at hf;have ac:f≠181/\f≠182/\f≠212/\f≠214/\f≠236/\f≠244/\f≠245/\f≠229/\f≠198/\f≠225/\f≠268/\f≠137:=by
    refine ⟨?_, ?_, ?_, ?_, ?_, ?_, ?_, ?_, ?_, ?_, ?_, ?_⟩ <;> (intro e;subst e;simp at hf)
  obtain ⟨n1,n2,n3,n4,n5,n6,n7,n8,n9,n10,n11,n12⟩:=ac;unfold hkV;split
  . unfold hkSB;rw [if_neg n5,if_neg n7]
  . unfold hkSS;rw [if_neg n6,if_neg n4,if_neg n3,if_neg n2,if_neg n1]
  . unfold hkS1;rw [if_neg n9,if_neg n12]
  . unfold hkSI;rw [if_neg n8]
  . unfold hkB1;rw [if_neg n10]
  . unfold hkIB;rw [if_neg n11]
  . rfl
theorem x4A (f:Nat)(h:((Tryz.prog.funcs[f]?).bind (·.body)).isSome=true):∃ fn c,Tryz.prog.funcs[f]? = some fn/\fn.body=some c:=by
  cases e:Tryz.prog.funcs[f]? with
  | none=>rw [e] at h;cases h
  | some fn =>
    rw [e] at h;cases e2:fn.body with
    | none=>simp [e2] at h
    | some c=>exact ⟨fn,c,rfl,e2⟩
theorem one_of {t:ByteArray}(h:hOne t.data.toList=true):t=⟨#[t.data.toList.headD 0]⟩:=by
  have h:=of_decide_eq_true h;cases t with | mk a =>
  have ha:a.toList.length=1:=h;cases e:a.toList with
  | nil=>rw [e] at ha;cases ha
  | cons x l =>
    cases l with
    | cons y l=>rw [e] at ha;simp at ha
    | nil =>
      have:a=#[x]:=Array.ext' (by rw [e])
      subst this;rfl
theorem z4J {s:List UInt8}(h:y8Y s=true):∀ (j:Nat) b,s[j]? = some b->b.toNat<128:=fun j b hb=>by
  unfold y8Y at h;rw [List.all_eq_true] at h;exact of_decide_eq_true (h b (List.mem_of_getElem? hb))
theorem hkV_ok:HookOk Tryz.prog hkV:=fun f args v h=>by
  have fin:∀ (args:List Value) (r:Value), VR (fun _ => none) r r->(∀ β:Bm, VR β r r)->x6N args=true->(∀ w, Glob w->Calls Tryz.prog f args.toArray w fun e w' => e = .returned r/\Go.RowKit.Below w.heap.size w w') ->
      ∀ (β:Bm) (w:World) (cs:List Value),Glob w->VL β args cs->CallsIn Fence.wide 0 Tryz.prog f cs.toArray w fun e w'=> ∃ c,e = .returned c/\VR β r c/\(∀ b,b<w.heap.size->w'.heap[b]? = w.heap[b]?)/\w.heap.size <= w'.heap.size/\w'.os=w.os/\w'.output=w.output/\w'.tape=w.tape:=fun args r _ hr hp hc β w cs cZ hv=>by
    rw [y0P hp hv];refine callsIn_wide.2 ((hc w cZ).mono ?_);rintro e w' ⟨rfl,hb⟩;exact ⟨r,rfl,hr β, hb.block,hb.size,hb.os,hb.output,hb.tape⟩
  have same:∀ {a:Array Value} {w:World} {r:Value}, Calls Tryz.prog f a w (fun e w'=>e = .returned r/\w'=w)->Calls Tryz.prog f a w fun e w'=>e = .returned r/\Go.RowKit.Below w.heap.size w w':=fun hc=>hc.mono (by
    rintro e w' ⟨h1,rfl⟩;exact ⟨h1,Go.RowKit.Below.refl _ _⟩)
  unfold hkV at h;split at h
  . rename_i s c;unfold hkSB at h;split at h
    . rename_i e;subst e;cases h;exact ⟨x4A 236 (by kernel_rfl),fin _ _ (.int _ _) (fun _=> .int _ _) rfl fun w _=>same (Tryz.indexByte s c w)⟩
    . split at h
      . rename_i e;subst e;split at h
        . rename_i hz;cases h;refine ⟨x4A 245 (by kernel_rfl),fin _ _ (.int _ _) (fun _=> .int _ _) rfl fun w _=>same ?_⟩
          have:=Tryz.lastIndexByte s c w (by rw [x2K];exact of_decide_eq_true hz)
          unfold y7K;rw [v7Q];exact this
        . cases h
      . cases h
  . rename_i s t;unfold hkSS at h;split at h
    . rename_i e;subst e;split at h
      . rename_i hz;cases h;refine ⟨x4A 244 (by kernel_rfl),fin _ _ (.int _ _) (fun _=> .int _ _) rfl fun w _=>same ?_⟩
        have:=Tryz.count s (t.data.toList.headD 0) w
        rw [<- one_of hz] at this;exact this
      . cases h
    . split at h
      . rename_i e;subst e;split at h
        . rename_i hz;cases h;refine ⟨x4A 214 (by kernel_rfl),fin _ _ (.bool _) (fun _=> .bool _) rfl fun w _=>same ?_⟩
          have:=Tryz.contains s (t.data.toList.headD 0) w
          rw [<- one_of hz] at this;exact this
        . cases h
      . split at h
        . rename_i e;subst e;split at h
          . rename_i hz;cases h;exact ⟨x4A 212 (by kernel_rfl),fin _ _ (.bool _) (fun _=> .bool _) rfl fun w _=>same (Tryz.hasSuffix s t w (by rw [x2K];exact Nat.le_of_lt_succ (of_decide_eq_true hz)))⟩
          . cases h
        . split at h
          . rename_i e;subst e;split at h
            . rename_i hz;cases h;unfold x7C at hz;simp only [Bool.and_eq_true] at hz;obtain ⟨⟨⟨z1,z2⟩,z3⟩,z4⟩:=hz;exact ⟨x4A 182 (by kernel_rfl),fin _ _ (.bool _) (fun _=> .bool _) rfl fun w _=>Tryz.containsAny s t w (by rw [x2K];exact of_decide_eq_true z1) (by rw [x2K];exact of_decide_eq_true z2) (z4J z3) (z4J z4)⟩
            . cases h
          . split at h
            . rename_i e;subst e;split at h
              . rename_i hz;cases h;unfold y2N at hz;simp only [Bool.and_eq_true] at hz;obtain ⟨⟨z1,z2⟩,z3⟩:=hz;exact ⟨x4A 181 (by kernel_rfl),fin _ _ (.string _) (fun _=> .string _) rfl fun w _=>Tryz.trim s t w (by rw [x2K];exact Nat.le_of_lt_succ (of_decide_eq_true z1)) (by rw [x2K];exact of_decide_eq_true z2) (z4J z3)⟩
              . cases h
            . cases h
  . rename_i s;unfold hkS1 at h;split at h
    . rename_i e;subst e;split at h
      . rename_i hz;cases h;unfold v5W at hz;rw [Bool.and_eq_true,decide_eq_true_eq] at hz;obtain ⟨n,hn⟩:=Option.isSome_iff_exists.1 hz.1;refine ⟨x4A 198 (by kernel_rfl),fin _ _ (.tuple _ _ (.cons (.int _ _) (.cons .nilIface .nil))) (fun _=> .tuple _ _ (.cons (.int _ _) (.cons .nilIface .nil))) rfl fun w _=>?_⟩
        unfold hAtoi;rw [hn];exact Tryz.atoi s n w (by rw [x2K];exact hz.2) hn
      . cases h
    . split at h
      . rename_i e;subst e;split at h
        . rename_i hz;cases h;exact ⟨x4A 137 (by kernel_rfl),fin _ _ (.string _) (fun _=> .string _) rfl fun w cZ=>c72 s w (by rw [x2K];exact of_decide_eq_true hz) cZ⟩
        . cases h
      . cases h
  . rename_i s n;unfold hkSI at h;split at h
    . rename_i e;subst e;split at h
      . rename_i hz;cases h;unfold hRepOk at hz;simp only [Bool.and_eq_true,decide_eq_true_eq] at hz;obtain ⟨z1,z2,z3⟩:=hz;refine ⟨x4A 229 (by kernel_rfl),fin _ _ (.string _) (fun _=> .string _) rfl fun w _=>?_⟩
        have:=Tryz.repeat' s n.toNat w (by omega) (by rw [x2K];exact z3)
        rw [show ((n.toNat:Nat):Int)=n by omega] at this
        exact this
      . cases h
    . cases h
  . rename_i c;unfold hkB1 at h;split at h
    . rename_i e;subst e;cases h;refine ⟨x4A 225 (by kernel_rfl),fin _ _ (.tuple _ _ (.cons (.int _ _) (.cons (.bool _) (.cons (.bool _) .nil)))) (fun _=> .tuple _ _ (.cons (.int _ _) (.cons (.bool _) (.cons (.bool _) .nil)))) rfl fun w cZ=>same ?_⟩
      obtain ⟨e,fz,hg⟩:=cZ 0 punV rfl
      have:=Tryz.unpunch c w hg
      have e1:unpR c=(hUnp1 c,hUnp2 c,hUnp3 c):=by
        unfold unpR hUnp1 hUnp2 hUnp3 hUnp;cases (List.range 20).find? (fun i=>decide (((punL.getD i 0).toNat:Int)=c)) <;> rfl
      rw [e1] at this;exact this
    . cases h
  . rename_i d m;unfold hkIB at h;split at h
    . rename_i e;subst e;cases h;refine ⟨x4A 268 (by kernel_rfl),fin _ _ (.tuple _ _ (.cons (.int _ _) (.cons (.bool _) .nil))) (fun _=> .tuple _ _ (.cons (.int _ _) (.cons (.bool _) .nil))) rfl fun w cZ=>same ?_⟩
      obtain ⟨e,fz,hg⟩:=cZ 0 punV rfl
      have:=Tryz.punch d m w hg
      have e1:z6A d m=(hPun1 d m,hPun2 d):=by
        unfold z6A hPun1 hPun2
        by_cases hd:d<0\/9<d
        . rw [if_pos hd,decide_eq_true hd];rfl
        . rw [if_neg hd,decide_eq_false hd];rfl
      rw [e1] at this;exact this
    . cases h
  . cases h
structure HkS (hk:Hook):Prop where
  no:HkN hk
  yes:∀ f args v,hkV f args=some v->hk f args=some v
  ten:hk 195 []=some (.agg tenV)
  san:hk 14 []=some (.bool true)
def hkW:Hook:=fun f args=>match args with
  | []=>if f=195 then some (.agg tenV) else if f=14 then some (.bool true) else none
  | _=>hkV f args
theorem hkV_nil (f:FuncId):hkV f []=none:=rfl
theorem u8M:HkS hkW:=⟨fun f hf xs=>by
  unfold hkW;split
  . unfold y1G at hf;simp only [List.elem_cons,List.elem_nil,Bool.or_eq_false_iff] at hf;have h1:f≠195:=by intro e;subst e;simp at hf
    have h2:f≠14:=by intro e;subst e;simp at hf
    rw [if_neg h1,if_neg h2]
  . exact hkV_no f hf _,fun f args v h=>by
  unfold hkW;split
  . rw [hkV_nil] at h;cases h
  . exact h,rfl,rfl⟩
theorem hkW_ok (hs:∀ w,Glob w->Calls Tryz.prog 14 #[] w fun e w'=>e = .returned (.bool true)/\Go.RowKit.Below w.heap.size w w'):HookOk Tryz.prog hkW:=fun f args v h=>by
  unfold hkW at h;split at h
  . have fin:∀ r:Value, plain r=true->(∀ w, Glob w->Calls Tryz.prog f #[] w fun e w' => e = .returned r/\Go.RowKit.Below w.heap.size w w')->∀ (β:Bm) (w:World) (cs:List Value), Glob w->VL β [] cs->CallsIn Fence.wide 0 Tryz.prog f cs.toArray w fun e w' => ∃ c, e = .returned c/\VR β r c/\(∀ b, b<w.heap.size->w'.heap[b]? = w.heap[b]?)/\w.heap.size <= w'.heap.size/\w'.os=w.os/\w'.output=w.output/\w'.tape=w.tape := fun r hr hc β w cs cZ hv => by
      cases hv;refine callsIn_wide.2 ((hc w cZ).mono ?_);rintro e w' ⟨rfl,hb⟩;exact ⟨r,rfl,x5N hr,hb.block,hb.size,hb.os,hb.output,hb.tape⟩
    split at h
    . rename_i e;subst e;cases h;exact ⟨x4A 195 (by kernel_rfl),fin _ rfl fun w hg=>Tryz.tens w hg⟩
    . split at h
      . rename_i e;subst e;cases h;exact ⟨x4A 14 (by kernel_rfl),fin _ rfl hs⟩
      . cases h
  . exact hkV_ok f _ v h
section
variable {D:Type} {V:D->List (PV D)} {hk:Hook}
theorem u4K {f:FuncId}{xs:List Value}{w:Value}{H:Hp}{n:Nat}(h:hk f xs=some w)(k:Nat)(pU:1 <= k):run Tryz.prog hk k (.call f xs) H n = .ok .ret (one w) H n:=by
  obtain ⟨k,rfl⟩:∃ j,k=j+1:=⟨k-1,by omega⟩
  show hookK H n _ (hk f xs)=_;rw [h];rfl
theorem fun_SB (hs:HkS hk){f:FuncId}{s:List UInt8}{c:Int}{w:Value}{v:PV D}(h:hkSB f s c=some w)(hv:∀ μ H M,Rep V μ H M v w)(B:Bt D)(m:Nat):FunS Tryz.prog hk V f [.str s, .int .u8 c] B m [] v B m:=by
  intro X μ H n xs hr hx;cases hx with
  | cons _ x _ _ h1 t=>cases t with
    | cons _ y _ _ h2 t =>
      cases t;obtain ⟨u,rfl,rfl⟩:=h1.str_of;obtain rfl:=h2.int_of;exact ⟨w,H,n, μ, ⟨1,u4K (hs.yes _ _ _ h)⟩,hr,Gr.refl _ _ _ _ _,hv _ _ _,fun _ _ _ _ _ _ _ _=>rfl⟩
theorem z7J (hs:HkS hk){f:FuncId}{s t:List UInt8}{w:Value}{v:PV D}(h:hkSS f s t=some w)(hv:∀ μ H M,Rep V μ H M v w)(B:Bt D)(m:Nat):FunS Tryz.prog hk V f [.str s, .str t] B m [] v B m:=by
  intro X μ H n xs hr hx;cases hx with
  | cons _ x _ _ h1 t=>cases t with
    | cons _ y _ _ h2 t =>
      cases t;obtain ⟨u,rfl,rfl⟩:=h1.str_of;obtain ⟨u',rfl,rfl⟩:=h2.str_of;exact ⟨w,H,n, μ, ⟨1,u4K (hs.yes _ _ _ h)⟩,hr,Gr.refl _ _ _ _ _,hv _ _ _,fun _ _ _ _ _ _ _ _=>rfl⟩
theorem strOf {μ:Mu}{H:Hp}{M:Nat->Prop}(l:List UInt8):Rep V μ H M (.str l) (.string ⟨l.toArray⟩):=by
  have:=Rep.str (V:=V) (μ := μ) (H:=H) (M:=M) (⟨l.toArray⟩:ByteArray)
  simpa using this
noncomputable def y2T (_N:Nat):List (PV D)->Bt D->Nat->CallR D:=fun args _ _=>match args with
  | [.str s, .int .u8 c]=> .tot (.int .i64 (hIx s c))
  | _=> .bad
theorem x9S (hs:HkS hk)(N:Nat)(args:List (PV D))(B:Bt D)(m:Nat):x4V Tryz.prog hk V 236 args B m (y2T N args B m):=by
  unfold y2T;split
  . exact fun_SB hs rfl (fun _ _ _=> .int _ _) B m
  . trivial
noncomputable def u1V (_N:Nat):List (PV D)->Bt D->Nat->CallR D:=fun args _ _=>match args with
  | [.str s, .int .u8 c]=> .par (hSz 4611686018427387904 s) (.int .i64 (y7K s c))
  | _=> .bad
theorem u9D (hs:HkS hk)(N:Nat)(args:List (PV D))(B:Bt D)(m:Nat):x4V Tryz.prog hk V 245 args B m (u1V N args B m):=by
  unfold u1V;split
  . intro h;exact fun_SB hs (by simp [hkSS,hkSB,h]) (fun _ _ _=> .int _ _) B m
  . trivial
noncomputable def u1W (_N:Nat):List (PV D)->Bt D->Nat->CallR D:=fun args _ _=>match args with
  | [.str s, .str t]=> .par (hOne t) (.int .i64 (u5U s t))
  | _=> .bad
theorem u9E (hs:HkS hk)(N:Nat)(args:List (PV D))(B:Bt D)(m:Nat):x4V Tryz.prog hk V 244 args B m (u1W N args B m):=by
  unfold u1W;split
  . intro h;exact z7J hs (by simp [hkSS,hkSB,h]) (fun _ _ _=> .int _ _) B m
  . trivial
noncomputable def z3P (_N:Nat):List (PV D)->Bt D->Nat->CallR D:=fun args _ _=>match args with
  | [.str s, .str t]=> .par (hOne t) (.bool (hHas s t))
  | _=> .bad
theorem z1H (hs:HkS hk)(N:Nat)(args:List (PV D))(B:Bt D)(m:Nat):x4V Tryz.prog hk V 214 args B m (z3P N args B m):=by
  unfold z3P;split
  . intro h;exact z7J hs (by simp [hkSS,hkSB,h]) (fun _ _ _=> .bool _) B m
  . trivial
noncomputable def u1Y (_N:Nat):List (PV D)->Bt D->Nat->CallR D:=fun args _ _=>match args with
  | [.str s, .str t]=> .par (hSz 9223372036854775808 s) (.bool (hSuf s t))
  | _=> .bad
theorem u9G (hs:HkS hk)(N:Nat)(args:List (PV D))(B:Bt D)(m:Nat):x4V Tryz.prog hk V 212 args B m (u1Y N args B m):=by
  unfold u1Y;split
  . intro h;exact z7J hs (by simp [hkSS,hkSB,h]) (fun _ _ _=> .bool _) B m
  . trivial
noncomputable def z3Q (_N:Nat):List (PV D)->Bt D->Nat->CallR D:=fun args _ _=>match args with
  | [.str s, .str t]=> .par (x7C s t) (.bool (hAny s t))
  | _=> .bad
theorem z1J (hs:HkS hk)(N:Nat)(args:List (PV D))(B:Bt D)(m:Nat):x4V Tryz.prog hk V 182 args B m (z3Q N args B m):=by
  unfold z3Q;split
  . intro h;exact z7J hs (by simp [hkSS,hkSB,h]) (fun _ _ _=> .bool _) B m
  . trivial
noncomputable def u2D (_N:Nat):List (PV D)->Bt D->Nat->CallR D:=fun args _ _=>match args with
  | [.str s, .str t]=> .par (y2N s t) (.str (u8P s t))
  | _=> .bad
theorem u9M (hs:HkS hk)(N:Nat)(args:List (PV D))(B:Bt D)(m:Nat):x4V Tryz.prog hk V 181 args B m (u2D N args B m):=by
  unfold u2D;split
  . intro h;exact z7J hs (by simp [hkSS,hkSB,h]) (fun _ _ _=>strOf _) B m
  . trivial
end
end Go.Yec
