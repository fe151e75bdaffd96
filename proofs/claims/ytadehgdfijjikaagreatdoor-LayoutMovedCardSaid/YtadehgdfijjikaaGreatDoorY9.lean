/-
  THE PURE EXECUTOR: a loop's head: what the loop carries is laid anew at each round.
-/
import Derived.Test.YtadehgdfijjikaaGreatDoorY8
set_option linter.all false
namespace Go.Yec
open Go Go.Xec
variable [GT]
section
variable {D:Type} {V:D->List (PV D)} {P:Program} {hk:Hook} {X:Nat->Prop}
mutual
inductive IdLt (V:D->List (PV D)) (m:Nat):PV D->Prop
  | undef:IdLt V m .undef
  | bool (b:Bool):IdLt V m (.bool b)
  | int (k:IntKind) (n:Int):IdLt V m (.int k n)
  | str (s:List UInt8):IdLt V m (.str s)
  | agg (l:List (PV D)) (h:IdLtL V m l):IdLt V m (.agg l)
  | aggI (k:IntKind) (l:List Int):IdLt V m (.aggI k l)
  | tup (l:List (PV D)) (h:IdLtL V m l):IdLt V m (.tup l)
  | nilp:IdLt V m .nilp
  | nils:IdLt V m .nils
  | nilf:IdLt V m .nilf
  | nili:IdLt V m .nili
  | lptr (i off:Nat) (h:i<m):IdLt V m (.lptr i off)
  | lelt (i:Nat) (ix:Int) (h:i<m):IdLt V m (.lelt i ix)
  | lsl (i:Nat) (h:i<m):IdLt V m (.lsl i)
  | fsl (esz n:Nat) (f:Nat->PV D) (h:∀ i,i<n->IdLt1 V m (f i)):IdLt V m (.fsl esz n f)
  | fptr (v:PV D) (h:IdLt1 V m v):IdLt V m (.fptr v)
  | dat (d:D) (h:IdLtL V m (V d)):IdLt V m (.dat d)
  | fn (f:FuncId) (a b:List (PV D)) (h1:IdLtL V m a) (h2:IdLtL V m b):IdLt V m (.fn f a b)
  | opt1 (C:Ch) (v:PV D) (h:IdLt V m v):IdLt V m (.opt C true v)
  | opt0 (C:Ch) (v:PV D):IdLt V m (.opt C false v)
  | nx (b:Bool) (p c:Int):IdLt V m (.nx b p c)
  | celt (i:Nat) (ix:Int) (n:Nat) (h:i<m):IdLt V m (.celt i ix n)
  | sel (l:List (PV D)) (ix:Int) (v:PV D) (hl:l[ix.toNat]? = some v) (h:IdLt V m v):IdLt V m (.sel l ix)
inductive IdLtL (V:D->List (PV D)) (m:Nat):List (PV D)->Prop
  | nil:IdLtL V m []
  | cons (a:PV D) (l:List (PV D)) (h:IdLt V m a) (t:IdLtL V m l):IdLtL V m (a::l)
inductive IdLt1 (V:D->List (PV D)) (m:Nat):PV D->Prop
  | one (v:PV D) (h:IdLt V m v):IdLt1 V m v
  | agg (l:List (PV D)) (h:IdLtL V m l):IdLt1 V m (.agg l)
  | dat (d:D) (h:IdLtL V m (V d)):IdLt1 V m (.dat d)
end
variable {μ μ':Mu} {H:Hp} {M M':Nat->Prop} {m:Nat}
theorem Rep.ids {v:PV D}{x:Value}(h:Rep V μ H M v x)(hm:∀ i q, μ i=some q->i<m):IdLt V m v:=by
  refine Rep.rec (motive_1:=fun v _ _=>IdLt V m v) (motive_2:=fun l _ _=>IdLtL V m l) (motive_3:=fun _ v _ _=>IdLt1 V m v) ?_ ?_ ?_ ?_ ?_ ?_ ?_ ?_ ?_ ?_ ?_ ?_ ?_ ?_ ?_ ?_ ?_ ?_ ?_ ?_ ?_ ?_ ?_ ?_ ?_ ?_ ?_ ?_ ?_ ?_ ?_ h
  . exact fun _=> .undef
  . exact fun b=> .bool b
  . exact fun k n=> .int k n
  . exact fun b=> .str _
  . exact fun l a _ h=> .agg l h
  . exact fun k l a h=> .aggI k l
  . exact fun l a _ h=> .tup l h
  . exact .nilp
  . exact .nils
  . exact .nilf
  . exact .nili
  . exact fun i off x len h=> .lptr i off (hm _ _ h)
  . exact fun i ix x len h _ _=> .lelt i ix (hm _ _ h)
  . exact fun i x len c h _=> .lsl i (hm _ _ h)
  . exact fun i h=> .lsl i (hm _ _ h)
  . exact fun esz f=> .fsl esz 0 f (fun i hi=>absurd hi (Nat.not_lt_zero i))
  . exact fun esz n f x off c l e _ _ _ _ ih=> .fsl esz n f ih
  . exact fun esz v x off l e _ _ _ _ ih=> .fptr v ih
  . exact fun d a _ h=> .dat d h
  . exact fun f a b x y _ _ h1 h2=> .fn f a b h1 h2
  . exact fun C v x _ h=> .opt1 C v h
  . exact fun C v=> .opt0 C v
  . exact fun p c=> .nx _ p c
  . exact fun p c=> .nx _ p c
  . exact fun i ix n x len h _ _=> .celt i ix n (hm _ _ h)
  . exact fun l ix v x _ hl _ h=> .sel l ix v hl h
  . exact .nil
  . exact fun a x l m _ _ h t=> .cons a l h t
  . exact fun v x _ h=> .one v h
  . exact fun n l m _ h=> .agg l h
  . exact fun n d m _ h=> .dat d h
theorem Rep1.split {n:Nat}{v:PV D}(h:IdLt1 V m v):(IdLt V m v)\/(∃ l,v = .agg l/\IdLtL V m l)\/(∃ d,v = .dat d/\IdLtL V m (V d)):=by
  cases h with
  | one _ h=>exact .inl h
  | agg l h=>exact .inr (.inl ⟨l,rfl,h⟩)
  | dat d h=>exact .inr (.inr ⟨d,rfl,h⟩)
theorem Rep.lower {v:PV D}{x:Value}(h:Rep V μ H M v x)(bN:∀ i q,i<m->μ i=some q->μ' i=some q)(hM:∀ y, ¬ M y->¬ M' y):IdLt V m v->Rep V μ' H M' v x:=by
  refine Rep.rec (motive_1:=fun v x _=>IdLt V m v->Rep V μ' H M' v x) (motive_2:=fun l y _=>IdLtL V m l->RepL V μ' H M' l y) (motive_3:=fun n v y _=>IdLt1 V m v->Rep1 V μ' H M' n v y) ?_ ?_ ?_ ?_ ?_ ?_ ?_ ?_ ?_ ?_ ?_ ?_ ?_ ?_ ?_ ?_ ?_ ?_ ?_ ?_ ?_ ?_ ?_ ?_ ?_ ?_ ?_ ?_ ?_ ?_ ?_ h
  . exact fun v _=> .undef v
  . exact fun b _=> .bool b
  . exact fun k n _=> .int k n
  . exact fun b _=> .str b
  . exact fun l a _ ih hi=> .agg l a (ih (by cases hi with | agg _ h=>exact h))
  . exact fun k l a h _=> .aggI k l a h
  . exact fun l a _ ih hi=> .tup l a (ih (by cases hi with | tup _ h=>exact h))
  . exact fun _=> .nilp
  . exact fun _=> .nils
  . exact fun _=> .nilf
  . exact fun _=> .nili
  . exact fun i off x len h hi=> .lptr i off x len (bN _ _ (by cases hi with | lptr _ _ h=>exact h) h)
  . exact fun i ix x len h h0 h1 hi=> .lelt i ix x len (bN _ _ (by cases hi with | lelt _ _ h=>exact h) h) h0 h1
  . exact fun i x len c h hc hi=> .lsl i x len c (bN _ _ (by cases hi with | lsl _ h=>exact h) h) hc
  . exact fun i h hi=> .lsln i (bN _ _ (by cases hi with | lsl _ h=>exact h) h)
  . exact fun esz f _=> .fsl0 esz f
  . exact fun esz n f x off c l e hx hg hl _ ih hi=> .fsl esz n f x off c l e (hM _ hx) hg hl fun i h=>ih i h (by cases hi with | fsl _ _ _ hh=>exact hh i h)
  . exact fun esz v x off l e hx hg hl _ ih hi=> .fptr esz v x off l e (hM _ hx) hg hl (ih (by cases hi with | fptr _ h=>exact h))
  . exact fun d a _ ih hi=> .dat d a (ih (by cases hi with | dat _ h=>exact h))
  . exact fun f a b x y _ _ i1 i2 hi=> .fn f a b x y (i1 (by cases hi with | fn _ _ _ h1 h2=>exact h1)) (i2 (by cases hi with | fn _ _ _ h1 h2=>exact h2))
  . exact fun C v x _ ih hi=> .opt1 C v x (ih (by cases hi with | opt1 _ _ h=>exact h))
  . exact fun C v _=> .opt0 C v
  . exact fun p c _=> .nx1 p c
  . exact fun p c _=> .nx0 p c
  . exact fun i ix n x len h h0 h1 hi=> .celt i ix n x len (bN _ _ (by cases hi with | celt _ _ _ h=>exact h) h) h0 h1
  . exact fun l ix v x h0 hl _ ih hi=> .sel l ix v x h0 hl (ih (by cases hi with | sel _ _ v' oh h'=>rw [hl] at oh;cases oh;exact h'))
  . exact fun _=> .nil
  . exact fun a x l m _ _ i1 i2 hi=> .cons a x l m (i1 (by cases hi with | cons _ _ h t=>exact h)) (i2 (by cases hi with | cons _ _ h t=>exact t))
  . exact fun v x _ ih hi => .one v x (ih (by
      cases hi with
      | one _ h=>exact h
      | agg l h=>exact .agg l h
      | dat d h=>exact .dat d h))
  . exact fun n l m _ ih hi => .agg n l m (ih (by
      cases hi with
      | one _ h=>cases h with | agg _ h=>exact h
      | agg _ h=>exact h))
  . exact fun n d m _ ih hi => .dat n d m (ih (by
      cases hi with
      | one _ h=>cases h with | dat _ h=>exact h
      | dat _ h=>exact h))
theorem RepL.ids {l:List (PV D)}{y:List Value}(h:RepL V μ H M l y)(hm:∀ i q, μ i=some q->i<m):IdLtL V m l:=by
  induction l generalizing y with
  | nil=>exact .nil
  | cons a l ih=>cases h with | cons _ x _ y h t=>exact .cons a l (h.ids hm) (ih t)
theorem RepL.lower {l:List (PV D)}{y:List Value}(h:RepL V μ H M l y)(bN:∀ i q,i<m->μ i=some q->μ' i=some q)(hM:∀ y, ¬ M y->¬ M' y)(hi:IdLtL V m l):RepL V μ' H M' l y:=by
  induction l generalizing y with
  | nil=>cases h;exact .nil
  | cons a l ih=>cases h with | cons _ x _ y h t=>cases hi with | cons _ _ i1 i2=>exact .cons a x l y (h.lower bN hM i1) (ih t i2)
theorem u5M {B B':Bt D}{l:List Nat}:∀ {m:Nat}, keptB B B' l m=true->∀ i,i<m->inN i l=false->∀ s b,bget B i=some (s,b)->∃ b',bget B' i=some (s,b')
  | 0,_,i,hi,_,_,_,_=>by omega
  | m+1,h,i,hi,hn,s,b,hb=>by
    have h:cond (cond (inN m l) true (match bget B m,bget B' m with | some (s,_),some (s',_)=>Nat.beq s s' | none,_=>true | _,none=>false)) (keptB B B' l m) false=true:=h
    obtain ⟨h1,h2⟩:=x0D h
    by_cases e:i=m
    . subst e;rw [hn,cond_false,hb] at h1;cases cz:bget B' i with
      | none=>rw [cz] at h1;cases h1
      | some q =>
        obtain ⟨s',b'⟩:=q;rw [cz] at h1;have:s=s':=x0U h1;exact ⟨b',by rw [this]⟩
    . exact u5M h2 i (by omega) hn s b hb
theorem z8J {B:Bt D}:∀ {l:List Nat} {i:Nat}, bget (u9V B l) i=if i∈l then none else bget B i
  | [],i=>by simp;rfl
  | j::l,i=>by
    show bget (bset (u9V B l) j none) i=_;rw [x1A,z8J]
    by_cases e:i=j
    . subst e;simp
    . simp [e]
theorem x6L {T:Tt D}:∀ {l:List Nat} {t:Nat}, pget (clrT T l) t=if t∈l then .undef else pget T t
  | [],t=>by simp;rfl
  | u::l,t=>by
    show pget (pset (clrT T l) u .undef) t=_;rw [x3W,x6L]
    by_cases e:t=u
    . subst e;simp
    . simp [e]
theorem inN_iff {x:Nat}:∀ {l:List Nat}, inN x l=true↔x∈l
  | []=>by simp [inN]
  | y::l=>by
    have e:inN x (y::l)=cond (Nat.beq y x) true (inN x l):=rfl;rw [e];cases hb:Nat.beq y x with
    | true=>have:=x0U hb;subst this;simp
    | false =>
      have ac:¬ x=y:=fun e=>by rw [e,Nat.beq_refl] at hb;cases hb
      simp [inN_iff,ac]
theorem v5E {v:PV D}(h:IdLt V m v):IdLt V m (keepC v):=by
  unfold keepC;split <;> first | exact h | exact .undef
theorem y8W {offs:List Nat}:∀ {l:List (PV D)} (j:Nat),IdLtL V m l->IdLtL V m (baseL offs l j)
  | [],_,_=> .nil
  | v::l,j,h=>by
    cases h with
    | cons _ _ h t =>
      refine .cons _ _ ?_ (y8W (j+1) t);cases inN j offs
      . exact v5E h
      . exact .undef
theorem z1A (p:Slot×LTy)(l:Hint):x4R (p::l)=(match p.1 with | .cell i _=>i::x4R l | .row i=>i::x4R l | _=>x4R l):=rfl
theorem y4W (x y:Nat)(l:List Nat):inN x (y::l)=cond (Nat.beq y x) true (inN x l):=rfl
theorem hintB_no {sl:Slot}{ty:LTy}{l:Hint}{i:Nat}(h1:inN i (x4R l)=false)(ac:∀ j,(sl = .row j\/∃ off,sl = .cell j off)->j≠i):inN i (x4R ((sl,ty)::l))=false:=by
  rw [z1A];cases sl with
  | tmp t=>exact h1
  | cell j off =>
    show inN i (j::x4R l)=false;rw [y4W,x0J (ac j (.inr ⟨off,rfl⟩))];exact h1
  | row j =>
    show inN i (j::x4R l)=false;rw [y4W,x0J (ac j (.inl rfl))];exact h1
theorem y8X {h:Hint}{B:Bt D}(hB:∀ i s l0,bget B i=some (s, .cells l0)->IdLtL V m l0):∀ {l:Hint} {i s:Nat} {b:Blk D}, bget (z4H h m l B) i=some (s,b) ->
    (inN i (x4R l)=false/\bget B i=some (s,b))\/(∃ lb off ty s0 b0,b = .cells lb/\s=m/\IdLtL V m lb/\(Slot.cell i off,ty)∈l/\bget B i=some (s0,b0))\/(∃ off ty,(Slot.cell i off,ty)∈l/\∀ l',b ≠ .cells l')
  | [],i,s,b,hb=> .inl ⟨rfl,hb⟩
  | p::l,i,s,b,hb=>by
    have hb:bget (baseS h m (z4H h m l B) p.1) i=some (s,b):=hb;obtain ⟨sl,ty⟩:=p;have lift:bget (z4H h m l B) i=some (s,b)->(∀ j,(sl = .row j\/∃ off,sl = .cell j off)->j≠i)->(inN i (x4R ((sl,ty)::l))=false/\bget B i=some (s,b))\/(∃ lb off ty' s0 b0,b = .cells lb/\s=m/\IdLtL V m lb/\(Slot.cell i off,ty')∈(sl,ty)::l/\bget B i=some (s0,b0))\/(∃ off ty',(Slot.cell i off,ty')∈(sl,ty)::l/\∀ l',b ≠ .cells l'):=fun hb ac=>by
      rcases y8X hB hb with ⟨h1,h2⟩ | ⟨lb,off,ty',s0,b0,h1,h2,h3,h4,h5⟩ | ⟨off,ty',h1,h2⟩
      . exact .inl ⟨hintB_no h1 ac,h2⟩
      . exact .inr (.inl ⟨lb,off,ty',s0,b0,h1,h2,h3,List.mem_cons_of_mem _ h4,h5⟩)
      . exact .inr (.inr ⟨off,ty',List.mem_cons_of_mem _ h1,h2⟩)
    cases sl with
    | tmp t=>exact lift hb fun j hj=>by rcases hj with hj | ⟨_,hj⟩ <;> cases hj
    | row j =>
      have hb:bget (bset (z4H h m l B) j none) i=some (s,b):=hb;rw [x1A] at hb;split at hb
      . cases hb
      . rename_i ac;exact lift hb fun k hk=>by
          rcases hk with hk | ⟨_,hk⟩ <;> cases hk
          exact fun e=>ac e.symm
    | cell j off =>
      have hb:bget (match bget (z4H h m l B) j with
        | some (_, .cells l')=>bset (z4H h m l B) j (some (m, .cells (baseL (u5R h j) l' 0)))
        | _=>z4H h m l B) i=some (s,b):=hb
      split at hb
      . rename_i s' l' hj;rw [x1A] at hb;split at hb
        . rename_i e;cases hb;subst e;rcases y8X hB hj with ⟨_,h2⟩ | ⟨lb,_,_,s0,b0,h1,_,h2,_,h3⟩ | ⟨_,_,_,h1⟩
          . exact .inr (.inl ⟨_,off,ty,_,_,rfl,rfl,y8W 0 (hB _ _ _ h2),List.mem_cons_self,h2⟩)
          . cases h1;exact .inr (.inl ⟨_,off,ty,_,_,rfl,rfl,y8W 0 h2,List.mem_cons_self,h3⟩)
          . exact absurd rfl (h1 _)
        . rename_i ac;exact lift hb fun k hk=>by
            rcases hk with hk | ⟨_,hk⟩ <;> cases hk
            exact fun e=>ac e.symm
      . rename_i aI
        by_cases e:j=i
        . subst e;cases b with
          | cells l'=>exact absurd hb (aI s l')
          | rowI e k r=>exact .inr (.inr ⟨off,ty,List.mem_cons_self,fun l hl=>by cases hl⟩)
          | iter u p=>exact .inr (.inr ⟨off,ty,List.mem_cons_self,fun l hl=>by cases hl⟩)
        . exact lift hb fun k hk => by
            rcases hk with hk | ⟨_,hk⟩ <;> cases hk
            exact e
theorem okC_rep {M1:Nat->Prop}{v w:PV D}{x:Value}(h:okC v w=true)(hw:Rep V μ H M w x)(hv:IdLt V m v)(bN:∀ i q,i<m->μ i=some q->μ' i=some q):Rep V μ' H M1 v x:=by
  unfold okC at h;split at h <;> first | (cases h;done) | skip
  . exact .undef _
  . rename_i i o j p;obtain ⟨h1,h2⟩:=x0D h;obtain rfl:=x0U h1;obtain rfl:=x0U h2;cases hw with
    | lptr _ _ x len hm=>cases hv with | lptr _ _ hi=>exact .lptr _ _ x len (bN _ _ hi hm)
  . cases hw;exact .nilp
  . cases hw;exact .nils
  . cases hw;exact .nilf
  . cases hw;exact .nili
theorem okL_cons (v w:PV D)(l m:List (PV D)):okL (v::l) (w::m)=cond (okC v w) (okL l m) false:=rfl
theorem v3E {M1:Nat->Prop}(bN:∀ i q,i<m->μ i=some q->μ' i=some q):∀ {l l1:List (PV D)} {y:List Value}, okL l l1=true->RepL V μ H M l1 y->IdLtL V m l->RepL V μ' H M1 l y
  | [],[],_,_, .nil,_=> .nil
  | [],_::_,_,h,_,_=>by cases h
  | _::_,[],_,h,_,_=>by cases h
  | v::l,w::l1,_,h, .cons _ x _ y hw ht, .cons _ _ hv hl=>by
    rw [okL_cons] at h;obtain ⟨h1,h2⟩:=x0D h;exact .cons _ _ _ _ (okC_rep h1 hw hv bN) (v3E bN h2 ht hl)
theorem y3Y (m:Nat)(B B':Bt D)(p:Slot×LTy)(h:Hint):y2X m B B' (p::h)=cond (match p.1 with
  | .cell i _=>match bget B i,bget B' i with
    | some (_, .cells l),some (_, .cells l')=>okL l l'
    | _,_=>false
  | .row i=>Nat.ble (Nat.succ i) m
  | .tmp _=>true) (y2X m B B' h) false:=rfl
theorem x8Z {m:Nat}{B B':Bt D}:∀ {h:Hint}, y2X m B B' h=true->∀ i off ty,(Slot.cell i off,ty)∈h->∃ s l s' l',bget B i=some (s, .cells l)/\bget B' i=some (s', .cells l')/\okL l l'=true
  | [],_,_,_,_,hm=>by cases hm
  | p::h,hc,i,off,ty,hm=>by
    rw [y3Y] at hc;obtain ⟨h1,h2⟩:=x0D hc;rcases List.mem_cons.1 hm with e | hm
    . subst e;have h1:(match bget B i,bget B' i with
        | some (_, .cells l),some (_, .cells l')=>okL l l'
        | _,_=>false)=true:=h1
      split at h1
      . rename_i s l s' l' e1 e2;exact ⟨s,l,s',l',e1,e2,h1⟩
      . cases h1
    . exact x8Z h2 i off ty hm
theorem y8E {m:Nat}{B B':Bt D}:∀ {h:Hint}, y2X m B B' h=true->∀ i ty,(Slot.row i,ty)∈h->i<m
  | [],_,_,_,hm=>by cases hm
  | p::h,hc,i,ty,hm=>by
    rw [y3Y] at hc;obtain ⟨h1,h2⟩:=x0D hc;rcases List.mem_cons.1 hm with e | hm
    . subst e;exact x1H h1
    . exact y8E h2 i ty hm
structure LS (V:D->List (PV D)) (X:Nat->Prop) (h:Hint) (asg:List Nat) (μ:Mu) (st:Y D) (T:Tm) (H:Hp) (n:Nat) (μ1:Mu) (st1:Y D) (T1:Tm) (H1:Hp) (n1:Nat):Prop where
  s0:SR V X μ st T H n
  s1:SR V X μ1 st1 T1 H1 n1
  gr:Gr μ st.B st.m H n μ1 st1.B st1.m H1 n1
  oth:∀ t,t∉asg->pget st1.T t=pget st.T t
  kept:keptB (x4D h asg st).B st1.B (x4R h) st.m=true
  cells:y2X st.m (x4D h asg st).B st1.B h=true
  nd:y3M (x5M h st1)=true
  dead:z4M (x4D h asg st).B (x4R h) (x5M h st1)=true
def muH (m:Nat)(μ1:Mu):Mu:=fun i=>if i<m then μ1 i else none
variable {h:Hint} {asg:List Nat} {st st1:Y D} {T T1:Tm} {H1:Hp} {n n1:Nat} {μ1:Mu}
theorem LS.mu (ls:LS V X h asg μ st T H n μ1 st1 T1 H1 n1){i:Nat}{q:Option Nat×Nat}(hi:i<st.m)(hq:μ1 i=some q):muH st.m μ1 i=some q:=by
  unfold muH;rw [if_pos hi];exact hq
theorem LS.live (ls:LS V X h asg μ st T H n μ1 st1 T1 H1 n1){i s:Nat}{b:Blk D}(hb:bget (x4D h asg st).B i=some (s,b)) :
    i<st.m/\((inN i (x4R h)=false/\bget st.B i=some (s,b)/\bget st1.B i=some (s,b))\/(∃ lb s1 l1,b = .cells lb/\s=st.m/\IdLtL V st.m lb/\bget st1.B i=some (s1, .cells l1)/\okL lb l1=true/\∃ off ty,(Slot.cell i off,ty)∈h)):=by
  have lY:bget (z4H h st.m h (u9V st.B (x5M h st))) i=some (s,b):=hb;have hd:∀ {i s b}, bget (u9V st.B (x5M h st)) i=some (s,b)->bget st.B i=some (s,b):=fun {i s b} hh=>by
    rw [z8J] at hh;split at hh
    . cases hh
    . exact hh
  have hB:∀ i s l0,bget (u9V st.B (x5M h st)) i=some (s, .cells l0)->IdLtL V st.m l0:=fun i s l0 hh=>by
    obtain ⟨x,len,xl,e,_,_,hr⟩:=ls.s0.hr.cells (hd hh);exact hr.ids ls.s0.hr.lm
  have cellc:∀ off ty,(Slot.cell i off,ty)∈h->∃ lb s1 l1,b = .cells lb/\bget st1.B i=some (s1, .cells l1)/\okL lb l1=true:=fun off ty hm=>by
    obtain ⟨s0,l,s',l',e1,e2,e3⟩:=x8Z ls.cells i off ty hm;rw [hb] at e1;cases e1;exact ⟨l,s',l',rfl,e2,e3⟩
  rcases y8X (V:=V) hB lY with ⟨h1,h2⟩ | ⟨lb,off,ty,s0,b0,rfl,rfl,h2,hm,h3⟩ | ⟨off,ty,h1,h2⟩
  . have h3:=hd h2;have hi:=ls.s0.hr.ids h3;obtain ⟨b',h4⟩:=u5M ls.kept i hi h1 s b hb;have hs:=(ls.s0.hr.blk i s b h3).1;have h5:=ls.gr.st i s b' h4 hs;rw [h3] at h5;cases h5;exact ⟨hi, .inl ⟨h1,h3,h4⟩⟩
  . obtain ⟨lb',s1,l1,e1,e2,e3⟩:=cellc off ty hm;cases e1;exact ⟨ls.s0.hr.ids (hd h3), .inr ⟨lb,s1,l1,rfl,rfl,h2,e2,e3,off,ty,hm⟩⟩
  . obtain ⟨lb',_,_,e1,_⟩:=cellc off ty h1;exact absurd e1 (h2 _)
theorem LS.live1 (ls:LS V X h asg μ st T H n μ1 st1 T1 H1 n1){i s:Nat}{b:Blk D}(hb:bget (x4D h asg st).B i=some (s,b)):∃ s' b',bget st1.B i=some (s',b'):=by
  rcases (ls.live hb).2 with ⟨_,_,h⟩ | ⟨_,_,_,_,_,_,h,_⟩
  . exact ⟨_,_,h⟩
  . exact ⟨_,_,h⟩
theorem MX_mono {B:Bt D}{v:PV D}{x:Value}(h:Rep V μ H M v x)(hM:∀ y, ¬ M y->¬ M' y):Rep V μ H M' v x:=h.keep ⟨fun _ _ h=>h,fun y o h1 h2=>⟨hM y h1,h2⟩⟩
theorem BlkR.mono {ox:Option Nat}{len:Nat}{b:Blk D}(h:BlkR V μ H M ox len b)(hM:∀ y, ¬ M y->¬ M' y):BlkR V μ H M' ox len b:=h.keep ⟨fun _ _ h=>h,fun y o h1 h2=>⟨hM y h1,h2⟩⟩ fun _ _=>rfl
structure InjI (V:D->List (PV D)) (X:Nat->Prop) (h:Hint) (asg:List Nat) (st:Y D) (μ1:Mu) (st1:Y D) (T1:Tm) (H1:Hp) (n1:Nat) (done:List Nat) (μc:Mu) (stc:Y D):Prop where
  blk:∀ i s b,bget stc.B i=some (s,b)->s<stc.m/\∃ ox len, μc i=some (ox,len)/\BlkR V μc H1 (MX X μ1 st1.B) ox len b
  inj:∀ i j s s' b b' x a c,bget stc.B i=some (s,b)->bget stc.B j=some (s',b')->μc i=some (some x,a)->μc j=some (some x,c)->i=j
  lm:∀ i q, μc i=some q->i<stc.m
  tr:∀ t,Rep V μc H1 (MX X μ1 st1.B) (pget stc.T t) (tget T1 t)
  old:∀ i,i<st.m->μc i=μ1 i
  src:∀ j s b,bget stc.B j=some (s,b)->(j<st.m/\(∃ s' b',bget st1.B j=some (s',b'))/\((∃ s b,bget (x4D h asg st).B j=some (s,b))\/inN j (x4R h)=true))\/(st.m <= j/\∀ x len, μc j=some (some x,len)->∃ sj s' b',sj∈done/\bget st1.B sj=some (s',b')/\μ1 sj=some (some x,len))
  stp:∀ i s b,bget stc.B i=some (s,b)->s<st.m->bget st.B i=some (s,b)/\bget st1.B i=some (s,b)
  mle:st.m<stc.m
  far:∀ i x len,st.m <= i->μc i=some (some x,len)->x<n1
  dn:∀ i,i∈done->inN i (x4R h)=false
theorem InjI.base (ls:LS V X h asg μ st T H n μ1 st1 T1 H1 n1):InjI V X h asg st μ1 st1 T1 H1 n1 [] (muH st.m μ1) (x4D h asg st):=by
  have mu:=fun i q (hi:i<st.m) (hq:μ1 i=some q)=>ls.mu hi hq;have un:∀ i q,muH st.m μ1 i=some q->i<st.m/\μ1 i=some q:=fun i q hq=>by
    unfold muH at hq;split at hq
    . rename_i hi;exact ⟨hi,hq⟩
    . cases hq
  refine ⟨fun i s b hb=>?_,fun i j s s' b b' x a c hi hj aS bo=>?_,fun i q hm=>?_,fun t=>?_,fun i hi=>if_pos hi,fun j s b hb=> .inl ⟨(ls.live hb).1,ls.live1 hb, .inl ⟨s,b,hb⟩⟩,fun i s b hb hs=>?_,Nat.lt_succ_self _,fun i x len hi hm=>by have:=(un _ _ hm).1;omega,fun i hi=>by cases hi⟩
  . obtain ⟨hi,hc⟩:=ls.live hb;rcases hc with ⟨hn,h1,h2⟩ | ⟨lb,s1,l1,rfl,rfl,eA,h2,aC,_⟩
    . have hs:=(ls.s0.hr.blk i s b h1).1;obtain ⟨_,ox,len,hm,aD⟩:=ls.s1.hr.blk i s b h2;refine ⟨by show s<st.m+1;omega,ox,len,mu _ _ hi hm, ?_⟩
      obtain ⟨_,_,_,_,sm⟩:=ls.s0.hr.blk i s b h1;cases aD with
      | cells x len l xl e hg hl =>
        have eA:IdLtL V st.m l:=by
          cases sm with
          | cells _ _ _ _ _ _ lw=>exact lw.ids ls.s0.hr.lm
        exact .cells x len l xl e hg (hl.lower mu (fun _ h=>h) eA)
      | rowI x e k l hg=>exact .rowI x e k l hg
      | rowN e k=>exact .rowN e k
      | iter x len u p hg=>exact .iter x len u p hg
    . obtain ⟨_,ox,len,hm,aD⟩:=ls.s1.hr.blk i s1 _ h2;refine ⟨by show st.m<st.m+1;omega,ox,len,mu _ _ hi hm, ?_⟩
      cases aD with
      | cells x len l xl e hg hl=>exact .cells x len lb xl e hg (v3E mu aC hl eA)
  . obtain ⟨s1,b1,h1⟩:=ls.live1 hi;obtain ⟨s2,b2,h2⟩:=ls.live1 hj;exact ls.s1.hr.inj i j s1 s2 b1 b2 x a c h1 h2 (un _ _ aS).2 (un _ _ bo).2
  . have:=(un _ _ hm).1;show i<st.m+1;omega
  . show Rep V _ H1 _ (pget (clrT st.T asg) t) (tget T1 t);rw [x6L];split
    . exact .undef _
    . rename_i ht;have h1:=ls.s1.tr t;rw [ls.oth t ht] at h1;exact h1.lower mu (fun _ h=>h) ((ls.s0.tr t).ids ls.s0.hr.lm)
  . rcases (ls.live hb).2 with ⟨_,h1,h2⟩ | ⟨_,_,_,_,h1,_⟩
    . exact ⟨h1,h2⟩
    . omega
variable {done:List Nat} {μc:Mu} {stc:Y D}
theorem InjI.real (ls:LS V X h asg μ st T H n μ1 st1 T1 H1 n1)(I:InjI V X h asg st μ1 st1 T1 H1 n1 done μc stc){j s:Nat}{b:Blk D}{x len:Nat}(hb:bget stc.B j=some (s,b))(hm:μc j=some (some x,len)):∃ sj s' b',bget st1.B sj=some (s',b')/\μ1 sj=some (some x,len)/\((j<st.m/\sj=j)\/(st.m <= j/\sj∈done)):=by
  rcases I.src j s b hb with ⟨h1,⟨s',b',h2⟩,_⟩ | ⟨h1,h2⟩
  . exact ⟨j,s',b',h2,by rw [<- I.old j h1];exact hm, .inl ⟨h1,rfl⟩⟩
  . obtain ⟨sj,s',b',h3,h4,h5⟩:=h2 x len hm;exact ⟨sj,s',b',h4,h5, .inr ⟨h1,h3⟩⟩
theorem InjI.sub (ls:LS V X h asg μ st T H n μ1 st1 T1 H1 n1)(I:InjI V X h asg st μ1 st1 T1 H1 n1 done μc stc)(y:Nat)(hy:¬ MX X μ1 st1.B y):¬ MX X μc stc.B y:=by
  rintro (hx | ⟨j,s,b,len,h1,h2⟩)
  . exact hy (.inl hx)
  . obtain ⟨sj,s',b',h3,h4,_⟩:=I.real ls h1 h2;exact hy (.inr ⟨sj,s',b',len,h3,h4⟩)
theorem InjI.fin (ls:LS V X h asg μ st T H n μ1 st1 T1 H1 n1)(I:InjI V X h asg st μ1 st1 T1 H1 n1 done μc stc):SR V X μc stc T1 H1 n1/\Gr μ st.B st.m H n μc stc.B stc.m H1 n1:=by
  refine ⟨⟨⟨fun i s b hb=>?_,I.inj,fun i s b x len hb hm=>?_,fun i x len hm=>?_,I.lm,ls.s1.hr.xlt,ls.s1.hr.fresh⟩,fun t=>MX_mono (B:=stc.B) (I.tr t) (I.sub ls)⟩,⟨ls.gr.le,by have:=I.mle;omega,fun i hi=>by rw [I.old i hi,ls.gr.mu i hi],ls.gr.frame,fun i s b hi hb=>?_,fun i s b x len hi hb hm=>?_,fun i s b hb hs=>(I.stp i s b hb hs).1,fun i s b x len hi hb hs hm=>ls.gr.kept i s b x len hi (I.stp i s b hb hs).2 hs hm⟩⟩
  . obtain ⟨h1,ox,len,h2,h3⟩:=I.blk i s b hb;exact ⟨h1,ox,len,h2,h3.mono (I.sub ls)⟩
  . obtain ⟨sj,s',b',h3,h4,_⟩:=I.real ls hb hm;exact ls.s1.hr.nx sj s' b' x len h3 h4
  . by_cases hi:i<st.m
    . rw [I.old i hi] at hm;exact ls.s1.hr.lt i x len hm
    . exact I.far i x len (by omega) hm
  . rcases I.src i s b hb with ⟨_,⟨s',b',h2⟩,_⟩ | ⟨h1,_⟩
    . exact ls.gr.live i s' b' hi h2
    . omega
  . obtain ⟨sj,s',b',h3,h4,h5⟩:=I.real ls hb hm
    by_cases tF:sj<st.m
    . obtain ⟨s2,b2,h6⟩:=ls.gr.live sj s' b' tF h3;exact .inr ⟨sj,s2,b2,len,h6,by rw [<- ls.gr.mu sj tF];exact h4⟩
    . exact ls.gr.new sj s' b' x len (by omega) h3 h4
def updO (μ:Mu)(m:Nat)(q:Option Nat×Nat):Mu:=fun j=>if j=m then some q else μ j
theorem InjI.value (ls:LS V X h asg μ st T H n μ1 st1 T1 H1 n1)(I:InjI V X h asg st μ1 st1 T1 H1 n1 done μc stc){ty:LTy}{pv:PV D}{xv:Value}{a:ty.ty}(aj:Rep V μ1 H1 (MX X μ1 st1.B) pv xv)(hx:extP ty st1.B pv=some a)
    (eA:∀ i1,y9Q ty pv=some i1->i1∉done/\bget (x4D h asg st).B i1=none/\inN i1 (x4R h)=false) :
    ∃ μ',InjI V X h asg st μ1 st1 T1 H1 n1 ((y9Q ty pv).toList++done) μ' (injV stc ty a).2/\Rep V μ' H1 (MX X μ1 st1.B) (injV stc ty a).1 xv/\(injV stc ty a).2.T=stc.T/\(∀ i,i<stc.m->bget (injV stc ty a).2.B i=bget stc.B i)/\stc.m <= (injV stc ty a).2.m:=by
  cases ty with
  | int k =>
    cases pv <;> first | (cases hx;done) | skip
    rename_i k' i;obtain ⟨h1,h2⟩:=x0B (show cond (ikeq k k') (some i) none=some a from hx)
    cases h2;obtain rfl:=x4W h1;exact ⟨μc,I,by rw [aj.int_of];exact .int _ _,rfl,fun _ _=>rfl,Nat.le_refl _⟩
  | bool =>
    cases pv <;> first | (cases hx;done) | skip
    cases hx;exact ⟨μc,I,by rw [aj.bool_of];exact .bool _,rfl,fun _ _=>rfl,Nat.le_refl _⟩
  | str =>
    cases pv <;> first | (cases hx;done) | skip
    cases hx;obtain ⟨b,rfl,rfl⟩:=aj.str_of;exact ⟨μc,I, .str _,rfl,fun _ _=>rfl,Nat.le_refl _⟩
  | iter=>cases pv <;> cases hx
  | rowI e k =>
    have lay:∀ (ox:Option Nat) (len:Nat) (l:List Int) (d:List Nat), BlkR V (updO μc stc.m (ox, len)) H1 (MX X μ1 st1.B) ox len (.rowI e k l) ->
        (∀ x,ox=some x->x<n1/\(∀ j s b c,bget stc.B j=some (s,b)->μc j≠some (some x,c))/\∃ sj s' b',sj∈d/\bget st1.B sj=some (s',b')/\μ1 sj=some (some x,len))->(∀ i,i∈d->inN i (x4R h)=false) ->
        InjI V X h asg st μ1 st1 T1 H1 n1 (d++done) (updO μc stc.m (ox,len)) ⟨stc.T,bset stc.B stc.m (some (stc.m, .rowI e k l)),Nat.succ stc.m⟩:=fun ox len l d hb ft lJ=>by
      have ey:(updO μc stc.m (ox,len)) stc.m=some (ox,len):=if_pos rfl;have dC:∀ i,i≠stc.m->(updO μc stc.m (ox,len)) i=μc i:=fun i hi=>if_neg hi;have kp:Keep μc H1 (MX X μ1 st1.B) (updO μc stc.m (ox,len)) H1 (MX X μ1 st1.B):=⟨fun i q hq=>by rw [dC i (by have:=I.lm i q hq;omega)];exact hq,fun _ _ h1 h2=>⟨h1,h2⟩⟩
      have get:∀ {i s c}, bget (bset stc.B stc.m (some (stc.m, .rowI e k l))) i=some (s,c)->(i=stc.m/\s=stc.m/\c = .rowI e k l)\/(i≠stc.m/\bget stc.B i=some (s,c)):=fun {i s c} hh=>by
        rw [x1A] at hh;split at hh
        . rename_i ee;cases hh;exact .inl ⟨ee,rfl,rfl⟩
        . rename_i ee;exact .inr ⟨ee,hh⟩
      refine ⟨fun i s b hh=>?_,fun i j s s' b b' x a c hi hj aS bo=>?_,fun i q hm=>?_,fun t=>(I.tr t).keep kp,fun i hi=>by rw [dC i (by have:=I.mle;omega)];exact I.old i hi,fun j s b hh=>?_,fun i s b hh hs=>?_,by have:=I.mle;show st.m<stc.m+1;omega,fun i x len' hi hm=>?_,fun i hi=>by
        rcases List.mem_append.1 hi with hi | hi
        . exact lJ i hi
        . exact I.dn i hi⟩
      . rcases get hh with ⟨rfl,rfl,rfl⟩ | ⟨ac,hh⟩
        . exact ⟨Nat.lt_succ_self _,ox,len,ey,hb⟩
        . obtain ⟨h1,ox',len',h2,h3⟩:=I.blk i s b hh;exact ⟨Nat.lt_succ_of_lt h1,ox',len',by rw [dC i ac];exact h2,h3.keep kp fun _ _=>rfl⟩
      . rcases get hi with ⟨rfl,_⟩ | ⟨ac,hi⟩ <;> rcases get hj with ⟨rfl,_⟩ | ⟨fc,hj⟩
        . rfl
        . rw [ey] at aS;cases aS;rw [dC j fc] at bo;exact absurd bo ((ft x rfl).2.1 j _ _ _ hj)
        . rw [ey] at bo;cases bo;rw [dC i ac] at aS;exact absurd aS ((ft x rfl).2.1 i _ _ _ hi)
        . rw [dC i ac] at aS;rw [dC j fc] at bo;exact I.inj i j s s' b b' x a c hi hj aS bo
      . by_cases ee:i=stc.m
        . subst ee;exact Nat.lt_succ_self _
        . rw [dC i ee] at hm;exact Nat.lt_succ_of_lt (I.lm i q hm)
      . rcases get hh with ⟨rfl,_⟩ | ⟨ac,hh⟩
        . refine .inr ⟨Nat.le_of_lt I.mle,fun x len' hm=>?_⟩;rw [ey] at hm;cases hm;obtain ⟨sj,s',b',q1,q2,q3⟩:=(ft x rfl).2.2;exact ⟨sj,s',b',List.mem_append_left _ q1,q2,q3⟩
        . rcases I.src j s b hh with q | ⟨q1,q2⟩
          . exact .inl q
          . refine .inr ⟨q1,fun x len' hm=>?_⟩;rw [dC j ac] at hm;obtain ⟨sj,s',b',q3,q4,q5⟩:=q2 x len' hm;exact ⟨sj,s',b',List.mem_append_right _ q3,q4,q5⟩
      . rcases get hh with ⟨_,rfl,_⟩ | ⟨ac,hh⟩
        . have:=I.mle;omega
        . exact I.stp i s b hh hs
      . by_cases ee:i=stc.m
        . subst ee;rw [ey] at hm;cases hm;exact (ft x rfl).1
        . rw [dC i ee] at hm;exact I.far i x len' hi hm
    have other:∀ l, ∀ i,i<stc.m->bget (bset stc.B stc.m (some (stc.m,Blk.rowI e k l))) i=bget stc.B i:=fun l i hi=>by rw [x1A,if_neg (by omega)]
    cases pv <;> first | (cases hx;done) | skip
    ·
      cases hx;have hl:=lay none 0 [] [] (.rowN e k) (fun x hx=>by cases hx) (fun i hi=>by cases hi)
      refine ⟨_,hl, ?_,rfl,other [],Nat.le_succ _⟩;cases aj;exact .lsln _ (if_pos rfl)
    . rename_i i1;have hx:(match bget st1.B i1 with
        | some (_, .rowI e' k' l)=>cond (cond (Nat.beq e e') (ikeq k k') false) (some l) none
        | _=>none)=some a:=hx
      split at hx
      . rename_i s1 e' k' l bB;obtain ⟨h1,h2⟩:=x0B hx;cases h2;obtain ⟨h3,h4⟩:=x0D h1;obtain rfl:=x0U h3;obtain rfl:=x4W h4;obtain ⟨q1,q2,q3⟩:=eA i1 rfl;obtain ⟨_,ox,len,hm,aD⟩:=ls.s1.hr.blk i1 s1 _ bB;have hl:=lay ox len a [i1] (by
          cases aD with
          | rowI x _ _ _ hg=>exact .rowI x e k a hg
          | rowN=>exact .rowN e k) (fun x hx=>by
            subst hx;refine ⟨ls.s1.hr.lt i1 x len hm,fun j s b c hj bo=>?_,i1,s1,_,List.mem_cons_self,bB,hm⟩;obtain ⟨sj,s',b',r1,r2,r3⟩:=I.real ls hj bo
            have:=ls.s1.hr.inj sj i1 s' s1 b' _ x c len r1 bB r2 hm
            subst this;rcases r3 with ⟨r3,r4⟩ | ⟨_,r4⟩
            . subst r4;rcases I.src _ s b hj with ⟨_,_,r5 | r5⟩ | ⟨r5,_⟩
              . obtain ⟨s2,b2,r5⟩:=r5;rw [q2] at r5;cases r5
              . rw [q3] at r5;cases r5
              . omega
            . exact q1 r4) (fun i hi=>by simp at hi;subst hi;exact q3)
        refine ⟨_,hl, ?_,rfl,other a,Nat.le_succ _⟩;cases aj with
        | lsl _ x len' c cF hc =>
          rw [hm] at cF;cases cF;exact .lsl _ x _ c (if_pos rfl) hc
        | lsln _ cF =>
          rw [hm] at cF;cases cF;exact .lsln _ (if_pos rfl)
      . cases hx
theorem z0C:∀ (l:List Value) (i:Nat) (v:Value),l[i]? = some v->x7N l i [v]=some l
  | [],i,v,h=>by simp at h
  | x::l, 0,v,h=>by simp at h;subst h;rfl
  | x::l,i+1,v,h=>by
    rw [x9G,z0C l i v (by simpa using h)]
theorem u5S:∀ {h:Hint} {i:Nat}, ((∃ off ty,(Slot.cell i off,ty)∈h)\/∃ ty,(Slot.row i,ty)∈h)->inN i (x4R h)=true
  | [],i,hm=>by rcases hm with ⟨_,_,hm⟩ | ⟨_,hm⟩ <;> cases hm
  | (sl,ty)::h,i,hm=>by
    rw [z1A];have lift:(∀ j off,sl = .cell j off->j≠i)->(∀ j,sl = .row j->j≠i)->inN i (x4R h)=true:=fun h1 h2=>by
      refine u5S ?_;rcases hm with ⟨off,ty',hm⟩ | ⟨ty',hm⟩
      . rcases List.mem_cons.1 hm with e | hm
        . cases e;exact absurd rfl (h1 i off rfl)
        . exact .inl ⟨off,ty',hm⟩
      . rcases List.mem_cons.1 hm with e | hm
        . cases e;exact absurd rfl (h2 i rfl)
        . exact .inr ⟨ty',hm⟩
    cases sl with
    | tmp t=>exact lift (fun _ _ e=>by cases e) (fun _ e=>by cases e)
    | cell j off =>
      show inN i (j::x4R h)=true;rw [y4W];cases hb:Nat.beq j i with
      | true=>rfl
      | false =>
        have ac:j≠i:=fun e=>by rw [e,Nat.beq_refl] at hb;cases hb
        exact lift (fun k o e=>by cases e;exact ac) (fun k e=>by cases e)
    | row j =>
      show inN i (j::x4R h)=true;rw [y4W];cases hb:Nat.beq j i with
      | true=>rfl
      | false =>
        have ac:j≠i:=fun e=>by rw [e,Nat.beq_refl] at hb;cases hb
        exact lift (fun k o e=>by cases e) (fun k e=>by cases e;exact ac)
theorem InjI.slot (ls:LS V X h asg μ st T H n μ1 st1 T1 H1 n1)(I:InjI V X h asg st μ1 st1 T1 H1 n1 done μc stc){sl:Slot}{ty:LTy}{a:ty.ty}(hm:(sl,ty)∈h)(hx:extS ty st1 sl=some a)
    (eA:∀ i1,y9Q ty (z2H st1 sl)=some i1->i1∉done/\bget (x4D h asg st).B i1=none/\inN i1 (x4R h)=false) :
    ∃ μ',InjI V X h asg st μ1 st1 T1 H1 n1 ((y9Q ty (z2H st1 sl)).toList++done) μ' (injS stc ty a sl)/\(∀ t,sl ≠ .tmp t->pget (injS stc ty a sl).T t=pget stc.T t)/\(∀ t C g v,sl = .tmp t->pget (injS stc ty a sl).T t ≠ .opt C g v):=by
  have noopt:∀ (C:Ch) (g:Bool) (v:PV D),(injV stc ty a).1 ≠ .opt C g v:=fun C g v=>by
    cases ty <;> simp [injV]
  cases sl with
  | tmp t =>
    obtain ⟨μ',J,hv,hT,_,_⟩:=I.value ls (ls.s1.tr t) hx eA;have e:injS stc ty a (.tmp t)=⟨pset (injV stc ty a).2.T t (injV stc ty a).1,(injV stc ty a).2.B,(injV stc ty a).2.m⟩:=rfl;refine ⟨μ',⟨J.blk,J.inj,J.lm,fun u=>?_,J.old,J.src,J.stp,J.mle,J.far,J.dn⟩,fun u hu=>?_,fun u C g v hu=>?_⟩
    . rw [e];show Rep V μ' H1 _ (pget (pset _ t _) u) _;rw [x3W];split
      . rename_i ee;subst ee;exact hv
      . exact J.tr u
    . rw [e];show pget (pset _ t _) u=_;rw [x3W,if_neg (fun ee=>hu (by rw [ee])),hT]
    . cases hu;rw [e];show pget (pset _ t _) t≠_;rw [x3W,if_pos rfl];exact noopt C g v
  | row i =>
    have hi:=y8E ls.cells i ty hm;have key:∀ (s1:Nat) (b1:Blk D), bget st1.B i=some (s1, b1)->injS stc ty a (.row i)=⟨stc.T, bset stc.B i (some (stc.m, b1)), Nat.succ stc.m⟩->y9Q ty (z2H st1 (.row i))=none->(∀ ox len, BlkR V μ1 H1 (MX X μ1 st1.B) ox len b1->BlkR V μc H1 (MX X μ1 st1.B) ox len b1) ->
        ∃ μ',InjI V X h asg st μ1 st1 T1 H1 n1 ((y9Q ty (z2H st1 (.row i))).toList++done) μ' (injS stc ty a (.row i))/\(∀ t,Slot.row i ≠ .tmp t->pget (injS stc ty a (.row i)).T t=pget stc.T t)/\(∀ t C g v,Slot.row i = .tmp t->pget (injS stc ty a (.row i)).T t ≠ .opt C g v):=fun s1 b1 bB he hr bI=>by
      obtain ⟨_,ox,len,aS,aD⟩:=ls.s1.hr.blk i s1 _ bB;have nW:μc i=some (ox,len):=by rw [I.old i hi];exact aS
      rw [he,hr];have get:∀ {j s c}, bget (bset stc.B i (some (stc.m,b1))) j=some (s,c)->(j=i/\s=stc.m/\c=b1)\/(j≠i/\bget stc.B j=some (s,c)):=fun {j s c} hh=>by
        rw [x1A] at hh;split at hh
        . rename_i ee;cases hh;exact .inl ⟨ee,rfl,rfl⟩
        . rename_i ee;exact .inr ⟨ee,hh⟩
      have rowN:inN i (x4R h)=true:=u5S (.inr ⟨_,hm⟩);have clash:∀ j s b x a' c,bget stc.B j=some (s,b)->j≠i->μc j=some (some x,a')->μc i=some (some x,c)->False:=fun j s b x a' c hj ac bo nV=>by
        obtain ⟨sj,s',b',r1,r2,r3⟩:=I.real ls hj bo;rw [I.old i hi] at nV
        have:=ls.s1.hr.inj sj i s' s1 b' _ x a' c r1 bB r2 nV
        subst this;rcases r3 with ⟨_,r4⟩ | ⟨_,r4⟩
        . exact ac r4.symm
        . rw [I.dn _ r4] at rowN;cases rowN
      refine ⟨μc,⟨fun j s b hh=>?_,fun j j' s s' b b' x a' c hj rK bo ij=>?_,fun j q hq=>Nat.lt_succ_of_lt (I.lm j q hq),I.tr,I.old,fun j s b hh=>?_,fun j s b hh hs=>?_,Nat.lt_succ_of_lt I.mle,I.far,I.dn⟩,fun _ _=>rfl,fun t C g v hu=>by cases hu⟩
      . rcases get hh with ⟨rfl,rfl,rfl⟩ | ⟨ac,hh⟩
        . refine ⟨Nat.lt_succ_self _,ox,len,nW, ?_⟩;exact bI _ _ aD
        . obtain ⟨q1,q2⟩:=I.blk j s b hh;exact ⟨Nat.lt_succ_of_lt q1,q2⟩
      . rcases get hj with ⟨q1,_⟩ | ⟨ac,cG⟩ <;> rcases get rK with ⟨q2,_⟩ | ⟨fc,ou⟩
        . rw [q1,q2]
        . exact (clash j' s' b' x c a' ou fc ij (q1▸bo)).elim
        . exact (clash j s b x a' c cG ac bo (q2▸ij)).elim
        . exact I.inj j j' s s' b b' x a' c cG ou bo ij
      . rcases get hh with ⟨rfl,_⟩ | ⟨ac,hh⟩
        . exact .inl ⟨hi,⟨s1,_,bB⟩, .inr rowN⟩
        . exact I.src j s b hh
      . rcases get hh with ⟨_,rfl,_⟩ | ⟨ac,hh⟩
        . have:=I.mle;omega
        . exact I.stp j s b hh hs
    cases ty <;> first | (cases hx;done) | skip
    . rename_i e k;have h2:(match (LTy.rowI e k), bget st1.B i with
          | .rowI e k,some (_, .rowI e' k' l)=>cond (cond (Nat.beq e e') (ikeq k k') false) (some l) none
          | .iter,some (_, .iter s p)=>some (s,p)
          | _,_=>none)=some a:=hx
      cases hb:bget st1.B i with
      | none=>rw [hb] at h2;cases h2
      | some q =>
        obtain ⟨s1,b1⟩:=q;rw [hb] at h2;cases b1 with
        | cells l=>cases h2
        | iter u p=>cases h2
        | rowI e' k' l =>
          obtain ⟨h1,h2⟩:=x0B (show cond (cond (Nat.beq e e') (ikeq k k') false) (some l) none=some a from h2)
          cases h2;obtain ⟨h3,h4⟩:=x0D h1;obtain rfl:=x0U h3;obtain rfl:=x4W h4;exact key s1 _ hb rfl rfl fun ox len aD=>by
            cases aD with
            | rowI x _ _ _ hg=>exact .rowI x e k a hg
            | rowN=>exact .rowN e k
    . have h2:(match LTy.iter, bget st1.B i with
          | .rowI e k,some (_, .rowI e' k' l)=>cond (cond (Nat.beq e e') (ikeq k k') false) (some l) none
          | .iter,some (_, .iter s p)=>some (s,p)
          | _,_=>none)=some a:=hx
      cases hb:bget st1.B i with
      | none=>rw [hb] at h2;cases h2
      | some q =>
        obtain ⟨s1,b1⟩:=q;rw [hb] at h2;cases b1 with
        | cells l=>cases h2
        | rowI e' k' l=>cases h2
        | iter u p =>
          cases h2;exact key s1 _ hb rfl rfl fun ox len aD=>by
            cases aD with
            | iter x len u p hg=>exact .iter x len u p hg
  | cell i off =>
    obtain ⟨s0,l0,s1,l1,lY,bB,aC⟩:=x8Z ls.cells i off ty hm;have hi:=(ls.live lY).1;obtain ⟨x,len,xl,e,aS,hg,pM⟩:=ls.s1.hr.cells bB;have jI:(match lget l1 off with | some v=>extP ty st1.B v | none=>none)=some a:=by
      have hx:(match bget st1.B i with | some (_, .cells l)=>(match lget l off with | some v=>extP ty st1.B v | none=>none) | _=>none)=some a:=hx
      rw [bB] at hx;exact hx
    cases hl:lget l1 off with
    | none=>rw [hl] at jI;cases jI
    | some pv =>
      rw [hl] at jI;have jN:z2H st1 (.cell i off)=pv:=by
        show (match bget st1.B i with | some (_, .cells l)=>(match lget l off with | some v=>v | none=> .undef) | _=> .undef)=pv
        rw [bB];show (match lget l1 off with | some v=>v | none=> .undef)=pv
        rw [hl]
      rw [jN] at eA |-
      obtain ⟨xv,qq,aj⟩:=z3C pM hl;obtain ⟨μ',J,hv,hT,hB,cF⟩:=I.value ls aj jI eA;have he:injS stc ty a (.cell i off)=(match bget (injV stc ty a).2.B i with
        | some (_, .cells l)=>match setP l off [(injV stc ty a).1] with
          | some l'=>⟨(injV stc ty a).2.T,bset (injV stc ty a).2.B i (some ((injV stc ty a).2.m, .cells l')),Nat.succ (injV stc ty a).2.m⟩
          | none=>(injV stc ty a).2
        | _=>(injV stc ty a).2):=rfl
      rw [he];split
      . rename_i sc lc cV;split
        . rename_i l' hset;refine ⟨μ', ?_,fun t _=>by rw [hT],fun t C g v hu=>by cases hu⟩
          obtain ⟨_,ox,len',nW,aD⟩:=J.blk i sc _ cV;have rz:=nW;rw [J.old i hi,aS] at nW;cases nW;have fb:BlkR V μ' H1 (MX X μ1 st1.B) (some x) len (.cells l'):=by
            cases aD with
            | cells _ _ _ xlc ec ue eL =>
              rw [hg] at ue;cases ue;obtain ⟨s2,q1,q2⟩:=y4G off hset eL (.cons _ _ _ _ hv .nil);rw [lget_eq] at qq;rw [z0C xl off xv qq] at q1;cases q1;exact .cells x len l' xl e hg q2
          generalize aN:(injV stc ty a).2=st2 at *;have get:∀ {j s c}, bget (bset st2.B i (some (st2.m, .cells l'))) j=some (s,c)->(j=i/\s=st2.m/\c = .cells l')\/(j≠i/\bget st2.B j=some (s,c)):=fun {j s c} hh=>by
            rw [x1A] at hh;split at hh
            . rename_i ee;cases hh;exact .inl ⟨ee,rfl,rfl⟩
            . rename_i ee;exact .inr ⟨ee,hh⟩
          have live2:∀ {j s c}, bget (bset st2.B i (some (st2.m, .cells l'))) j=some (s,c)->∃ s' c',bget st2.B j=some (s',c'):=fun {j s c} hh=>by
            rcases get hh with ⟨rfl,_⟩ | ⟨_,hh⟩
            . exact ⟨sc,_,cV⟩
            . exact ⟨s,c,hh⟩
          refine ⟨fun j s b hh=>?_,fun j j' s s' b b' y a' c hj rK bo ij=>?_,fun j q hq=>Nat.lt_succ_of_lt (J.lm j q hq),J.tr,J.old,fun j s b hh=>?_,fun j s b hh hs=>?_,Nat.lt_succ_of_lt J.mle,J.far,J.dn⟩
          . rcases get hh with ⟨rfl,rfl,rfl⟩ | ⟨ac,hh⟩
            . exact ⟨Nat.lt_succ_self _,some x,len,rz,fb⟩
            . obtain ⟨q1,q2⟩:=J.blk j s b hh;exact ⟨Nat.lt_succ_of_lt q1,q2⟩
          . obtain ⟨s2,c2,q1⟩:=live2 hj;obtain ⟨s3,c3,q2⟩:=live2 rK;exact J.inj j j' s2 s3 c2 c3 y a' c q1 q2 bo ij
          . obtain ⟨s2,c2,q1⟩:=live2 hh;exact J.src j s2 c2 q1
          . rcases get hh with ⟨_,rfl,_⟩ | ⟨ac,hh⟩
            . have:=J.mle;omega
            . exact J.stp j s b hh hs
        . exact ⟨μ',J,fun t _=>by rw [hT],fun t C g v hu=>by cases hu⟩
      . exact ⟨μ',J,fun t _=>by rw [hT],fun t C g v hu=>by cases hu⟩
def x6A (T:Tt D):Prop:= ∀ t C g v,pget T t ≠ .opt C g v
theorem u0B (p:Slot×LTy)(l:Hint)(st:Y D):x5M (p::l) st=(match y9Q p.2 (z2H st p.1) with | some i=>i::x5M l st | none=>x5M l st):=rfl
theorem z5T (p:Slot×LTy)(l:Hint)(st:Y D):x5M (p::l) st=(y9Q p.2 (z2H st p.1)).toList++x5M l st:=by
  rw [u0B];cases y9Q p.2 (z2H st p.1) <;> rfl
theorem u0P (i:Nat)(l:List Nat):y3M (i::l)=cond (inN i l) false (y3M l):=rfl
theorem u5D:∀ {l:List Nat}, y3M l=true->l.Nodup
  | [],_=>List.nodup_nil
  | i::l,h=>by
    rw [u0P] at h;cases hi:inN i l with
    | true=>rw [hi] at h;cases h
    | false =>
      rw [hi] at h;refine List.nodup_cons.2 ⟨fun hm=>?_,u5D h⟩;rw [inN_iff.2 hm] at hi;cases hi
theorem v6V {B:Bt D}{hb:List Nat}:∀ {l:List Nat}, z4M B hb l=true->∀ i,i∈l->bget B i=none/\inN i hb=false
  | [],_,_,hm=>by cases hm
  | j::l,h,i,hm=>by
    have h:cond (match bget B j with | some _=>false | none=> !(inN j hb)) (z4M B hb l) false=true:=h
    obtain ⟨h1,h2⟩:=x0D h;rcases List.mem_cons.1 hm with rfl | hm
    . cases cz:bget B i with
      | some q=>rw [cz] at h1;cases h1
      | none=>rw [cz] at h1;exact ⟨rfl,by simpa using h1⟩
    . exact v6V h2 i hm
theorem v6E (p:Slot×LTy)(l:Hint)(st:Y D){x:Tup (p::l)}(h:extL (p::l) st=some x):∃ (a:p.2.ty) (y:Tup l),extS p.2 st p.1=some a/\extL l st=some y/\∀ s:Y D,injL (p::l) x s=injL l y (injS s p.2 a p.1):=by
  cases l with
  | nil=>exact ⟨x,(),h,rfl,fun _=>rfl⟩
  | cons q r =>
    have h:(match extS p.2 st p.1,extL (q::r) st with | some a,some b=>some (a,b) | _,_=>none)=some x:=h
    split at h
    . rename_i a b e1 e2;cases h;exact ⟨a,b,e1,e2,fun _=>rfl⟩
    . cases h
theorem u8N (p:Slot×LTy)(l:Hint):x5F (p::l)=(match p.1 with | .tmp t=>t::x5F l | _=>x5F l):=rfl
theorem InjI.all (ls:LS V X h asg μ st T H n μ1 st1 T1 H1 n1):∀ {l:Hint} {x:Tup l} {done:List Nat} {μc:Mu} {stc:Y D}, (∀ p,p∈l->p∈h)->extL l st1=some x->(x5M l st1).Nodup->(∀ i,i∈x5M l st1->i∉done/\bget (x4D h asg st).B i=none/\inN i (x4R h)=false)->x6A stc.T ->
    InjI V X h asg st μ1 st1 T1 H1 n1 done μc stc->∃ done' μ',InjI V X h asg st μ1 st1 T1 H1 n1 done' μ' (injL l x stc)/\(∀ t,t∉x5F l->pget (injL l x stc).T t=pget stc.T t)/\x6A (injL l x stc).T
  | [],x,done, μc,stc,_,_,_,_,aI,I=>⟨done, μc,I,fun _ _=>rfl,aI⟩
  | p::l,x,done, μc,stc,br,hx,bM,hd,aI,I=>by
    obtain ⟨a,y,h1,h2,h3⟩:=v6E p l st1 hx;rw [z5T] at bM hd;obtain ⟨n1',n2,n3⟩:=List.nodup_append.1 bM;obtain ⟨μ',J,q1,q2⟩:=I.slot ls (br p (by simp)) h1 (fun i1 hi=>hd i1 (List.mem_append_left _ (by rw [hi];simp)))
    have kW:x6A (injS stc p.2 a p.1).T:=fun t C g v=>by
      by_cases e:p.1 = .tmp t
      . exact q2 t C g v e
      . rw [q1 t e];exact aI t C g v
    obtain ⟨done', μ2,K,k1,k2⟩:=InjI.all ls (fun q hq=>br q (by simp [hq])) h2 n2 (fun i hi=>by
      obtain ⟨d1,d2,d3⟩:=hd i (List.mem_append_right _ hi);refine ⟨fun hm=>?_,d2,d3⟩;rcases List.mem_append.1 hm with hm | hm
      . exact n3 i hm i hi rfl
      . exact d1 hm) kW J
    rw [h3];refine ⟨done', μ2,K,fun t ht=>?_,k2⟩;rw [u8N] at ht;have iI:t∉x5F l/\p.1 ≠ .tmp t:=by
      obtain ⟨sl,ty⟩:=p;cases sl with
      | tmp u =>
        have ht:t∉u::x5F l:=ht;simp at ht;exact ⟨ht.2,fun e=>by cases e;exact ht.1 rfl⟩
      | cell i off=>exact ⟨ht,fun e=>by cases e⟩
      | row i=>exact ⟨ht,fun e=>by cases e⟩
    rw [k1 t iI.1,q1 t iI.2]
theorem LS.head (ls:LS V X h asg μ st T H n μ1 st1 T1 H1 n1)(aI:x6A st.T){x:Tup h}(hx:extL h st1=some x) :
    ∃ μ',SR V X μ' (injL h x (x4D h asg st)) T1 H1 n1/\Gr μ st.B st.m H n μ' (injL h x (x4D h asg st)).B (injL h x (x4D h asg st)).m H1 n1/\x6A (injL h x (x4D h asg st)).T/\∀ t,t∉x5F h->t∉asg->pget (injL h x (x4D h asg st)).T t=pget st.T t:=by
  have hd:=v6V ls.dead;have bi:x6A (x4D h asg st).T:=fun t C g v=>by
    show pget (clrT st.T asg) t≠_;rw [x6L];split
    . simp
    . exact aI t C g v
  obtain ⟨done', μ',K,k1,k2⟩:=InjI.all ls (fun p hp=>hp) hx (u5D ls.nd) (fun i hi=>⟨by simp,hd i hi⟩) bi (InjI.base ls)
  obtain ⟨f1,f2⟩:=K.fin ls;refine ⟨μ',f1,f2,k2,fun t ht ha=>?_⟩;rw [k1 t ht];show pget (clrT st.T asg) t=_;rw [x6L,if_neg ha]
end
end Go.Yec
