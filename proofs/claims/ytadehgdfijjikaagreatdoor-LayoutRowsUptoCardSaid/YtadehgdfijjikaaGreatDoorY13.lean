/-
  THE PURE EXECUTOR: functions that turn blocks of their caller's, or Bo new ones back.;THE PURE EXECUTOR: functions that only read blocks of their caller's: a flat result.;THE PURE EXECUTOR: a call that is read where it stands: the callee's run on those of the caller's blocks that it can come to.;SHORT WORDS FOR THE PRINTED TEXTS: a function's code;a table's proof;arguments that are no options.
-/
import Derived.Test.YtadehgdfijjikaaGreatDoorY12
set_option linter.all false
namespace Go.Yec
open Go Go.Xec
variable [GT]
section
variable {D:Type} {V:D->List (PV D)} {P:Program} {hk:Hook} {tbl:Tbl D} {R:Type}
inductive Ren (V:D->List (PV D)) (σ:Nat->Nat->Prop) (νi νo:Nat->Prop):PV D->PV D->Prop
 |flat (v:PV D) (h:IdLt V 0 v):Ren V σ νi νo v v
 |lptr (i j o:Nat) (h:σ i j):Ren V σ νi νo (.lptr i o) (.lptr j o)
 |lsl (i j:Nat) (h:σ i j):Ren V σ νi νo (.lsl i) (.lsl j)
 |nin (i:Nat) (h:νi i):Ren V σ νi νo (.lsl i) .nils
 |nout (c:Nat) (h:νo c):Ren V σ νi νo .nils (.lsl c)
inductive RenL (V:D->List (PV D)) (σ:Nat->Nat->Prop) (νi νo:Nat->Prop):List (PV D)->List (PV D)->Prop
 |nil:RenL V σ νi νo [] []
 |cons (a b:PV D) (l m:List (PV D)) (h:Ren V σ νi νo a b) (t:RenL V σ νi νo l m):RenL V σ νi νo (a::l) (b::m)
inductive RenR (V:D->List (PV D)) (σ:Nat->Nat->Prop) (νi νo:Nat->Prop):PV D->PV D->Prop
 |one (a b:PV D) (h:Ren V σ νi νo a b):RenR V σ νi νo a b
 |agg (l m:List (PV D)) (h:RenL V σ νi νo l m):RenR V σ νi νo (.agg l) (.agg m)
 |tup (l m:List (PV D)) (h:RenL V σ νi νo l m):RenR V σ νi νo (.tup l) (.tup m)
inductive RenB (V:D->List (PV D)) (σ:Nat->Nat->Prop) (νi νo:Nat->Prop):Blk D->Blk D->Prop
 |cells (l m:List (PV D)) (h:RenL V σ νi νo l m):RenB V σ νi νo (.cells l) (.cells m)
 |rowI (e:Nat) (k:IntKind) (l:List Int):RenB V σ νi νo (.rowI e k l) (.rowI e k l)
variable {σ:Nat->Nat->Prop} {νi νo:Nat->Prop} {μ μ':Mu} {H:Hp} {M M':Nat->Prop}
theorem Rep.nil_of {i:Nat}{x:Value}(h:Rep V μ H M (.lsl i) x)(hm:μ i=some (none,0)):x=.slice none 0 0:=by{cases h with|lsl _ x len c h hc=>{rw[hm]at h;cases h}|lsln _ h=>rfl}
theorem Ren.out {v w:PV D}{x:Value}(h:Ren V σ νi νo v w)(hr:Rep V μ H M v x)(hσ:∀i j q,σ i j->μ i=some q->μ' j=some q)(hi:∀i,νi i->μ i=some (none,0))(ho:∀c,νo c->μ' c=some (none,0))(hM:∀y,¬M y->¬M' y):Rep V μ' H M' w x:=by{cases h with|flat _ h=>{exact hr.lower (m:=0) (fun i q hi _=>absurd hi (Nat.not_lt_zero i)) hM h}|lptr i j o h=>{cases hr with|lptr _ _ x len hm=>exact .lptr _ _ x len (hσ _ _ _ h hm)}|lsl i j h=>{cases hr with|lsl _ x len c hm hc=>{exact .lsl _ x len c (hσ _ _ _ h hm) hc}|lsln _ hm=>{exact .lsln _ (hσ _ _ _ h hm)}}|nin i h=>{rw[hr.nil_of (hi i h)];exact .nils}|nout c h=>{cases hr;exact .lsln _ (ho c h)}}
theorem RenL.out {l m:List (PV D)}(h:RenL V σ νi νo l m):∀{y:List Value},RepL V μ H M l y->(∀i j q,σ i j->μ i=some q->μ' j=some q)->(∀i,νi i->μ i=some (none,0))->(∀c,νo c->μ' c=some (none,0))->(∀y,¬M y->¬M' y)->RepL V μ' H M' m y:=by{induction h with|nil=>{intro y hr _ _ _ _;cases hr;exact .nil}|cons a b l m h t ih=>{intro y hr hσ hi ho hM;cases hr with|cons _ x _ y hx hy=>exact .cons _ _ _ _ (h.out hx hσ hi ho hM) (ih hy hσ hi ho hM)}}
theorem RenR.out {v w:PV D}{x:Value}(h:RenR V σ νi νo v w)(hr:Rep V μ H M v x)(hσ:∀i j q,σ i j->μ i=some q->μ' j=some q)(hi:∀i,νi i->μ i=some (none,0))(ho:∀c,νo c->μ' c=some (none,0))(hM:∀y,¬M y->¬M' y):Rep V μ' H M' w x:=by{cases h with|one _ _ h=>{exact h.out hr hσ hi ho hM}|agg l m h=>{cases hr with|agg _ a hl=>exact .agg _ a (h.out hl hσ hi ho hM)}|tup l m h=>{cases hr with|tup _ a hl=>exact .tup _ a (h.out hl hσ hi ho hM)}}
theorem RenB.out {b c:Blk D}{ox:Option Nat}{len:Nat}(h:RenB V σ νi νo b c)(hr:BlkR V μ H M ox len b)(hσ:∀i j q,σ i j->μ i=some q->μ' j=some q)(hi:∀i,νi i->μ i=some (none,0))(ho:∀c,νo c->μ' c=some (none,0))(hM:∀y,¬M y->¬M' y):BlkR V μ' H M' ox len c:=by{cases h with|cells l m h=>{cases hr with|cells x len _ xl e hg hl=>exact .cells x len m xl e hg (h.out hl hσ hi ho hM)}|rowI e k l=>{cases hr with|rowI x _ _ _ hg=>{exact .rowI x e k l hg}|rowN=>{exact .rowN e k}}}
end
variable [GT]
section
variable {D:Type} {V:D->List (PV D)} {P:Program} {hk:Hook} {tbl:Tbl D} {R:Type}
variable {B:Bt D} {i s e:Nat} {k:IntKind} {l:List Int} {o:Option Nat} {sl:PV D} {cs0 cs:List (PV D)}
end
variable [GT]
section
variable {D:Type} {V:D->List (PV D)} {P:Program} {hk:Hook} {tbl:Tbl D}
noncomputable def idsP (v:PV D):List Nat:=match v with|.lptr i _=>[i]|.lelt i _=>[i]|.lsl i=>[i]|_=>[]
noncomputable def idsL (l:List (PV D)):List Nat:=List.rec [] (fun v _ ih=>idsP v++ih) l
noncomputable def idsV (v:PV D):List Nat:=match v with|.agg l=>idsL l|.tup l=>idsL l|v=>idsP v
noncomputable def idsA (l:List (PV D)):List Nat:=List.rec [] (fun v _ ih=>idsV v++ih) l
noncomputable def idsB (B:Bt D)(i:Nat):List Nat:=match bget B i with|some (_,.cells l)=>idsL l|_=>[]
noncomputable def addN (l:List Nat)(acc:List Nat):List Nat:=List.rec acc (fun i _ ih=>cond (inN i ih) ih (i::ih)) l
noncomputable def moreB (B:Bt D)(l:List Nat):List Nat:=List.rec l (fun i _ ih=>addN (idsB B i) ih) l
noncomputable def u7V (args:List (PV D))(B:Bt D):List Nat:=moreB B (moreB B (moreB B (addN (idsA args) [])))
noncomputable def y2E (B:Bt D)(tc:List Nat):Bt D:=List.rec .leaf (fun i _ ih=>match bget B i with|some x=>bset ih i (some x)|none=>ih) tc
noncomputable def x8T (B B':Bt D)(tc:List Nat)(m:Nat):Bt D:=Nat.rec B' (fun i ih=>cond (inN i tc) ih (match bget B i with|some x=>bset ih i (some x)|none=>ih)) m
noncomputable def isOpt:PV D->Bool|.opt _ _ _=>true|_=>false
noncomputable def u5E (l:List (PV D)):Bool:=List.rec true (fun v _ ih=>cond (isOpt v) false ih) l
noncomputable def newN (m:Nat)(l:List Nat):List Nat->List Nat:=List.rec (fun acc=>acc) (fun i _ ih acc=>ih (cond (cond (Nat.ble (Nat.succ i) m) true (inN i acc)) acc (acc++[i]))) l
noncomputable def y8S (B:Bt D)(l:List Nat):List Nat:=List.rec [] (fun i _ ih=>idsB B i++ih) l
noncomputable def newL (m:Nat)(v:PV D)(B:Bt D)(tc:List Nat):List Nat:=newN m (y8S B (newN m (y8S B (newN m (idsV v++y8S B tc) [])) (newN m (idsV v++y8S B tc) []))) (newN m (y8S B (newN m (idsV v++y8S B tc) [])) (newN m (idsV v++y8S B tc) []))
noncomputable def idxN (x:Nat)(l:List Nat):Nat->Option Nat:=List.rec (fun _=>none) (fun y _ ih k=>cond (Nat.beq x y) (some k) (ih (Nat.succ k))) l
noncomputable def renI (m:Nat)(L:List Nat)(i:Nat):Option Nat:=cond (Nat.ble (Nat.succ i) m) (some i) (idxN i L m)
noncomputable def ren1 (ρ:Nat->Option Nat):PV D->Option (PV D)|.undef=>some .undef|.bool b=>some (.bool b)|.int k n=>some (.int k n)|.str s=>some (.str s)|.aggI k l=>some (.aggI k l)|.nilp=>some .nilp|.nils=>some .nils|.nilf=>some .nilf|.nili=>some .nili|.lptr i o=>Option.casesOn (ρ i) none fun j=>some (.lptr j o)|.lsl i=>Option.casesOn (ρ i) none fun j=>some (.lsl j)|_=>none
noncomputable def renL (ρ:Nat->Option Nat)(l:List (PV D)):Option (List (PV D)):=List.rec (some []) (fun v _ ih=>Option.casesOn (ren1 ρ v) none fun w=>Option.casesOn ih none fun r=>some (w::r)) l
noncomputable def renV (ρ:Nat->Option Nat):PV D->Option (PV D)|.agg l=>Option.casesOn (renL ρ l) none fun r=>some (.agg r)|.tup l=>Option.casesOn (renL ρ l) none fun r=>some (.tup r)|v=>ren1 ρ v
noncomputable def renB (ρ:Nat->Option Nat):Blk D->Option (Blk D)|.cells l=>Option.casesOn (renL ρ l) none fun r=>some (.cells r)|b=>some b
noncomputable def z8V (ρ:Nat->Option Nat)(m:Nat)(B:Bt D)(tc:List Nat):Option (Bt D):=List.rec (some .leaf) (fun i _ ih=>Option.casesOn ih none fun T=>cond (Nat.ble (Nat.succ i) m) (match bget B i with|some (s,b)=>cond (Nat.ble (Nat.succ s) m) (some (bset T i (some (s,b)))) (Option.casesOn (renB ρ b) none fun b'=>some (bset T i (some (m,b'))))|none=>some T) (some T)) tc
noncomputable def z8W (ρ:Nat->Option Nat)(m:Nat)(B:Bt D)(L:List Nat):Nat->Bt D->Option (Bt D):=List.rec (fun _ T=>some T) (fun i _ ih k T=>match bget B i with|some (_,b)=>Option.casesOn (renB ρ b) none fun b'=>ih (Nat.succ k) (bset T k (some (m,b')))|none=>ih (Nat.succ k) T) L
noncomputable def allGe (m:Nat)(L:List Nat):Bool:=List.rec true (fun i _ ih=>cond (Nat.ble m i) ih false) L
noncomputable def canon {R:Type}(m:Nat)(tc:List Nat)(v:PV D)(B:Bt D)(L:List Nat)(K:PV D->Bt D->Nat->Option R):Option R:=cond (cond (y3M L) (allGe m L) false) (Option.casesOn (renV (renI m L) v) none fun v'=>Option.casesOn (z8V (renI m L) m B tc) none fun T=>Option.casesOn (z8W (renI m L) m B L m T) none fun B'=>K v' B' (Nat.succ (Nat.add m L.length))) none
noncomputable def inlC (tbl:Tbl D)(N:Nat)(yc:YC)(rs:List RV)(sz:Nat)(d:PV D)(args:List (PV D))(B:Bt D)(m:Nat):CallR D:=cond (cond (Nat.ble args.length sz) (u5E args) false) (.inl (u7V args B) d fun _ K=>fsem tbl N yc rs args (y2E B (u7V args B)) m fun v st=>canon m (u7V args B) v st.B (newL m v st.B (u7V args B)) fun v B' m'=>K v (x8T B B' (u7V args B) m) m') .bad
theorem u7E {m:Nat}:∀{L:List Nat},allGe m L=true->∀i,i∈L->m<=i|[],_,i,hi=>by cases hi|j::L,h,i,hi=>by{have h:cond (Nat.ble m j) (allGe m L) false=true:=h;obtain⟨h1,h2⟩:=x0D h;rcases List.mem_cons.1 hi with rfl|hi;·{exact x1H h1};·{exact u7E h2 i hi}}
theorem z0Q:∀{L:List Nat},y3M L=true->∀(s t i:Nat),L[s]? =some i->L[t]? =some i->s=t|[],_,s,t,i,h,_=>by simp at h|j::L,h,s,t,i,h1,h2=>by{have h:cond (inN j L) false (y3M L)=true:=h;cases hj:inN j L with|true=>{rw[hj]at h;cases h}|false=>{(rw[hj,cond_false]at h;have hn:j∉L:=fun hm=>by rw[inN_iff.2 hm]at hj;cases hj);cases s with|zero=>{cases t with|zero=>rfl|succ t=>{simp at h1 h2;subst h1;exact absurd (List.mem_of_getElem? h2) hn}}|succ s=>{cases t with|zero=>{simp at h1 h2;subst h2;exact absurd (List.mem_of_getElem? h1) hn}|succ t=>{simp at h1 h2;rw[z0Q h s t i h1 h2]}}}}
theorem v5T {x:Nat}:∀{L:List Nat} {k j:Nat},idxN x L k=some j->∃t,j=k+t/\L[t]? =some x|[],k,j,h=>by cases h|y::L,k,j,h=>by{have h:cond (Nat.beq x y) (some k) (idxN x L (Nat.succ k))=some j:=h;cases hb:Nat.beq x y with|true=>{rw[hb]at h;cases h;exact⟨0,rfl,by rw[Nat.eq_of_beq_eq_true hb];rfl⟩}|false=>{rw[hb,cond_false]at h;obtain⟨t,h1,h2⟩:=v5T h;exact⟨t+1,by omega,by simpa using h2⟩}}
def muR (μ:Mu)(m:Nat)(L:List Nat):Mu:=fun i=>if i<m then μ i else(L[i-m]?).bind μ
theorem renI_mu {μ:Mu}{m:Nat}{L:List Nat}{i j:Nat}(h:renI m L i=some j):muR μ m L j=μ i:=by{unfold renI at h;cases hb:Nat.ble (Nat.succ i) m with|true=>{rw[hb]at h;cases h;have:=x1H hb;unfold muR;rw[if_pos (by omega)]}|false=>{rw[hb,cond_false]at h;obtain⟨t,rfl,h2⟩:=v5T h;unfold muR;rw[if_neg (by omega),show m+t-m=t by omega,h2];rfl}}
variable {μ μ':Mu} {H H':Hp} {M M':Nat->Prop}
theorem Rep.ren {ρ:Nat->Option Nat}(hρ:∀i j,ρ i=some j->μ' j=μ i){v w:PV D}{x:Value}(h:Rep V μ H M v x)(hw:ren1 ρ v=some w):Rep V μ' H M' w x:=by{cases h with|undef v=>{cases hw;exact .undef _}|bool b=>{cases hw;exact .bool _}|int k n=>{cases hw;exact .int _ _}|str b=>{cases hw;exact .str _}|aggI k l a h=>{cases hw;exact .aggI _ _ _ h}|nilp=>{cases hw;exact .nilp}|nils=>{cases hw;exact .nils}|nilf=>{cases hw;exact .nilf}|nili=>{cases hw;exact .nili}|lptr i off x len h=>{cases hj:ρ i with|none=>{simp only[ren1,hj]at hw;cases hw}|some j=>{simp only[ren1,hj]at hw;cases hw;exact .lptr j off x len (by rw[hρ i j hj];exact h)}}|lsl i x len c h hc=>{cases hj:ρ i with|none=>{simp only[ren1,hj]at hw;cases hw}|some j=>{simp only[ren1,hj]at hw;cases hw;exact .lsl j x len c (by rw[hρ i j hj];exact h) hc}}|lsln i h=>{cases hj:ρ i with|none=>{simp only[ren1,hj]at hw;cases hw}|some j=>{simp only[ren1,hj]at hw;cases hw;exact .lsln j (by rw[hρ i j hj];exact h)}}|_=>{cases hw}}
theorem RepL.ren {ρ:Nat->Option Nat}(hρ:∀i j,ρ i=some j->μ' j=μ i):∀{l r:List (PV D)} {x:List Value},RepL V μ H M l x->renL ρ l=some r->RepL V μ' H M' r x|[],r,x,h,hw=>by cases h;cases hw;exact .nil|v::l,r,x,h,hw=>by{have hw:Option.casesOn (motive:=fun _=>Option (List (PV D))) (ren1 ρ v) none (fun w=>Option.casesOn (motive:=fun _=>Option (List (PV D))) (renL ρ l) none fun r=>some (w::r))=some r:=hw;cases h with|cons _ y _ z h t=>{cases h1:ren1 ρ v with|none=>{rw[h1]at hw;cases hw}|some w=>{rw[h1]at hw;cases h2:renL ρ l with|none=>{rw[h2]at hw;cases hw}|some q=>{rw[h2]at hw;cases hw;exact .cons _ _ _ _ (h.ren hρ h1) (RepL.ren hρ t h2)}}}}
theorem Rep.renV {ρ:Nat->Option Nat}(hρ:∀i j,ρ i=some j->μ' j=μ i){v w:PV D}{x:Value}(h:Rep V μ H M v x)(hw:Yec.renV ρ v=some w):Rep V μ' H M' w x:=by{unfold Yec.renV at hw;split at hw;·{rename_i l;cases h2:renL ρ l with|none=>{rw[h2]at hw;cases hw}|some q=>{rw[h2]at hw;cases hw;cases h with|agg _ a h=>{exact .agg _ _ (h.ren hρ h2)}}};·{rename_i l;cases h2:renL ρ l with|none=>{rw[h2]at hw;cases hw}|some q=>{rw[h2]at hw;cases hw;cases h with|tup _ a h=>{exact .tup _ _ (h.ren hρ h2)}}};·{exact h.ren hρ hw}}
theorem BlkR.renB {ρ:Nat->Option Nat}(hρ:∀i j,ρ i=some j->μ' j=μ i){ox:Option Nat}{len:Nat}{b c:Blk D}(h:BlkR V μ H M ox len b)(hw:Yec.renB ρ b=some c):BlkR V μ' H M' ox len c:=by{cases h with|cells x len l xl e h hl=>{have hw:Option.casesOn (motive:=fun _=>Option (Blk D)) (renL ρ l) none (fun r=>some (.cells r))=some c:=hw;cases h2:renL ρ l with|none=>{rw[h2]at hw;cases hw}|some q=>{rw[h2]at hw;cases hw;exact .cells x len q xl e h (hl.ren hρ h2)}}|rowI x e k l h=>{cases hw;exact .rowI x e k l h}|rowN e k=>{cases hw;exact .rowN e k}|iter x len s p h=>{cases hw;exact .iter x len s p h}}
theorem z1U {ρ:Nat->Option Nat}{m:Nat}{B:Bt D}:∀{tc:List Nat} {T:Bt D},z8V ρ m B tc=some T->∀i s b,bget T i=some (s,b)->i<m/\∃s0 b0,bget B i=some (s0,b0)/\((s0<m/\s=s0/\b=b0)\/(m<=s0/\s=m/\renB ρ b0=some b))|[],T,h,i,s,b,hb=>by cases h;cases hb|j::tc,T,h,i,s,b,hb=>by{have h:Option.casesOn (motive:=fun _=>Option (Bt D)) (z8V ρ m B tc) none (fun T=>cond (Nat.ble (Nat.succ j) m) (match bget B j with|some (s,b)=>cond (Nat.ble (Nat.succ s) m) (some (bset T j (some (s,b)))) (Option.casesOn (renB ρ b) none fun b'=>some (bset T j (some (m,b'))))|none=>some T) (some T))=some T:=h;cases h1:z8V ρ m B tc with|none=>{rw[h1]at h;cases h}|some T0=>{rw[h1]at h;have ih:=z1U h1 i s b;have h:cond (Nat.ble (Nat.succ j) m) (match bget B j with|some (s,b)=>cond (Nat.ble (Nat.succ s) m) (some (bset T0 j (some (s,b)))) (Option.casesOn (renB ρ b) none fun b'=>some (bset T0 j (some (m,b'))))|none=>some T0) (some T0)=some T:=h;cases ta:Nat.ble (Nat.succ j) m with|false=>{rw[ta]at h;cases h;exact ih hb}|true=>{rw[ta,cond_true]at h;have kx:=x1H ta;split at h;·{rename_i s1 b1 jE;cases jV:Nat.ble (Nat.succ s1) m with|true=>{rw[jV]at h;cases h;have:=x1H jV;rw[x1A]at hb;by_cases e:i=j;·{subst e;rw[if_pos rfl]at hb;cases hb;exact⟨kx,_,_,jE,.inl ⟨this,rfl,rfl⟩⟩};·{rw[if_neg e]at hb;exact ih hb}}|false=>{rw[jV,cond_false]at h;have cY:m<=s1:=by{apply Classical.byContradiction;intro hn;rw[Nat.ble_eq_true_of_le (by omega:Nat.succ s1<=m)]at jV;cases jV};cases h2:renB ρ b1 with|none=>{rw[h2]at h;cases h}|some b'=>{rw[h2]at h;cases h;rw[x1A]at hb;by_cases e:i=j;·{subst e;rw[if_pos rfl]at hb;cases hb;exact⟨kx,_,_,jE,.inr ⟨cY,rfl,h2⟩⟩};·{rw[if_neg e]at hb;exact ih hb}}}};·{cases h;exact ih hb}}}}
theorem y2Y {ρ:Nat->Option Nat}{m:Nat}{B:Bt D}:∀{L:List Nat} {k:Nat} {T T':Bt D},z8W ρ m B L k T=some T'->∀i s b,bget T' i=some (s,b)->bget T i=some (s,b)\/∃t j s0 b0,i=k+t/\L[t]? =some j/\bget B j=some (s0,b0)/\s=m/\renB ρ b0=some b|[],k,T,T',h,i,s,b,hb=>by cases h;exact .inl hb|j::L,k,T,T',h,i,s,b,hb=>by{have h:(match bget B j with|some (_,b)=>Option.casesOn (motive:=fun _=>Option (Bt D)) (renB ρ b) none fun b'=>z8W ρ m B L (Nat.succ k) (bset T k (some (m,b')))|none=>z8W ρ m B L (Nat.succ k) T)=some T':=h;split at h;·{rename_i s1 b1 jE;cases h2:renB ρ b1 with|none=>{rw[h2]at h;cases h}|some b'=>{rw[h2]at h;rcases y2Y h i s b hb with h3|⟨t,j',s0,b0,e1,e2,e3,e4,e5⟩;·{rw[x1A]at h3;by_cases e:i=k;·{subst e;rw[if_pos rfl]at h3;cases h3;exact .inr ⟨0,j,_,_,rfl,rfl,jE,rfl,h2⟩};·{rw[if_neg e]at h3;exact .inl h3}};·{exact .inr ⟨t+1,j',s0,b0,by omega,by simpa using e2,e3,e4,e5⟩}}};·{rcases y2Y h i s b hb with h3|⟨t,j',s0,b0,e1,e2,e3,e4,e5⟩;·{exact .inl h3};·{exact .inr ⟨t+1,j',s0,b0,by omega,by simpa using e2,e3,e4,e5⟩}}}
theorem canon_ok {X:Nat->Prop}{B0 B1:Bt D}{m m1 n n':Nat}{v:PV D}{xv:Value}{tc L:List Nat}(hr:HR V X μ B0 m H n)(h4:HR V X μ' B1 m1 H' n')(h5:Gr μ B0 m H n μ' B1 m1 H' n')(h6:Rep V μ' H' (MX X μ' B1) v xv)
    {R:Type} {K:PV D->Bt D->Nat->Option R} {r:R} (h:canon m tc v B1 L K=some r):
    ∃v2 B2 m2 μ2,HR V X μ2 B2 m2 H' n'/\Gr μ B0 m H n μ2 B2 m2 H' n'/\Rep V μ2 H' (MX X μ2 B2) v2 xv/\K v2 B2 m2=some r:=by
  unfold canon at h;obtain⟨hc,h⟩:=x0B h;obtain⟨cE,bu⟩:=x0D hc;have bu:=u7E bu;have cE:=z0Q cE;cases hv:renV (renI m L) v with
  |none=>rw[hv]at h;cases h
  |some v2=>
    rw[hv]at h;cases hO:z8V (renI m L) m B1 tc with
    |none=>simp only[hO]at h;cases h
    |some T=>
      simp only[hO]at h;cases hN:z8W (renI m L) m B1 L m T with
      |none=>simp only[hN]at h;cases h
      |some B2=>
        simp only[hN]at h;have bU:∀i j,renI m L i=some j->muR μ' m L j=μ' i:=fun i j=>renI_mu;have ch:∀i,i<m->muR μ' m L i=μ' i:=fun i hi=>by unfold muR;rw[if_pos hi]
        have ig:∀t j,L[t]? =some j->muR μ' m L (m+t)=μ' j:=fun t j ht=>by unfold muR;rw[if_neg (by omega),show m+t-m=t by omega,ht];rfl
        have get:∀{i s b},bget B2 i=some (s,b)->(i<m/\∃s0 b0,bget B1 i=some (s0,b0)/\((s0<m/\s=s0/\b=b0)\/(m<=s0/\s=m/\renB (renI m L) b0=some b)))\/(∃t j s0 b0,i=m+t/\L[t]? =some j/\bget B1 j=some (s0,b0)/\s=m/\renB (renI m L) b0=some b):=fun{i s b} hb=>by
          rcases y2Y hN i s b hb with h1|h1
          . exact .inl (z1U hO i s b h1)
          . exact .inr h1
        have src:∀{i s b},bget B2 i=some (s,b)->∃j s0 b0,bget B1 j=some (s0,b0)/\muR μ' m L i=μ' j/\((i<m/\j=i)\/(∃t,i=m+t/\L[t]? =some j)):=fun{i s b} hb=>by
          rcases get hb with⟨hi,s0,b0,h1,_⟩|⟨t,j,s0,b0,e1,e2,e3,_,_⟩
          . exact⟨i,s0,b0,h1,ch i hi,.inl ⟨hi,rfl⟩⟩
          . exact⟨j,s0,b0,e3,by rw[e1];exact ig t j e2,.inr ⟨t,e1,e2⟩⟩
        have By:∀y,MX X (muR μ' m L) B2 y->MX X μ' B1 y:=fun y hy=>by
          rcases hy with hx|⟨i,s,b,len,h1,h2⟩
          . exact .inl hx
          . obtain⟨j,s0,b0,h7,h8,_⟩:=src h1;exact .inr ⟨j,s0,b0,len,h7,by rw[<-h8];exact h2⟩
        have mS:∀{i s b},bget B2 i=some (s,b)->s<Nat.succ (Nat.add m L.length):=fun{i s b} hb=>by
          show s<m+L.length+1;rcases get hb with⟨hi,s0,b0,h1,⟨h2,rfl,_⟩|⟨_,rfl,_⟩⟩|⟨t,j,s0,b0,e1,e2,e3,rfl,_⟩<;>omega
        refine⟨v2,B2,_,muR μ' m L,⟨fun i s b hb=>⟨mS hb,?_⟩,fun i j s s' b b' x a c hi hj aT bB=>?_,fun i s b x len hb hm hx=>?_,fun i x len hm=>?_,fun i q hm=>?_,h4.xlt,h4.fresh⟩,⟨h5.le,by show m<=m+L.length+1;omega,fun i hi=>by rw[ch i hi];exact h5.mu i hi,h5.frame,fun i s b hi hb=>?_,fun i s b x len hi hb hm=>?_,fun i s b hb hs=>?_,fun i s b x len hi hb hs hm=>?_⟩,h6.renV bU hv,h⟩
        ·
          rcases get hb with⟨hi,s0,b0,h1,h2⟩|⟨t,j,s0,b0,e1,e2,e3,e4,e5⟩
          . obtain⟨_,ox,len,h7,h8⟩:=h4.blk i s0 b0 h1;refine⟨ox,len,by rw[ch i hi];exact h7,?_⟩
            rcases h2 with⟨h2,rfl,rfl⟩|⟨h2,rfl,h3⟩
            . have h9:=h5.st i s b h1 h2;obtain⟨_,ox',len',aQ,ce⟩:=hr.blk i s b h9;cases h8 with
              |cells x len l xl e dI gW=>
                refine .cells x len l xl e dI (gW.lower (m:=m) (fun k q hk hq=>by rw[ch k hk];exact hq) (fun y hy lg=>hy (By y lg)) ?_)
                cases ce with
                |cells _ _ _ _ _ _ ik=>exact ik.ids hr.lm
              |rowI x e k l h=>exact .rowI x e k l h
              |rowN e k=>exact .rowN e k
              |iter x len s p h=>exact .iter x len s p h
            . exact h8.renB bU h3
          . obtain⟨_,ox,len,h7,h8⟩:=h4.blk j s0 b0 e3;exact⟨ox,len,by rw[e1,ig t j e2];exact h7,h8.renB bU e5⟩
        . obtain⟨i',s0,b0,h1,h2,h3⟩:=src hi;obtain⟨j',s1,b1,h7,h8,h9⟩:=src hj;rw[h2]at aT;rw[h8]at bB
          have:=h4.inj i' j' s0 s1 b0 b1 x a c h1 h7 aT bB
          subst this;rcases h3 with⟨a1,a2⟩|⟨t,a1,a2⟩<;>rcases h9 with⟨c1,c2⟩|⟨u,c1,c2⟩
          . omega
          . have:=bu _ (List.mem_of_getElem? c2);omega
          . have:=bu _ (List.mem_of_getElem? a2);omega
          . have:=cE t u _ a2 c2;omega
        . obtain⟨j,s0,b0,h1,h2,_⟩:=src hb;exact h4.nx j s0 b0 x len h1 (by rw[<-h2];exact hm) hx
        . unfold muR at hm;split at hm
          . exact h4.lt i x len hm
          . cases hj:L[i-m]? with
            |none=>rw[hj]at hm;cases hm
            |some j=>rw[hj]at hm;exact h4.lt j x len hm
        . show i<m+L.length+1;unfold muR at hm;split at hm
          . omega
          . cases hj:L[i-m]? with
            |none=>rw[hj]at hm;cases hm
            |some j=>
              have:=(List.getElem?_eq_some_iff.1 hj).1
              omega
        . rcases get hb with⟨_,s0,b0,h1,_⟩|⟨t,j,s0,b0,e1,_⟩
          . exact h5.live i s0 b0 hi h1
          . omega
        . rcases get hb with⟨h0,_⟩|⟨t,j,s0,b0,e1,e2,e3,_,_⟩
          . omega
          . rw[e1,ig t j e2]at hm
            have:=bu _ (List.mem_of_getElem? e2)
            exact h5.new j s0 b0 x len this e3 hm
        . rcases get hb with⟨_,s0,b0,h1,⟨h2,rfl,rfl⟩|⟨_,rfl,_⟩⟩|⟨t,j,s0,b0,e1,e2,e3,rfl,_⟩
          . exact h5.st i s b h1 h2
          . omega
          . omega
        . rcases get hb with⟨_,s0,b0,h1,⟨h2,rfl,rfl⟩|⟨_,rfl,_⟩⟩|⟨t,j,s0,b0,e1,e2,e3,rfl,_⟩
          . exact h5.kept i s b x len hi h1 hs hm
          . omega
          . omega
theorem x8Q {B:Bt D}:∀{l:List Nat} {i:Nat},bget (y2E B l) i=if i∈l then bget B i else none|[],i=>by rw[if_neg (by simp)];rfl|j::l,i=>by{have e:y2E B (j::l)=(match bget B j with|some x=>bset (y2E B l) j (some x)|none=>y2E B l):=rfl;rw[e];by_cases kA:i=j;·{subst kA;rw[if_pos (by simp)];cases hb:bget B i with|none=>{simp only;rw[x8Q];split;·{exact hb};·{rfl}}|some x=>{simp only;rw[x1A,if_pos rfl]}};·{(have h1:(i∈j::l)↔i∈l:=by simp[kA]);have:(match bget B j with|some x=>bset (y2E B l) j (some x)|none=>y2E B l)=(match bget B j with|some x=>bset (y2E B l) j (some x)|none=>y2E B l):=rfl;cases hb:bget B j with|none=>{simp only;rw[x8Q];simp only[h1]}|some x=>{simp only;rw[x1A,if_neg kA,x8Q];simp only[h1]}}}
theorem x5H {B B':Bt D}{tc:List Nat}{i:Nat}:∀{m:Nat},bget (x8T B B' tc m) i=if i<m/\i∉tc/\(bget B i).isSome then bget B i else bget B' i|0=>by rw[if_neg (by omega)];rfl|m+1=>by{have e:x8T B B' tc (m+1)=cond (inN m tc) (x8T B B' tc m) (match bget B m with|some x=>bset (x8T B B' tc m) m (some x)|none=>x8T B B' tc m):=rfl;rw[e];by_cases oJ:i=m;·{subst oJ;cases hi:inN i tc with|true=>{rw[cond_true,x5H,if_neg (by omega),if_neg (fun h=>h.2.1 (inN_iff.1 hi))]}|false=>{(rw[cond_false];have hn:i∉tc:=fun h=>by rw[inN_iff.2 h]at hi;cases hi);cases hb:bget B i with|none=>{simp only;rw[x5H,if_neg (by omega)];simp}|some x=>{simp only;rw[x1A,if_pos rfl,if_pos ⟨by omega,hn,rfl⟩]}}};·{have h1:(i<m+1/\i∉tc/\(bget B i).isSome)↔(i<m/\i∉tc/\(bget B i).isSome):=by{constructor;·{rintro⟨a,b⟩;exact⟨by omega,b⟩};·{rintro⟨a,b⟩;exact⟨by omega,b⟩}};cases hi:inN m tc with|true=>{rw[cond_true,x5H];simp only[h1]}|false=>{rw[cond_false];cases hb:bget B m with|none=>{simp only;rw[x5H];simp only[h1]}|some x=>{simp only;rw[x1A,if_neg oJ,x5H];simp only[h1]}}}}
theorem z6R:∀{l:List (PV D)},u5E l=true->∀v,v∈l->∀C g w,v≠ .opt C g w|[],_,v,hv=>by cases hv|a::l,h,v,hv=>by{have h:cond (isOpt a) false (u5E l)=true:=h;cases ha:isOpt a with|true=>{rw[ha]at h;cases h}|false=>{rw[ha,cond_false]at h;rcases List.mem_cons.1 hv with rfl|hv;·{intro C g w e;subst e;cases ha};·{exact z6R h v hv}}}
theorem inlC_ok (hT:y1V P hk V tbl){N:Nat}{f:FuncId}{hs:List Hint}{yc:YC}{rs:List RV}{sz:Nat}(hc:v0H P f hs=some (yc,rs,sz))(af:∀xs,hk f xs=none)(d:PV D)(args:List (PV D))(B:Bt D)(m:Nat):x4V P hk V f args B m (inlC tbl N yc rs sz d args B m):=by{unfold inlC;cases gN:cond (Nat.ble args.length sz) (u5E args) false with|false=>{rw[cond_false];trivial}|true=>{rw[cond_true];obtain⟨c1,c2⟩:=x0D gN;have aq:=x1H c1;have aM:=z6R c2;intro R K r h X μ H n xs hr ha;generalize B4:u7V args B=tc at h|-;let eW:Nat->Prop:=fun y=>∃i s b len,bget B i=some (s,b)/\i∉tc/\μ i=some (some y,len);have g0:∀{i s b},bget (y2E B tc) i=some (s,b)->i∈tc/\bget B i=some (s,b):=fun{i s b} h=>by{rw[x8Q]at h;split at h;·{rename_i hi;exact⟨hi,h⟩};·{cases h}};(have g1:∀{i},i∈tc->bget (y2E B tc) i=bget B i:=fun{i} hi=>by rw[x8Q,if_pos hi]);have wT:MX (fun y=>X y\/eW y) μ (y2E B tc)=MX X μ B:=by{funext y;apply propext;constructor;·{rintro((hx|⟨i,s,b,len,h1,_,h3⟩)|⟨i,s,b,len,h1,h2⟩);·{exact .inl hx};·{exact .inr ⟨i,s,b,len,h1,h3⟩};·{exact .inr ⟨i,s,b,len,(g0 h1).2,h2⟩}};·{rintro(hx|⟨i,s,b,len,h1,h2⟩);·{exact .inl (.inl hx)};·{by_cases hi:i∈tc;·{exact .inr ⟨i,s,b,len,by rw[g1 hi];exact h1,h2⟩};·{exact .inl (.inr ⟨i,s,b,len,h1,hi,h2⟩)}}}};have fA:HR V (fun y=>X y\/eW y) μ (y2E B tc) m H n:=by{refine⟨fun i s b hb=>?_,fun i j s s' b b' x a c hi hj=>hr.inj i j s s' b b' x a c (g0 hi).2 (g0 hj).2,fun i s b x len hb hm hx=>?_,hr.lt,hr.lm,fun x hx=>?_,hr.fresh⟩;·{rw[wT];exact hr.blk i s b (g0 hb).2};·{obtain⟨h1,h2⟩:=g0 hb;rcases hx with hx|⟨j,s',b',len',h3,h4,h5⟩;·{exact hr.nx i s b x len h2 hm hx};·{have:=hr.inj i j s s' b b' x len len' h2 h3 hm h5;subst this;exact h4 h1}};·{rcases hx with hx|⟨j,s',b',len',h3,h4,h5⟩;·{exact hr.xlt x hx};·{exact hr.lt j x len' h5}}};obtain⟨v0,st0,xv,H',n',μ0,h3,jp,BU,BT,BS⟩:=v6A hT hc af aq aM fA (by rw[wT];exact ha) h;obtain⟨v,B1,m1,μ',h4,h5,h6,h7⟩:=canon_ok fA jp BU BT BS;have dead:∀i,i<m->i∉tc->bget B1 i=none:=fun i hi hn=>by{cases hb:bget B1 i with|none=>rfl|some q=>{obtain⟨s,b⟩:=q;obtain⟨s',b',h8⟩:=h5.live i s b hi hb;exact absurd (g0 h8).1 hn}};have mg:∀i,bget (x8T B B1 tc m) i=if i<m/\i∉tc then bget B i else bget B1 i:=fun i=>by{rw[x5H];by_cases h1:i<m/\i∉tc;·{rw[if_pos h1];cases hb:bget B i with|none=>{rw[if_neg (by simp),dead i h1.1 h1.2]}|some q=>{rw[if_pos ⟨h1.1,h1.2,rfl⟩]}};·{rw[if_neg h1,if_neg fun h=>h1 ⟨h.1,h.2.1⟩]}};have cs:∀{i s b},bget (x8T B B1 tc m) i=some (s,b)->(i<m/\i∉tc/\bget B i=some (s,b))\/(¬(i<m/\i∉tc)/\bget B1 i=some (s,b)):=fun{i s b} hb=>by{rw[mg]at hb;split at hb;·{rename_i h1;exact .inl ⟨h1.1,h1.2,hb⟩};·{rename_i h1;exact .inr ⟨h1,hb⟩}};have up:∀{i s b},bget B1 i=some (s,b)->bget (x8T B B1 tc m) i=some (s,b):=fun{i s b} hb=>by{rw[mg,if_neg fun h=>by rw[dead i h.1 h.2]at hb;cases hb];exact hb};have nU:MX (fun y=>X y\/eW y) μ' B1=MX X μ' (x8T B B1 tc m):=by{funext y;apply propext;constructor;·{rintro((hx|⟨i,s,b,len,h1,h2,h8⟩)|⟨i,s,b,len,h1,h2⟩);·{exact .inl hx};·{have hi:=hr.ids h1;exact .inr ⟨i,s,b,len,by rw[mg,if_pos ⟨hi,h2⟩];exact h1,by rw[h5.mu i hi];exact h8⟩};·{exact .inr ⟨i,s,b,len,up h1,h2⟩}};·{rintro(hx|⟨i,s,b,len,h1,h2⟩);·{exact .inl (.inl hx)};·{rcases cs h1 with⟨h8,h9,aQ⟩|⟨_,h8⟩;·{exact .inl (.inr ⟨i,s,b,len,aQ,h9,by rw[<-h5.mu i h8];exact h2⟩)};·{exact .inr ⟨i,s,b,len,h8,h2⟩}}}};have same:∀i s b x len,bget B i=some (s,b)->i∉tc->μ i=some (some x,len)->hget H' x=hget H x:=fun i s b x len hb hn hm=>h5.frame x (hr.lt i x len hm) fun j s' b' len' hj cP=>by{obtain⟨h8,h9⟩:=g0 hj;have:=hr.inj i j s s' b b' x len len' hb h9 hm cP;subst this;exact hn h8};have kp:=h5.keep fA;rw[wT,nU]at kp;refine⟨v,x8T B B1 tc m,m1,xv,H',n',μ',h3,⟨fun i s b hb=>?_,fun i j s s' b b' x a c hi hj aT bB=>?_,fun i s b x len hb hm hx=>?_,h4.lt,h4.lm,fun x hx=>h4.xlt x (.inl hx),h4.fresh⟩,⟨h5.le,h5.lem,h5.mu,fun x hx dA=>h5.frame x hx fun i s b len hb=>dA i s b len (g0 hb).2,fun i s b hi hb=>?_,fun i s b x len hi hb hm=>?_,fun i s b hb hs=>?_,fun i s b x len hi hb hs hm=>?_⟩,by rw[<-nU];exact h6,fun i s b x len hb hn hm=>same i s b x len hb (fun h=>by rw[inN_iff.2 h]at hn;cases hn) hm,fun i s b hb hn=>?_,h7⟩;·{rcases cs hb with⟨h8,h9,aQ⟩|⟨_,h8⟩;·{obtain⟨e1,ox,len,e2,e3⟩:=hr.blk i s b aQ;exact⟨Nat.lt_of_lt_of_le e1 h5.lem,ox,len,by rw[h5.mu i h8];exact e2,e3.keep kp fun y hy=>by subst hy;exact same i s b y len aQ h9 e2⟩};·{rw[<-nU];exact h4.blk i s b h8}};·{rcases cs hi with⟨h8,h9,aQ⟩|⟨_,h8⟩<;>rcases cs hj with⟨lW,BR,sJ⟩|⟨_,lW⟩;·{rw[h5.mu i h8]at aT;rw[h5.mu j lW]at bB;exact hr.inj i j s s' b b' x a c aQ sJ aT bB};·{rw[h5.mu i h8]at aT;exact(h4.nx j s' b' x c lW bB (.inr ⟨i,s,b,a,aQ,h9,aT⟩)).elim};·{rw[h5.mu j lW]at bB;exact(h4.nx i s b x a h8 aT (.inr ⟨j,s',b',c,sJ,BR,bB⟩)).elim};·{exact h4.inj i j s s' b b' x a c h8 lW aT bB}};·{rcases cs hb with⟨h8,h9,aQ⟩|⟨_,h8⟩;·{rw[h5.mu i h8]at hm;exact hr.nx i s b x len aQ hm hx};·{exact h4.nx i s b x len h8 hm (.inl hx)}};·{rcases cs hb with⟨h8,h9,aQ⟩|⟨_,h8⟩;·{exact⟨s,b,aQ⟩};·{obtain⟨s',b',e⟩:=h5.live i s b hi h8;exact⟨s',b',(g0 e).2⟩}};·{rcases cs hb with⟨h8,h9,aQ⟩|⟨_,h8⟩;·{omega};·{rcases h5.new i s b x len hi h8 hm with e|⟨j,s',b',c,e1,e2⟩;·{exact .inl e};·{exact .inr ⟨j,s',b',c,(g0 e1).2,e2⟩}}};·{rcases cs hb with⟨h8,h9,aQ⟩|⟨_,h8⟩;·{exact aQ};·{exact(g0 (h5.st i s b h8 hs)).2}};·{rcases cs hb with⟨h8,h9,aQ⟩|⟨_,h8⟩;·{exact same i s b x len aQ h9 hm};·{exact h5.kept i s b x len hi h8 hs hm}};·{(have jy:i∉tc:=fun h=>by rw[inN_iff.2 h]at hn;cases hn);rw[mg,if_pos ⟨hr.ids hb,jy⟩];exact hb}}}
end
open Go.Proofs
noncomputable def ycOf (P:Program)(f:FuncId)(h:List Hint):YC:=match v0H P f h with|some x=>x.1|none=>.skip
section
variable {D:Type} {V:D->List (PV D)} {P:Program} {hk:Hook}
theorem tok0:∀e,e∈([]:List (Nat×(List (PV D)->Bt D->Nat->CallR D)))->∀args B m,x4V P hk V e.1 args B m (e.2 args B m):=fun e he=>by cases he
theorem tok1 {e:Nat×(List (PV D)->Bt D->Nat->CallR D)}{l}(h:∀args B m,x4V P hk V e.1 args B m (e.2 args B m))(hl:∀e,e∈l->∀args B m,x4V P hk V e.1 args B m (e.2 args B m)):∀e',e'∈e::l->∀args B m,x4V P hk V e'.1 args B m (e'.2 args B m):=fun e' he args B m=>by{rcases List.mem_cons.1 he with rfl|he;·{exact h args B m};·{exact hl e' he args B m}}
def noOb:PV D->Bool|.opt .. =>false|_=>true
theorem noO {l:List (PV D)}(h:l.all noOb=true):∀v,v∈l->∀C g w,v≠ .opt C g w:=fun v hv C g w e=>by{subst e;exact absurd (List.all_eq_true.1 h _ hv) (by simp[noOb])}
def idO0:PV D->Bool|.undef=>true|.bool _=>true|.int _ _=>true|.str _=>true|.aggI _ _=>true|.nilp=>true|.nils=>true|.nilf=>true|.nili=>true|_=>false
def idO1:PV D->Bool|.agg l=>l.all idO0|.tup l=>l.all idO0|v=>idO0 v
def idO:PV D->Bool|.agg l=>l.all idO1|.tup l=>l.all idO1|v=>idO1 v
theorem z0Z {g:PV D->Bool}(hg:∀v,g v=true->IdLt V 0 v):∀{l:List (PV D)},l.all g=true->IdLtL V 0 l|[],_=>.nil|v::l,h=>by{rw[List.all_cons,Bool.and_eq_true]at h;exact .cons _ _ (hg v h.1) (z0Z hg h.2)}
theorem u1C (v:PV D)(h:idO0 v=true):IdLt V 0 v:=by{unfold idO0 at h;split at h<;>first|constructor|cases h}
theorem u1B (v:PV D)(h:idO1 v=true):IdLt V 0 v:=by{unfold idO1 at h;split at h;·{exact .agg _ (z0Z u1C h)};·{exact .tup _ (z0Z u1C h)};·{exact u1C _ h}}
theorem idO_ok (v:PV D)(h:idO v=true):IdLt V 0 v:=by{unfold idO at h;split at h;·{exact .agg _ (z0Z u1B h)};·{exact .tup _ (z0Z u1B h)};·{exact u1B _ h}}
end
section
variable {D:Type} {V:D->List (PV D)} {hk:Hook}
abbrev EOk (hk:Hook)(V:D->List (PV D))(f:Nat)(e:List (PV D)->Bt D->Nat->CallR D):Prop:=∀args B m,x4V Tryz.prog hk V f args B m (e args B m)
theorem eP {tbl:Tbl D}{N f:Nat}{hs:List Hint}{rs:List RV}{args:List (PV D)}{R:Type}{K:PV D->Y D->Option R}{F:Option R}{r:R}{out:PV D}{B:Bt D}{m:Nat}(af:HkS hk)(hT:y1V Tryz.prog hk V tbl){sz:Nat} (hc:v0H Tryz.prog f hs=some (ycOf Tryz.prog f hs,rs,sz)) (hf:y1G f=false) (hl:Nat.ble args.length sz=true) (aM:args.all noOb=true) (eW:args.all idO=true) (BE:fsem tbl N (ycOf Tryz.prog f hs) rs args .leaf 0 K=F) (hK:∀v st,K v st=some r->v=out) (ho:idO out=true) (h:F=some r):FunS Tryz.prog hk V f args B m [] out B m:=fun_pure hT hc (af.no f hf) (Nat.le_of_ble_eq_true hl) (noO aM) (z0Z idO_ok eW) (K:=K) (BE.trans h) hK (idO_ok _ ho) B m
theorem inlE {tbl:Tbl D}{N f:Nat}{hs:List Hint}{rs:List RV}{sz:Nat}{d:PV D}(af:HkS hk)(hT:y1V Tryz.prog hk V tbl)(hc:v0H Tryz.prog f hs=some (ycOf Tryz.prog f hs,rs,sz))(hf:y1G f=false)(args:List (PV D))(B:Bt D)(m:Nat):x4V Tryz.prog hk V f args B m (inlC tbl N (ycOf Tryz.prog f hs) rs sz d args B m):=inlC_ok hT hc (af.no f hf) d args B m
theorem y2Q {f:Nat}{e:List (PV D)->Bt D->Nat->CallR D}(h:EOk hk V f e){args:List (PV D)}{B:Bt D}{m:Nat}{R:Type}{o:Option R}{d r:R}{g:R->PV D}(he:e args B m=.opt R o d g)(ho:o=some r):FunS Tryz.prog hk V f args B m [] (g r) B m:=by{have:=h args B m;rw[he]at this;exact this r ho}
end
end Go.Yec
