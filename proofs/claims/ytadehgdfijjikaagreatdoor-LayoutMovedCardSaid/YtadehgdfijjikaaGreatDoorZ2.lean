/-
  PICTURES, PLAIN LEAN: a specification without repetitions: both programs' readings are one automaton.;PICTURES, PLAIN LEAN: the reference's reading of a specification is the same automaton.;PLAIN LEAN: loops by an invariant;bytes by their places;counting.;PICTURES, PLAIN LEAN: what a numeric specification is;pQ the reference reads one.;PICTURES, PLAIN LEAN: what drifts, by the reference.;PICTURES, PLAIN LEAN: roles, by the reference.
-/
import Derived.Test.YtadehgdfijjikaaGreatDoorZ1
import Derived.Test.YtadehgdfijjikaaGreatDoorG1
import Derived.Laws.RangeString
import Derived.Laws.RangeAny
set_option linter.all false
namespace Go.Yec
open Go
def lettersL:List UInt8:=[57, 86, 90, 42, 89, 84, 73, 82, 83, 43, 45, 36, 44, 46, 47, 66, 67, 68, 65, 88]
def upB (c:UInt8):UInt8:=if 97 <= c/\c <= 122 then c-32 else c
def putS (c:UInt8)(n:Int)(out:List UInt8):Option (List UInt8):=if lettersL.elem (upB c)=true/\(out.length:Int)+n <= 32 then some (out++List.replicate n.toNat (upB c)) else none
def repS (n:Int)(c:UInt8):Option Int:=if ci c<48\/57<ci c\/(n=0/\ci c=48)\/32<10*n+(ci c-48) then none else some (10*n+(ci c-48))
def mch:List UInt8->Int->Int->List UInt8->Option (List UInt8)
  | [],st,_,out=>if st=0/\out≠[] then some out else none
  | c::r,st,n,out =>
    if st=1 then (if c=41 then (if 0<n then mch r 2 n out else none) else (repS n c).bind fun n'=>mch r 1 n' out)
    else if st=2 then (putS c n out).bind fun o=>mch r 0 n o
    else if c=40 then mch r 1 0 out else (putS c 1 out).bind fun o=>mch r 0 n o
theorem x9L (c:UInt8)(r:List UInt8)(st n:Int)(out:List UInt8):mch (c::r) st n out=if st=1 then (if c=41 then (if 0<n then mch r 2 n out else none) else (repS n c).bind fun n'=>mch r 1 n' out)
    else if st=2 then (putS c n out).bind fun o=>mch r 0 n o
    else if c=40 then mch r 1 0 out else (putS c 1 out).bind fun o=>mch r 0 n o:=rfl
theorem z5S {s:List UInt8}{i:Nat}(h:i<s.length)(ha:(s.getD i 0).toNat<128):x5B s (i:Int)=sget s (i:Int)/\y2D s (i:Int)=((i+1:Nat):Int):=by
  have hs:i<(⟨s.toArray⟩:ByteArray).size:=by show i<s.toArray.size;simpa using h
  have hg:((⟨s.toArray⟩:ByteArray)[i]'hs)=s.getD i 0:=by
    show s.toArray[i]=_;rw [List.getD_eq_getElem?_getD,List.getElem?_eq_getElem h];simp
  have:=Go.decode_ascii ⟨s.toArray⟩ i hs (by rw [hg];exact ha)
  have e:Utf8.decode ⟨s.toArray⟩ ((i:Int)).toNat=((s.getD i 0).toNat, 1):=by rw [Int.toNat_natCast,this,hg]
  constructor
  . unfold x5B;rw [e];rfl
  . unfold y2D;rw [e,decide_eq_true (show (i:Int)<slen s by rw [x0Q];omega)]
    show (i:Int)+((1:Nat):Int)=_;omega
theorem z9W {s:List UInt8}{i:Nat}(h:i<s.length)(ha:128 <= (s.getD i 0).toNat):128 <= x5B s (i:Int):=by
  have hs:i<(⟨s.toArray⟩:ByteArray).size:=by show i<s.toArray.size;simpa using h
  have hg:((⟨s.toArray⟩:ByteArray)[i]'hs)=s.getD i 0:=by
    show s.toArray[i]=_;rw [List.getD_eq_getElem?_getD,List.getElem?_eq_getElem h];simp
  have:=(Go.decode_high ⟨s.toArray⟩ i hs (by rw [hg];exact ha)).1
  unfold x5B;rw [Int.toNat_natCast];omega
theorem y1H (l:List UInt8)(c:UInt8):Lib.indexByte l c<0↔l.elem c=false:=by
  induction l with
  | nil=>simp [Lib.indexByte]
  | cons b l ih =>
    have h1:=Lib.indexByte_ge l c;unfold Lib.indexByte
    by_cases hb:b=c
    . subst hb;simp
    . have cz:(b==c)=false:=by simpa using hb
      rw [cz];simp only [Bool.false_eq_true,if_false];have he:(b::l).elem c=l.elem c:=by
        simp;exact fun e=>absurd e.symm hb
      rw [he, <- ih]
      by_cases hm:Lib.indexByte l c=-1
      . simp [hm]
      . have:(Lib.indexByte l c==-1)=false:=by simpa using hm
        rw [this];simp only [Bool.false_eq_true,if_false];omega
theorem z3G (l:List UInt8)(c:UInt8):decide (hIx l (ci c)<0)=!(l.elem c):=by
  unfold hIx;rw [z2C];cases h:l.elem c with
  | false=>exact decide_eq_true ((y1H l c).2 h)
  | true =>
    refine decide_eq_false fun hn=>?_;rw [(y1H l c).1 hn] at h;cases h
theorem u1F (l:List UInt8)(c:UInt8):decide (0 <= hIx l (ci c))=l.elem c:=by
  have:=z3G l c
  cases h:l.elem c with
  | false =>
    rw [h] at this
    have:=of_decide_eq_true this
    exact decide_eq_false (by omega)
  | true =>
    rw [h] at this
    have:=of_decide_eq_false this
    exact decide_eq_true (by omega)
theorem z4K {R:Type}(n u:Int)(hn:n <= 1000)(k1:List Int->Option R):∀ (k N:Nat) (row:List Int) (i:Int), 0 <= i->i+k=n->k+1 <= N->row.length+k <= 1000 ->
    iter N (fun (again0:List Int×Int->Option R) (x0:List Int×Int)=>(cond (decide (x0.2<n)) (cond (apOk (List.length x0.1) ([u]:List Int)) (again0 ((x0.1++([u]:List Int)),(IntKind.wrap .i64 (x0.2+(1:Int))))) none) (k1 x0.1))) (row,i)=k1 (row++List.replicate k u)
  | 0,N,row,i,h0,h,hN,hl=>by
    obtain ⟨M,rfl,_⟩:=x7U hN;rw [x2G,decide_eq_false (by omega),cond_false]
    simp
  | k+1,N,row,i,h0,h,hN,hl=>by
    obtain ⟨M,rfl,hM⟩:=x7U hN;rw [x2G,decide_eq_true (by show i<n;omega),cond_true,z4L (by show row.length<_;omega),cond_true,w64 (by show _ <= i+1;omega) (by show i+1<_;omega)]
    rw [z4K n u hn k1 k M (row++[u]) (i+1) (by omega) (by omega) hM (by simp;omega)]
    simp [List.replicate_succ]
theorem upB_lo {c:UInt8}(h1:97 <= ci c)(h2:ci c <= 122):ci (upB c)=ci c-32:=by
  unfold ci at h1 h2 |-
  have h3:97 <= c:=by rw [UInt8.le_iff_toNat_le];show 97 <= c.toNat;omega
  have h4:c <= 122:=by rw [UInt8.le_iff_toNat_le];show c.toNat <= 122;omega
  unfold upB;rw [if_pos ⟨h3,h4⟩,UInt8.toNat_sub_of_le _ _ (by rw [UInt8.le_iff_toNat_le];show 32 <= c.toNat;omega)]
  show ((c.toNat-32:Nat):Int)=_;omega
theorem v1H {c:UInt8}(h:¬ (97 <= ci c/\ci c <= 122)):upB c=c:=by
  unfold ci at h;unfold upB;rw [if_neg];rintro ⟨h3,h4⟩;rw [UInt8.le_iff_toNat_le] at h3 h4;have h3:97 <= c.toNat:=h3;have h4:c.toNat <= 122:=h4;exact h ⟨by omega,by omega⟩
theorem y9Y (n:Nat)(u:UInt8):x0S (List.replicate n u)=List.replicate n (ci u):=by
  unfold x0S ci;rw [List.map_replicate]
theorem u4T {R:Type}{N:Nat}(hN:40 <= N){c:UInt8}(hc:ci c<128){n:Int}(h1:0 <= n)(h2:n <= 32){out:List UInt8}(ho:out.length <= 32)(k0:Option R)(k1:List Int->Option R) :
    z1W N (ci c) n (x0S out) k0 k1=match putS c n out with | some o=>k1 (x0S o) | none=>k0:=by
  have hL:([57, 86, 90, 42, 89, 84, 73, 82, 83, 43, 45, 36, 44, 46, 47, 66, 67, 68, 65, 88]:List UInt8)=lettersL:=rfl;have se:=x8X c;have fin:∀ u:UInt8,u=upB c->∀ b0:Bool,b0=false->(cond (cond (cond b0 true (!(lettersL.elem u))) true (decide ((32:Int)<(IntKind.wrap .i64 ((ilen (x0S out))+n))))) k0 (iter N (fun (again0:List Int×Int->Option (R)) (x0:List Int×Int)=>(cond (decide (x0.2<n)) (cond (apOk (List.length x0.1) ([ci u]:List Int)) (again0 ((x0.1++([ci u]:List Int)),(IntKind.wrap .i64 (x0.2+(1:Int))))) none) (k1 x0.1))) (x0S out,(0:Int))))=match putS c n out with | some o=>k1 (x0S o) | none=>k0:=by
    intro u hu b0 lY;subst lY;rw [x9M,x1P,w64 (by omega) (by omega),cond_false,z4K n (ci u) (by omega) k1 n.toNat N (x0S out) 0 (by omega) (by omega) (by omega) (by rw [x1P];omega)]
    unfold putS;rw [<- hu];cases he:lettersL.elem u with
    | false=>rw [if_neg (by simp)];rfl
    | true =>
      by_cases aV:(out.length:Int)+n <= 32
      . rw [if_pos ⟨rfl,aV⟩,decide_eq_false (by omega)]
        show k1 _=k1 (x0S (out++List.replicate n.toNat u));rw [z2D,y9Y]
      . rw [if_neg fun h=>aV h.2,decide_eq_true (by omega)];rfl
  unfold z1W;rw [hL]
  by_cases cj:97 <= ci c/\ci c <= 122
  . have e1:IntKind.wrap .u8 (IntKind.wrap .i32 (ci c-32))=ci (upB c):=by rw [upB_lo cj.1 cj.2,w32 (by omega) (by omega),w8 (by omega) (by omega)]
    rw [decide_eq_true cj.1,decide_eq_true cj.2,cond_true,cond_true,e1,z3G];exact fin (upB c) rfl _ (decide_eq_false (by rw [w32 (by omega) (by omega)];omega))
  . have e1:IntKind.wrap .u8 (ci c)=ci (upB c):=by rw [v1H cj,w8 (by omega) (by omega)]
    have e2:cond (decide ((97:Int) <= ci c)) (decide (ci c <= 122)) false=false:=by
      by_cases h:97 <= ci c
      . rw [decide_eq_true h,cond_true];exact decide_eq_false fun h'=>cj ⟨h,h'⟩
      . rw [decide_eq_false h];rfl
    rw [e2,cond_false,e1,z3G];exact fin (upB c) rfl _ (decide_eq_false (by omega))
theorem v8N (N:Nat){n:Int}(h1:0 <= n)(h2:n <= 32){c:UInt8}:∃ v b,u3P N n (ci c)=some (v,b)/\match repS n c with | none=>b=false | some n'=>v=n'/\b=true:=by
  have hc:=x8X c;have iB:=ci_lt c;unfold u3P repS
  by_cases h3:ci c<48
  . rw [decide_eq_true h3];exact ⟨_,_,rfl,by rw [if_pos (.inl h3)]⟩
  by_cases h4:57<ci c
  . rw [decide_eq_false h3,decide_eq_true h4];exact ⟨_,_,rfl,by rw [if_pos (.inr (.inl h4))]⟩
  rw [decide_eq_false h3,decide_eq_false h4]
  by_cases h5:n=0/\ci c=48
  . rw [decide_eq_true h5.1,decide_eq_true h5.2];exact ⟨_,_,rfl,by rw [if_pos (.inr (.inr (.inl h5)))]⟩
  . have e:cond (decide (n=0)) (decide (ci c=48)) false=false := by
      by_cases h:n=0
      . rw [decide_eq_true h,cond_true];exact decide_eq_false fun h'=>h5 ⟨h,h'⟩
      . rw [decide_eq_false h];rfl
    rw [e,w32 (by omega) (by omega),w64 (n:=ci c-48) (by omega) (by omega),w64 (n:= 10*n) (by omega) (by omega),w64 (by omega) (by omega)]
    refine ⟨_,_,rfl, ?_⟩
    by_cases h6:32<10*n+(ci c-48)
    . rw [if_pos (.inr (.inr (.inr h6)))];exact decide_eq_false (by omega)
    . rw [if_neg (by rintro (h | h | h | h) <;> first | exact h3 h | exact h4 h | exact h5 h | exact h6 h)];exact ⟨rfl,decide_eq_true (by omega)⟩
theorem u4U {c:UInt8}{n:Int}{out o:List UInt8}(h:putS c n out=some o)(hn:0 <= n):o.length <= 32:=by
  unfold putS at h;split at h
  . rename_i h1;cases h;simp;omega
  . cases h
theorem ci_40 (c:UInt8):decide (ci c=40)=decide (c=40):=by
  have:(ci c=40)↔(c=40):=ci_eq (d:= 40);simp only [this]
theorem ci_41 (c:UInt8):decide (ci c=41)=decide (c=41):=by
  have:(ci c=41)↔(c=41):=ci_eq (d:= 41);simp only [this]
theorem u5T {c:UInt8}(h:128 <= ci c)(n:Int)(out:List UInt8):putS c n out=none:=by
  unfold putS;rw [v1H (by omega),if_neg]
  rintro ⟨h1,_⟩;have h1:=List.elem_iff.1 h1;unfold ci at h;have:∀ x∈lettersL,x.toNat<128:=by decide
  have:=this c h1
  omega
theorem high_rep {c:UInt8}(h:128 <= ci c)(n:Int):repS n c=none:=by
  unfold repS;rw [if_pos (.inr (.inl (by omega)))]
theorem u1L {R:Type}{N:Nat}{s:List UInt8}(hl:s.length <= 1000)(hN:1100 <= N)(k0:List UInt8->Option R)(k1:List UInt8->Bool->Option R)(hk:∀ o,k1 o false=k0 []) :
    v8F N s k0 k1=match mch s 0 0 [] with | some o=>k1 o true | none=>k0 []:=by
  unfold v8F;refine scan0 (P:=Int×Int×List UInt8) (s:=s) (fun a i=>(x0S a.2.2,a.1,a.2.1,true,(s,(i:Int)))) (fun a i=>a.2.2.length <= 32/\(a.1=0\/a.1=1\/a.1=2)/\0 <= a.2.1/\a.2.1 <= 32)
    (fun a rest=>match mch rest a.1 a.2.1 a.2.2 with | some o=>k1 o true | none=>k0 []) ?_ ?_ (0, 0,[]) ⟨by simp, .inl rfl,by decide,by decide⟩ (by omega)
  . rintro again ⟨st,n,out⟩ ⟨ho,aN,eM,cY⟩;simp only;rw [decide_eq_false (by rw [x0Q];omega),cond_false,x7S,x9M,x1P]
    unfold mch;rcases aN with h | h | h
    . simp only at h;subst h;cases out with
      | nil=>simp [hk]
      | cons a l=>simp
    . simp only at h;subst h;simp [hk]
    . simp only at h;subst h;simp [hk]
  . rintro again ⟨st,n,out⟩ i c r ⟨ho,aN,eM,cY⟩ hd hi bm;simp only at ho aN eM cY |-;have hg:=(y3T hd).1;rw [decide_eq_true (show (i:Int)<slen s by rw [x0Q];omega),cond_true,cond_true]
    have se:=x8X c
    by_cases cj:ci c<128
    . obtain ⟨r1,r2⟩:=z5S hi (by rw [hg];unfold ci at cj;omega)
      have r3:sget s (i:Int)=ci c:=x8P hd;rw [r1,r2,r3,ci_40,ci_41];have ag:∀ st n out,out.length <= 32->(st=0\/st=1\/st=2)->0 <= n->n <= 32->again (x0S out,st,n,true,(s,((i+1:Nat):Int)))=match mch r st n out with | some o=>k1 o true | none=>k0 []:=fun st n out a1 a2 a3 a4=>bm (st,n,out) ⟨a1,a2,a3,a4⟩
      rcases aN with h | h | h
      . subst h;simp only [mch]
        by_cases dw:c=41
        . subst dw;simp [putS,upB,lettersL]
        . by_cases iG:c=40
          . subst iG;simp;exact ag 1 0 out ho (.inr (.inl rfl)) (by omega) (by omega)
          . simp [iG,dw];rw [u4T (by omega) cj (by omega) (by omega) ho]
            cases hp:putS c 1 out with
            | none=>rfl
            | some o=>exact ag 0 n o (u4U hp (by omega)) (.inl rfl) eM cY
      . subst h;simp only [mch]
        by_cases dw:c=41
        . subst dw
          by_cases hn:0<n
          . simp [hn];exact ag 2 n out ho (.inr (.inr rfl)) eM cY
          . simp [hn]
        . simp [dw];obtain ⟨v,b,e1,e2⟩:=v8N N eM cY (c:=c);rw [e1];simp only [Option.bind_some];cases hr:repS n c with
          | none=>rw [hr] at e2;subst e2;simp
          | some n' =>
            rw [hr] at e2;obtain ⟨rfl,rfl⟩:=e2;simp;refine ag 1 v out ho (.inr (.inl rfl)) ?_ ?_
            . unfold repS at hr;split at hr
              . cases hr
              . rename_i h;cases hr;omega
            . unfold repS at hr;split at hr
              . cases hr
              . rename_i h;cases hr;omega
      . subst h;simp only [mch]
        by_cases dw:c=41
        . subst dw;simp [putS,upB,lettersL]
        . by_cases iG:c=40
          . subst iG;simp [putS,upB,lettersL]
          . simp [iG,dw];rw [u4T (by omega) cj (by omega) (by omega) ho]
            cases hp:putS c n out with
            | none=>rfl
            | some o=>exact ag 0 n o (u4U hp (by omega)) (.inl rfl) eM cY
    . have hr:=z9W hi (by rw [hg];unfold ci at cj;omega)
      generalize x5B s (i:Int)=x at hr;have x1:¬ x=40:=by omega
      have x2:¬ x=41:=by omega
      have pf:∀ n,z1W N x n (x0S out) (k0 [])=fun _=>k0 []:=fun n=>by
        funext k;unfold z1W;rw [decide_eq_true (show 97 <= x by omega),decide_eq_false (show ¬ x <= 122 by omega)]
        simp only [cond_true,cond_false];rw [decide_eq_true hr];rfl
      have c40:¬ c=40:=fun e=>cj (by subst e;decide)
      have c41:¬ c=41:=fun e=>cj (by subst e;decide)
      rcases aN with h | h | h
      . subst h;simp [mch,x1,x2,c40,u5T (by omega:128 <= ci c),pf]
      . subst h;have:u3P N n x=some (0,false):=by
          unfold u3P;rw [decide_eq_false (show ¬ x<48 by omega),decide_eq_true (show 57<x by omega)]
          rfl
        simp [mch,x1,x2,c40,c41,high_rep (by omega:128 <= ci c),this]
      . subst h;simp [mch,x1,x2,c40,u5T (by omega:128 <= ci c),pf]
theorem Has_any (l:List UInt8)(c:Int)(N:Nat)(hN:l.length+1 <= N)(hl:l.length <= 1000000):x2L N l c=some (l.any fun b=>decide (ci b=c)):=by
  unfold x2L;refine scan0 (P:=Unit) (s:=l) (fun _ i=>(i:Int)) (fun _ _=>True) (fun _ rest=>some (rest.any fun b=>decide (ci b=c))) ?_ ?_ () trivial hN
  . intro again a _;rw [decide_eq_false (by rw [x0Q];omega),cond_false];rfl
  . intro again a i b r _ hd hi bm;rw [decide_eq_true (show (i:Int)<slen l by rw [x0Q];omega),cond_true,z0X (by omega) (by rw [x0Q];omega),cond_true,x8P hd,w64 (by omega) (by omega)]
    have:=bm () trivial
    show cond (decide (ci b=c)) (some true) (again ((i:Int)+1))=_;rw [show ((i:Int)+1)=((i+1:Nat):Int) by omega,this,List.any_cons]
    cases decide (ci b=c) <;> rfl
theorem u7G (l:List UInt8)(c:UInt8)(N:Nat)(hN:l.length+1 <= N)(hl:l.length <= 1000000):x2L N l (ci c)=some (l.elem c):=by
  rw [Has_any l _ N hN hl];congr 1
  induction l with
  | nil=>rfl
  | cons b l ih =>
    rw [List.any_cons,ih (by simp at hN;omega) (by simp at hl;omega)]
    have:decide (ci b=ci c)=(c==b):=by
      by_cases h:b=c
      . subst h;simp
      . have h2:¬ ci b=ci c:=fun e=>h (ci_eq.1 e);rw [decide_eq_false h2];exact (show (c==b)=false by simpa using fun e=>h e.symm).symm
    rw [this,List.elem_cons];cases (c==b) <;> rfl
theorem v0S (N:Nat)(c:UInt8):y9K N (ci c)=some (ci (upB c)):=by
  have se:=x8X c;unfold y9K
  by_cases cj:97 <= ci c/\ci c <= 122
  . rw [decide_eq_true cj.1,decide_eq_true cj.2,upB_lo cj.1 cj.2,w8 (n:=ci c-97) (by omega) (by omega),w8 (by omega) (by omega)]
    show some (ci c-97+65)=_;congr 1;omega
  . rw [v1H cj]
    by_cases h:97 <= ci c
    . rw [decide_eq_true h,decide_eq_false fun h'=>cj ⟨h,h'⟩];rfl
    . rw [decide_eq_false h];rfl
theorem v7X (N:Nat)(c:UInt8){n:Int}(h0:0 <= n)(h1:n <= 100)(hN:200 <= N):y9J N (ci c) n=some (List.replicate n.toNat c):=by
  unfold y9J;rw [z4K n (ci c) (by omega) (fun x=>some (x1R x)) n.toNat N [] 0 (by omega) (by omega) (by omega) (by simp;omega),List.nil_append, <- y9Y,x7S]
def cntS:List UInt8->Int->Option (Int×List UInt8)
  | [],_=>none
  | c::r,n=>if 48 <= ci c/\ci c <= 57 then (if 10*n+(ci c-48)<1\/32<10*n+(ci c-48) then none else cntS r (10*n+(ci c-48))) else if n<1\/c≠41 then none else some (n,r)
theorem v7F:∀ {s:List UInt8} {n n':Int} {r:List UInt8}, 0 <= n->n <= 32->cntS s n=some (n',r)->1 <= n'/\n' <= 32/\r.length<s.length/\s.drop (s.length-r.length)=r
  | [],n,n',r,_,_,h=>by cases h
  | c::s,n,n',r,h0,h1,h=>by
    unfold cntS at h;split at h
    . split at h
      . cases h
      . rename_i h2 h3;obtain ⟨a1,a2,a3,a4⟩:=v7F (by omega) (by omega) h
        refine ⟨a1,a2,by simp;omega, ?_⟩
        rw [List.length_cons,show s.length+1-r.length=(s.length-r.length)+1 by omega,List.drop_succ_cons]
        exact a4
    . split at h
      . cases h
      . rename_i h3;cases h;refine ⟨by omega,h1,by simp, ?_⟩
        rw [List.length_cons,Nat.add_sub_cancel_left];rfl
theorem u5H:∀ (s:List UInt8) (n:Int) (out:List UInt8), 0 <= n->n <= 32->mch s 1 n out=(cntS s n).bind fun q=>mch q.2 2 q.1 out
  | [],n,out,_,_=>rfl
  | c::s,n,out,h0,h1=>by
    rw [x9L,if_pos rfl];unfold cntS
    by_cases hd:48 <= ci c/\ci c <= 57
    . have ac:¬ c=41:=fun e=>by subst e;revert hd;decide
      rw [if_neg ac,if_pos hd]
      by_cases hb:10*n+(ci c-48)<1\/32<10*n+(ci c-48)
      . rw [if_pos hb];have:repS n c=none:=by
          unfold repS;rw [if_pos];rcases hb with hb | hb
          . exact .inr (.inr (.inl ⟨by omega,by omega⟩))
          . exact .inr (.inr (.inr hb))
        rw [this];rfl
      . rw [if_neg hb];have:repS n c=some (10*n+(ci c-48)):=by
          unfold repS;rw [if_neg (by omega)]
        rw [this];exact u5H s _ out (by omega) (by omega)
    . rw [if_neg hd]
      by_cases dw:c=41
      . rw [if_pos dw]
        by_cases hn:0<n
        . rw [if_pos hn,if_neg (by rintro (h | h);omega;exact h dw)];rfl
        . rw [if_neg hn,if_pos (.inl (by omega))];rfl
      . rw [if_neg dw,if_pos (.inr dw)];have:repS n c=none:=by
          unfold repS;rw [if_pos];omega
        rw [this];rfl
theorem mch0_n:∀ (s:List UInt8) (n m:Int) (out:List UInt8),mch s 0 n out=mch s 0 m out
  | [],_,_,_=>rfl
  | c::s,n,m,out=>by
    simp only [x9L,show ¬ ((0:Int)=1) by decide,show ¬ ((0:Int)=2) by decide,if_false]
    by_cases h:c=40
    . rw [if_pos h,if_pos h]
    . rw [if_neg h,if_neg h];cases putS c 1 out with
      | none=>rfl
      | some o=>exact mch0_n s n m o
theorem v0B {s:List UInt8}(hl:s.length <= 1000){N:Nat}(hN:1100 <= N){i:Nat}(hi:i <= s.length):u3N N s (i:Int)=some (match cntS (s.drop i) 0 with | some q=>(q.1,((s.length-q.2.length:Nat):Int)) | none=>(0, 0)):=by
  unfold u3N;refine scan (P:=Int) (s:=s) (fun n i=>(n,(i:Int))) (fun n _=> 0 <= n/\n <= 32) (fun n rest=>some (match cntS rest n with | some q=>(q.1,((s.length-q.2.length:Nat):Int)) | none=>(0, 0))) ?_ ?_ (s.length-i) N 0 i ⟨by decide,by decide⟩ (by omega) (by omega)
  . rintro again n ⟨h0,h1⟩;simp only;rw [decide_eq_false (show ¬ ((s.length:Nat):Int)<slen s by rw [x0Q];omega)]
    simp only [cond_false,cond_true,decide_eq_true (show slen s <= ((s.length:Nat):Int) by rw [x0Q];omega)]
    cases decide (n<1) <;> rfl
  . rintro again n i c r ⟨h0,h1⟩ hd ai bm;simp only;have se:=x8X c;have uq:=ci_lt c;have e1:decide ((i:Int)<slen s)=true:=decide_eq_true (by rw [x0Q];omega)
    have e2:inB (i:Int) (slen s)=true:=z0X (by omega) (by rw [x0Q];omega)
    have e3:sget s (i:Int)=ci c:=x8P hd;have e5:decide (slen s <= (i:Int))=false:=decide_eq_false (by rw [x0Q];omega)
    rw [e1,e2,e3,e5,w64 (n:=(i:Int)+1) (by omega) (by omega)]
    simp only [cond_true]
    by_cases tn:48 <= ci c
    . rw [decide_eq_true tn];simp only [cond_true]
      by_cases tm:ci c <= 57
      . rw [decide_eq_true tm,w8 (by omega) (by omega),w64 (n:=ci c-48) (by omega) (by omega),w64 (n:=n*10) (by omega) (by omega),w64 (by omega) (by omega)]
        simp only [cond_true];unfold cntS;rw [if_pos ⟨tn,tm⟩,show n*10+(ci c-48)=10*n+(ci c-48) by omega]
        by_cases bB:10*n+(ci c-48)<1
        . rw [if_pos (.inl bB),decide_eq_true bB];rfl
        . by_cases aO:32<10*n+(ci c-48)
          . rw [if_pos (.inr aO),decide_eq_false bB,decide_eq_true aO];rfl
          . rw [if_neg (by omega),decide_eq_false bB,decide_eq_false aO]
            exact bm _ ⟨by omega,by omega⟩
      . rw [decide_eq_false tm];simp only [cond_false];unfold cntS;rw [if_neg (by omega)]
        have dw:¬ ci c=41:=by omega
        have tp:c≠41:=fun e=>dw (by rw [e];rfl)
        rw [if_pos (.inr tp),decide_eq_false dw];cases decide (n<1) <;> rfl
    . rw [decide_eq_false tn];simp only [cond_false,cond_true];unfold cntS;rw [if_neg (by omega),ci_41]
      by_cases dw:c=41
      . rw [decide_eq_true dw]
        by_cases hn:n<1
        . rw [decide_eq_true hn,if_pos (.inl hn)];rfl
        . rw [decide_eq_false hn,if_neg (by rintro (h | h);exact hn h;exact h dw)]
          have:r.length+1+i=s.length:=by
            have:=congrArg List.length hd
            simp at this;omega
          show some (n,(i:Int)+1)=some (n,((s.length-r.length:Nat):Int));congr 2;omega
      . rw [decide_eq_false dw,if_pos (.inr dw)];cases decide (n<1) <;> rfl
theorem u8T {N:Nat}{s:List UInt8}(hl:s.length <= 1000)(hN:1100 <= N):v8H N s=some (match mch s 0 0 [] with | some o=>(o, 0) | none=>([], 30)):=by
  have key:∀ (k M:Nat) (out:List UInt8) (i:Nat), s.length <= i+k->i <= s.length->k+1 <= M->out.length <= 32->iter M (fun (again0:List UInt8×Int->Option (List UInt8×Int)) (x0:List UInt8×Int) => (cond (decide (x0.2<(slen s))) (cond (inB x0.2 (slen s)) (cond (decide ((sget s x0.2)=(40:Int))) (Option.bind (u3N N s (IntKind.wrap .i64 (x0.2+(1:Int)))) (fun (r1:Int×Int) => (cond (cond (decide (r1.1<(1:Int))) true (decide ((slen s) <= r1.2))) (some (([]:List UInt8), (30:Int))) (cond (inB r1.2 (slen s)) (Option.bind (y9K N (sget s r1.2)) (fun (r2:Int) => (Option.bind (x2L N ([57, 86, 90, 42, 89, 84, 73, 82, 83, 43, 45, 36, 44, 46, 47, 66, 67, 68, 65, 88]:List UInt8) r2) (fun (r3:Bool) => (cond (cond (!r3) true (decide ((32:Int)<(IntKind.wrap .i64 ((slen x0.1)+r1.1))))) (some (([]:List UInt8), (30:Int))) (Option.bind (y9J N r2 r1.1) (fun (r4:List UInt8) => (cond (decide (List.length x0.1+List.length r4<9223372036854775808)) (again0 ((x0.1++r4), (IntKind.wrap .i64 (r1.2+(1:Int))))) none)))))))) none)))) (cond (inB x0.2 (slen s)) (Option.bind (y9K N (sget s x0.2)) (fun (r1:Int) => (Option.bind (x2L N ([57, 86, 90, 42, 89, 84, 73, 82, 83, 43, 45, 36, 44, 46, 47, 66, 67, 68, 65, 88]:List UInt8) r1) (fun (r2:Bool) => (cond (cond (!r2) true (decide ((32:Int)<(IntKind.wrap .i64 ((slen x0.1)+(1:Int)))))) (some (([]:List UInt8), (30:Int))) (Option.bind (y9J N r1 (1:Int)) (fun (r3:List UInt8) => (cond (decide (List.length x0.1+List.length r3<9223372036854775808)) (again0 ((x0.1++r3), (IntKind.wrap .i64 (x0.2+(1:Int))))) none)))))))) none)) none) (cond (decide (x0.1=([]:List UInt8))) (some (([]:List UInt8), (30:Int))) (some (x0.1, (0:Int)))))) (out, (i:Int))
      = some (match mch (s.drop i) 0 0 out with | some o=>(o, 0) | none=>([], 30)):=by
    intro k
    induction k with
    | zero =>
      intro M out i h1 h2 hM ho;obtain ⟨M,rfl,_⟩:=x7U hM;rw [x2G,decide_eq_false (by rw [x0Q];show ¬ (i:Int)<_;omega),List.drop_eq_nil_of_le (by omega)]
      simp only [cond_false,mch]
      by_cases h:out=[]
      . simp [h]
      . simp [h]
    | succ k ih =>
      intro M out i h1 h2 hM ho
      by_cases ai:i<s.length
      . obtain ⟨M,rfl,yT⟩:=x7U hM;rw [x2G];obtain ⟨c,r,hd⟩:∃ c r,s.drop i=c::r:=⟨_,_,List.drop_eq_getElem_cons ai⟩;have e1:decide ((i:Int)<slen s)=true:=decide_eq_true (by rw [x0Q];omega)
        have e2:inB (i:Int) (slen s)=true:=z0X (by omega) (by rw [x0Q];omega)
        have e3:sget s (i:Int)=ci c:=x8P hd;have hr:=y3V hd
        have put:∀ (c:UInt8) (n:Int) (j:Nat), 1 <= n->n <= 32->j<s.length->i <= j->(Option.bind (y9K N (ci c)) (fun (r2:Int)=>(Option.bind (x2L N ([57, 86, 90, 42, 89, 84, 73, 82, 83, 43, 45, 36, 44, 46, 47, 66, 67, 68, 65, 88]:List UInt8) r2) (fun (r3:Bool)=>(cond (cond (!r3) true (decide ((32:Int)<(IntKind.wrap .i64 ((slen out)+n))))) (some (([]:List UInt8),(30:Int))) (Option.bind (y9J N r2 n) (fun (r4:List UInt8)=>(cond (decide (List.length out+List.length r4<9223372036854775808)) (iter M (fun (again0:List UInt8×Int->Option (List UInt8×Int)) (x0:List UInt8×Int)=>(cond (decide (x0.2<(slen s))) (cond (inB x0.2 (slen s)) (cond (decide ((sget s x0.2)=(40:Int))) (Option.bind (u3N N s (IntKind.wrap .i64 (x0.2+(1:Int)))) (fun (r1:Int×Int)=>(cond (cond (decide (r1.1<(1:Int))) true (decide ((slen s) <= r1.2))) (some (([]:List UInt8),(30:Int))) (cond (inB r1.2 (slen s)) (Option.bind (y9K N (sget s r1.2)) (fun (r2:Int)=>(Option.bind (x2L N ([57, 86, 90, 42, 89, 84, 73, 82, 83, 43, 45, 36, 44, 46, 47, 66, 67, 68, 65, 88]:List UInt8) r2) (fun (r3:Bool)=>(cond (cond (!r3) true (decide ((32:Int)<(IntKind.wrap .i64 ((slen x0.1)+r1.1))))) (some (([]:List UInt8),(30:Int))) (Option.bind (y9J N r2 r1.1) (fun (r4:List UInt8)=>(cond (decide (List.length x0.1+List.length r4<9223372036854775808)) (again0 ((x0.1++r4),(IntKind.wrap .i64 (r1.2+(1:Int))))) none)))))))) none)))) (cond (inB x0.2 (slen s)) (Option.bind (y9K N (sget s x0.2)) (fun (r1:Int)=>(Option.bind (x2L N ([57, 86, 90, 42, 89, 84, 73, 82, 83, 43, 45, 36, 44, 46, 47, 66, 67, 68, 65, 88]:List UInt8) r1) (fun (r2:Bool)=>(cond (cond (!r2) true (decide ((32:Int)<(IntKind.wrap .i64 ((slen x0.1)+(1:Int)))))) (some (([]:List UInt8),(30:Int))) (Option.bind (y9J N r1 (1:Int)) (fun (r3:List UInt8)=>(cond (decide (List.length x0.1+List.length r3<9223372036854775808)) (again0 ((x0.1++r3),(IntKind.wrap .i64 (x0.2+(1:Int))))) none)))))))) none)) none) (cond (decide (x0.1=([]:List UInt8))) (some (([]:List UInt8),(30:Int))) (some (x0.1,(0:Int)))))) ((out++r4),(IntKind.wrap .i64 ((j:Int)+(1:Int))))) none))))))))=some (match (putS c n out).bind (fun o=>mch (s.drop (j+1)) 0 0 o) with | some o=>(o, 0) | none=>([], 30)):=by
          intro c n j eM cY hj ke;rw [v0S];simp only [Option.bind_some];rw [u7G _ _ _ (by simp;omega) (by simp)]
          simp only [Option.bind_some];rw [x0Q,w64 (by omega) (by omega)]
          unfold putS;have hL:([57, 86, 90, 42, 89, 84, 73, 82, 83, 43, 45, 36, 44, 46, 47, 66, 67, 68, 65, 88]:List UInt8)=lettersL:=rfl;rw [hL];cases he:lettersL.elem (upB c) with
          | false=>rw [if_neg (by simp)];rfl
          | true =>
            by_cases aV:(out.length:Int)+n <= 32
            . rw [if_pos ⟨rfl,aV⟩,decide_eq_false (by omega),v7X N _ (by omega) (by omega) (by omega)]
              simp only [Option.bind_some,Bool.not_true,cond_false];rw [decide_eq_true (by simp;omega),cond_true,w64 (by omega) (by omega),show ((j:Int)+1)=((j+1:Nat):Int) by omega]
              exact ih M _ (j+1) (by omega) (by omega) (by omega) (by simp;omega)
            . rw [if_neg fun h=>aV h.2,decide_eq_true (by omega)];rfl
        simp only;rw [e1,e2,e3,ci_40,hd];simp only [cond_true]
        by_cases iG:c=40
        . subst iG;rw [decide_eq_true rfl,cond_true,w64 (n:=(i:Int)+1) (by omega) (by omega),show ((i:Int)+1)=((i+1:Nat):Int) by omega,v0B hl hN (by omega),hr]
          rw [x9L,if_neg (by decide),if_neg (by decide),if_pos rfl,u5H r 0 out (by decide) (by decide)]
          simp only [Option.bind_some];cases rX:cntS r 0 with
          | none=>rfl
          | some q =>
            obtain ⟨n,r'⟩:=q;obtain ⟨a1,a2,a3,a4⟩:=v7F (by decide) (by decide) rX
            have pM:r.length+(i+1)=s.length:=by rw [<- hr];simp;omega
            simp only [Option.bind_some];rw [decide_eq_false (show ¬ n<1 by omega)]
            cases qM:r' with
            | nil =>
              simp only [List.length_nil,Nat.sub_zero];rw [decide_eq_true (show slen s <= ((s.length:Nat):Int) by rw [x0Q];omega)];rfl
            | cons c' r'' =>
              have lJ:s.drop (s.length-r'.length)=r':=by
                have:s.drop (s.length-r'.length)=(s.drop (i+1)).drop (r.length-r'.length):=by rw [List.drop_drop];congr 1;omega
                rw [this,hr,a4]
              rw [qM] at lJ a3;have vO:(c'::r'').length=r''.length+1:=rfl;rw [decide_eq_false (by rw [x0Q];omega),z0X (by omega) (by rw [x0Q];omega),x8P lJ]
              simp only [cond_false,cond_true];refine (put c' n _ a1 a2 (by omega) (by omega)).trans ?_
              rw [y3V lJ];have e9:mch (c'::r'') 2 n out=(putS c' n out).bind fun o=>mch r'' 0 0 o:=by
                rw [x9L,if_neg (by decide),if_pos rfl]
                cases putS c' n out with
                | none=>rfl
                | some o=>exact mch0_n r'' n 0 o
              rw [e9]
        . rw [decide_eq_false iG,cond_false];refine (put c 1 i (by decide) (by decide) ai (by omega)).trans ?_
          rw [hr];rw [x9L,if_neg (by decide),if_neg (by decide),if_neg iG]
      . have:i=s.length:=by omega
        subst this;obtain ⟨M,rfl,_⟩:=x7U hM;rw [x2G,decide_eq_false (by rw [x0Q];show ¬ ((s.length:Nat):Int)<_;omega),List.drop_eq_nil_of_le (by omega)]
        simp only [cond_false,mch]
        by_cases h:out=[]
        . simp [h]
        . simp [h]
  unfold v8H;exact key s.length N [] 0 (by omega) (by omega) (by omega) (by simp)
theorem walk {A R P:Type}{n:Nat}{step:(A->Option R)->A->Option R}(emb:P->Nat->A)(Inv:P->Nat->Prop)(Res:Option R->Prop)
    (dK:∀ again a,Inv a n->Res (step again (emb a n)))
    (ct:∀ again a i,Inv a i->i<n->(∀ a',Inv a' (i+1)->Res (again (emb a' (i+1))))->Res (step again (emb a i))) :
    ∀ (k N:Nat) (a:P) (i:Nat),Inv a i->i+k=n->k+1 <= N->Res (iter N step (emb a i))
  | 0,N,a,i,ha,h,hN=>by
    obtain ⟨M,rfl,_⟩:=x7U hN;have:i=n:=by omega
    subst this;rw [x2G];exact dK _ _ ha
  | k+1,N,a,i,ha,h,hN=>by
    obtain ⟨M,rfl,hM⟩:=x7U hN;rw [x2G];exact ct _ a i ha (by omega) fun a' bw=>walk emb Inv Res dK ct k M a' (i+1) bw (by omega) hM
theorem x8M {A R P:Type}{n:Nat}{step:(A->Option R)->A->Option R}(emb:P->Nat->A)(Inv:P->Nat->Prop)(Res:Option R->Prop)
    (dK:∀ again a,Inv a n->Res (step again (emb a n)))
    (ct:∀ again a i,Inv a i->i<n->(∀ a',Inv a' (i+1)->Res (again (emb a' (i+1))))->Res (step again (emb a i))) {N:Nat} (a:P) (ha:Inv a 0) (hN:n+1 <= N):Res (iter N step (emb a 0)) :=
  walk emb Inv Res dK ct n N a 0 ha (by omega) hN
def bt (b:List UInt8)(i:Nat):UInt8:=b.getD i 0
theorem x4F (b:List UInt8)(i:Nat):sget b (i:Int)=ci (bt b i):=rfl
theorem y4X {b:List UInt8}{i:Nat}(h:i<b.length):x1U (x0S b) (i:Int)=ci (bt b i):=z7E b i h
theorem x6S {b:List UInt8}{i:Nat}(h:i<b.length):decide ((i:Int)<slen b)=true:=decide_eq_true (by rw [x0Q];omega)
theorem x5D (b:List UInt8):decide (((b.length:Nat):Int)<slen b)=false:=decide_eq_false (by rw [x0Q];omega)
theorem x3F {b:List UInt8}{i:Nat}(h:i<b.length):inB (i:Int) (slen b)=true:=z0X (by omega) (by rw [x0Q];omega)
theorem y2K {b:List Int}{i:Nat}(h:i<b.length):decide ((i:Int)<ilen b)=true:=decide_eq_true (by rw [x9M];omega)
theorem z2X (b:List Int):decide (((b.length:Nat):Int)<ilen b)=false:=decide_eq_false (by rw [x9M];omega)
theorem x7W {b:List Int}{i:Nat}(h:i<b.length):inB (i:Int) (ilen b)=true:=z0X (by omega) (by rw [x9M];omega)
theorem x3N {i:Nat}(h:i<1000000000000):IntKind.wrap .i64 ((i:Int)+1)=((i+1:Nat):Int):=by rw [w64 (by omega) (by omega)];omega
theorem y1Q {c d:UInt8}:decide (ci c=ci d)=decide (c=d):=by
  by_cases h:c=d
  . subst h;simp
  . rw [decide_eq_false h,decide_eq_false fun e=>h (ci_eq.1 e)]
theorem x8Y (c d:UInt8){n:Int}(h:n=ci d):decide (ci c=n)=decide (c=d):=by rw [h];exact y1Q
theorem x4K {b:List UInt8}{i:Nat}(h:i<b.length):bt b i=b[i]:=by
  unfold bt;rw [List.getD_eq_getElem?_getD,List.getElem?_eq_getElem h];rfl
theorem mem_bt {b:List UInt8}{c:UInt8}:c∈b↔∃ i,i<b.length/\bt b i=c:=by
  rw [List.mem_iff_getElem];constructor
  . rintro ⟨i,h,e⟩;exact ⟨i,h,by rw [x4K h];exact e⟩
  . rintro ⟨i,h,e⟩;exact ⟨i,h,by rw [<- x4K h];exact e⟩
theorem elem_iff {b:List UInt8}{c:UInt8}:b.elem c=true↔c∈b:=by simp
theorem u2V {b:List UInt8}{i n:Nat}(h:i<n):bt (b.take n) i=bt b i:=by
  unfold bt;rw [List.getD_eq_getElem?_getD,List.getD_eq_getElem?_getD,List.getElem?_take_of_lt h]
theorem bt_drop {b:List UInt8}{i n:Nat}:bt (b.drop n) i=bt b (n+i):=by
  unfold bt;rw [List.getD_eq_getElem?_getD,List.getD_eq_getElem?_getD,List.getElem?_drop]
def cnt (p:Nat->Bool):Nat->Nat
  | 0=> 0
  | n+1=>cnt p n+(cond (p n) 1 0)
theorem y1P (p:Nat->Bool):∀ n,cnt p n <= n
  | 0=>Nat.le_refl _
  | n+1=>by have:=y1P p n;unfold cnt;cases p n <;> simp only [cond_true,cond_false] <;> omega
theorem y8A {p q:Nat->Bool}:∀ {n:Nat}, (∀ i,i<n->p i=q i)->cnt p n=cnt q n
  | 0,_=>rfl
  | n+1,h=>by unfold cnt;rw [y8A fun i hi=>h i (by omega),h n (by omega)]
theorem cnt_zero {p:Nat->Bool}:∀ {n:Nat}, cnt p n=0↔∀ i,i<n->p i=false
  | 0=>⟨fun _ i h=>by omega,fun _=>rfl⟩
  | n+1=>by
    unfold cnt;constructor
    . intro h i hi;cases hp:p n with
      | true=>rw [hp,cond_true] at h;omega
      | false =>
        rw [hp,cond_false] at h
        by_cases e:i=n
        . rw [e];exact hp
        . exact cnt_zero.1 (by omega) i (by omega)
    . intro h;rw [h n (by omega),cnt_zero.2 fun i hi=>h i (by omega)];rfl
theorem v7C {p:Nat->Bool}{n i:Nat}(hi:i<n)(h:p i=true):0<cnt p n:=by
  apply Nat.pos_of_ne_zero;intro e;rw [cnt_zero.1 e i hi] at h;cases h
theorem cnt_mono {p:Nat->Bool}{m n:Nat}(h:m <= n):cnt p m <= cnt p n:=by
  induction h with
  | refl=>exact Nat.le_refl _
  | step _ ih=>refine Nat.le_trans ih ?_;show _ <= cnt p _+_;omega
theorem cnt_two {p:Nat->Bool}{n i j:Nat}(ke:i<j)(hj:j<n)(h1:p i=true)(h2:p j=true):2 <= cnt p n:=by
  have a1:1 <= cnt p j:=v7C ke h1;have a2:cnt p (j+1)=cnt p j+1:=by show cnt p j+cond (p j) 1 0=_;rw [h2];rfl
  have a3:=cnt_mono (p:=p) (show j+1 <= n by omega)
  omega
theorem v7E {b:List UInt8}{c:UInt8}:∀ {n:Nat}, n <= b.length->cnt (fun i=>decide (bt b i=c)) n=(b.take n).count c
  | 0,_=>by simp [cnt]
  | n+1,h=>by
    unfold cnt;rw [v7E (by omega),List.take_succ_eq_append_getElem (by omega),List.count_append, <- x4K (by omega)]
    congr 1
theorem x7G {b:List UInt8}{c:UInt8}:b.count c=cnt (fun i=>decide (bt b i=c)) b.length:=by rw [v7E (Nat.le_refl _),List.take_length]
def drL:List UInt8:=[36, 83, 43, 45]
def insL:List UInt8:=[44, 46, 47, 66, 86]
def firmL:List UInt8:=[57, 89, 84, 73, 82]
def crB (s:List UInt8):Bool:=cond (decide (2 <= s.length)) (decide (s.drop (s.length-2)=[67, 82]) || decide (s.drop (s.length-2)=[68, 66])) false
def x0K (s:List UInt8):List UInt8:=cond (crB s) (s.take (s.length-2)) s
def isDr (b:List UInt8)(c:UInt8):Bool:=drL.elem c&&decide (2 <= b.count c)
def Dft (b:List UInt8):UInt8:=(b.find? (isDr b)).getD 0
theorem Dft_hit {b:List UInt8}{i:Nat}(hi:i<b.length)(h:isDr b (bt b i)=true)(hn:∀ j,j<i->isDr b (bt b j)=false):Dft b=bt b i:=by
  unfold Dft;rw [List.find?_eq_some_iff_getElem.2 ⟨h,i,hi,(x4K hi).symm,fun j hj=>by rw [<- x4K (by omega),hn j hj];rfl⟩]
  rfl
theorem u7L {b:List UInt8}(hn:∀ j,j<b.length->isDr b (bt b j)=false):Dft b=0:=by
  unfold Dft;rw [List.find?_eq_none.2 ?_]
  . rfl
  . intro x hx;obtain ⟨i,hi,rfl⟩:=mem_bt.1 hx;rw [hn i hi];decide
theorem z4Y {b:List UInt8}(h:Dft b≠0):isDr b (Dft b)=true:=by
  unfold Dft at h |-
  cases hf:b.find? (isDr b) with
  | none=>rw [hf] at h;exact absurd rfl h
  | some c=>exact List.find?_some hf
theorem z4X {b:List UInt8}(h:Dft b=0){c:UInt8}(hc:drL.elem c=true):b.count c<2:=by
  apply Classical.byContradiction;intro hn;have h1:isDr b c=true:=by unfold isDr;rw [hc,decide_eq_true (by omega)];rfl
  have hm:c∈b:=List.count_pos_iff.1 (by omega)
  unfold Dft at h;cases hf:b.find? (isDr b) with
  | none=>exact absurd h1 (List.find?_eq_none.1 hf c hm)
  | some x =>
    rw [hf] at h;have h2:=List.find?_some hf;have h3:x=0:=h;rw [h3] at h2;unfold isDr at h2;rw [show drL.elem 0=false from rfl] at h2;cases h2
theorem Dft_only {b:List UInt8}{c:UInt8}(hc:isDr b c=true)(h:∀ x,drL.elem x=true->x≠c->b.count x<2):Dft b=c:=by
  have h0:Dft b≠0:=fun e=>by
    unfold isDr at hc;simp only [Bool.and_eq_true,decide_eq_true_eq] at hc
    have:=z4X e hc.1
    omega
  have h1:=z4Y h0;apply Classical.byContradiction;intro ac;unfold isDr at h1;simp only [Bool.and_eq_true,decide_eq_true_eq] at h1
  have:=h _ h1.1 ac
  omega
def IsF (b:List UInt8)(c:UInt8)(f:Nat):Prop:=f<b.length/\bt b f=c/\∀ i,i<f->bt b i≠c
def IsL (b:List UInt8)(c:UInt8)(l:Nat):Prop:=l<b.length/\bt b l=c/\∀ i,l<i->i<b.length->bt b i≠c
theorem IsF.uniq {b:List UInt8}{c:UInt8}{f g:Nat}(h:IsF b c f)(h':IsF b c g):f=g:=by
  rcases Nat.lt_trichotomy f g with h1 | h1 | h1
  . exact absurd h.2.1 (h'.2.2 f h1)
  . exact h1
  . exact absurd h'.2.1 (h.2.2 g h1)
theorem IsL.uniq {b:List UInt8}{c:UInt8}{f g:Nat}(h:IsL b c f)(h':IsL b c g):f=g:=by
  rcases Nat.lt_trichotomy f g with h1 | h1 | h1
  . exact absurd h'.2.1 (h.2.2 g h1 h'.1)
  . exact h1
  . exact absurd h.2.1 (h'.2.2 f h1 h.1)
theorem IsF.ex {b:List UInt8}{c:UInt8}(h:c∈b):∃ f,IsF b c f:=by
  obtain ⟨i,hi,e⟩:=mem_bt.1 h;have:∀ n, ∀ i,i<n->i<b.length->bt b i=c->∃ f,IsF b c f:=by
    intro n
    induction n with
    | zero=>intro i h;omega
    | succ n ih =>
      intro i h1 h2 h3
      by_cases hx:∃ j,j<i/\bt b j=c
      . obtain ⟨j,h4,h5⟩:=hx;exact ih j (by omega) (by omega) h5
      . exact ⟨i,h2,h3,fun j hj e=>hx ⟨j,hj,e⟩⟩
  exact this (i+1) i (by omega) hi e
def DOK (b:List UInt8)(c:UInt8):Prop:= ∃ f l,IsF b c f/\IsL b c l/\(∀ i,i<f->bt b i≠86)/\∀ i,f <= i->i <= l->bt b i=c\/insL.elem (bt b i)=true
def DRok (b:List UInt8):Prop:=Dft b=0\/((∀ x,drL.elem x=true->x≠Dft b->b.count x<2)/\DOK b (Dft b))
variable {N:Nat} {s:List UInt8}
theorem x4E (hl:s.length <= 1000)(hN:1100 <= N)(c:UInt8):x8C N s (ci c)=some ((s.count c:Nat):Int):=by
  unfold x8C;refine x8M (n:=s.length) (P:=Nat) (fun n i=>((n:Int),(i:Int))) (fun n i=>n=cnt (fun i=>decide (bt s i=c)) i) (fun o=>o=some ((s.count c:Nat):Int)) ?_ ?_ 0 rfl (by omega)
  . intro again a h;unfold u3K;simp only [x5D,cond_false,h,x7G]
  . intro again a i h hi bm
    have:=y1P (fun i=>decide (bt s i=c)) i
    unfold u3K;simp only [x6S hi,x3F hi,cond_true,x3N (i:=i) (by omega),x3N (i:=a) (by omega)]
    rw [x4F,y1Q];cases hc:decide (bt s i=c)
    . exact bm a (by rw [h];show _=_+cond (decide (bt s i=c)) 1 0;rw [hc];rfl)
    . exact bm (a+1) (by rw [h];show _=_+cond (decide (bt s i=c)) 1 0;rw [hc];rfl)
theorem HasL (l:List UInt8)(hl:l.length <= 1000)(hN:1100 <= N)(c:UInt8):x2L N l (ci c)=some (l.elem c):=u7G l c N (by omega) (by omega)
theorem x7L (hl:s.length <= 1000)(hN:1100 <= N):z4W N s=some (ci (Dft s)):=by
  unfold z4W;refine x8M (n:=s.length) (P:=Unit) (fun _ i=>(i:Int)) (fun _ i=> ∀ j,j<i->isDr s (bt s j)=false) (fun o=>o=some (ci (Dft s))) ?_ ?_ () (fun j h=>by omega) (by omega)
  . intro again a h;unfold u3C;simp only [x5D,cond_false,u7L h];rfl
  . intro again a i h hi bm;unfold u3C;simp only [x6S hi,x3F hi,cond_true,x4F,x3N (i:=i) (by omega),show ([36, 83, 43, 45]:List UInt8)=drL from rfl,HasL drL (by decide) hN,x4E hl hN,Option.bind_some]
    have step:isDr s (bt s i)=false->again ((i+1:Nat):Int)=some (ci (Dft s)):=fun e=>bm () fun j hj=>by
      by_cases lB:j=i
      . rw [lB];exact e
      . exact h j (by omega)
    cases hd:drL.elem (bt s i)
    . exact step (by unfold isDr;rw [hd];rfl)
    . simp only [cond_true,Option.bind_some]
      by_cases h2:2 <= s.count (bt s i)
      . rw [decide_eq_true (by omega:(2:Int) <= _),cond_true,Dft_hit hi (by unfold isDr;rw [hd,decide_eq_true h2];rfl) h]
      . rw [decide_eq_false (by omega:¬ (2:Int) <= _)]
        exact step (by unfold isDr;rw [decide_eq_false h2,hd];rfl)
theorem v1W {s:List UInt8}{n:Nat}:ssub s ((n:Nat):Int) (slen s)=s.drop n:=by
  unfold ssub;rw [x0Q,Int.toNat_natCast,Int.toNat_natCast,List.take_of_length_le (by simp)]
theorem y5V {s:List UInt8}{n:Nat}:ssub s 0 ((n:Nat):Int)=s.take n:=by
  unfold ssub;rw [Int.toNat_natCast];rfl
theorem wlen2 (hl:s.length <= 1000)(h:2 <= s.length):IntKind.wrap .i64 ((slen s)-2)=((s.length-2:Nat):Int):=by
  rw [x0Q,w64 (by omega) (by omega)];omega
theorem x5U (hl:s.length <= 1000):y9H N s=some (crB s):=by
  unfold y9H crB
  by_cases h:2 <= s.length
  . rw [wlen2 hl h,v1W,decide_eq_true (show (2:Int) <= slen s by rw [x0Q];omega),decide_eq_true h,decide_eq_true (show 0 <= ((s.length-2:Nat):Int)/\((s.length-2:Nat):Int) <= slen s by rw [x0Q];omega)]
    simp only [cond_true];cases decide (List.drop (s.length-2) s=[67, 82]) <;> cases decide (List.drop (s.length-2) s=[68, 66]) <;> rfl
  . rw [decide_eq_false (show ¬ (2:Int) <= slen s by rw [x0Q];omega),decide_eq_false h];rfl
theorem y2V (h:crB s=true):2 <= s.length:=by
  unfold crB at h
  by_cases h2:2 <= s.length
  . exact h2
  . rw [decide_eq_false h2] at h;cases h
theorem y8P (hl:s.length <= 1000)(h:crB s=true):ssub s 0 (IntKind.wrap .i64 ((slen s)-2))=x0K s:=by
  rw [wlen2 hl (y2V h),y5V];unfold x0K;rw [h];rfl
theorem z4F (hl:s.length <= 1000)(h:crB s=true):decide (0 <= (IntKind.wrap .i64 ((slen s)-2))/\(IntKind.wrap .i64 ((slen s)-2)) <= slen s)=true:=by
  rw [wlen2 hl (y2V h)];exact decide_eq_true (by rw [x0Q];omega)
theorem y8Q (h:crB s=false):x0K s=s:=by unfold x0K;rw [h];rfl
theorem y5G:(x0K s).length <= s.length:=by
  unfold x0K;cases crB s
  . exact Nat.le_refl _
  . simp only [cond_true,List.length_take];omega
variable {N:Nat} {s:List UInt8}
def FL (s:List UInt8)(d:UInt8)(a:Int×Int)(i:Nat):Prop :=
  (a=(-1, -1)/\∀ j,j<i->bt s j≠d)\/∃ f l:Nat,a=((f:Int),(l:Int))/\f<i/\l<i/\bt s f=d/\bt s l=d/\(∀ j,j<f->bt s j≠d)/\∀ j,l<j->j<i->bt s j≠d
theorem FL.no {s:List UInt8}{d:UInt8}{a:Int×Int}{i:Nat}(h:FL s d a i)(hn:bt s i≠d):FL s d a (i+1):=by
  rcases h with ⟨rfl,h⟩ | ⟨f,l,rfl,h1,h2,h3,h4,h5,h6⟩
  . refine .inl ⟨rfl,fun j hj=>?_⟩
    by_cases e:j=i
    . rw [e];exact hn
    . exact h j (by omega)
  . refine .inr ⟨f,l,rfl,by omega,by omega,h3,h4,h5,fun j h7 h8=>?_⟩
    by_cases e:j=i
    . rw [e];exact hn
    . exact h6 j h7 (by omega)
theorem FL.end {s:List UInt8}{d:UInt8}{a:Int×Int}(h:FL s d a s.length)(hm:d∈s):∃ f l:Nat,a=((f:Int),(l:Int))/\IsF s d f/\IsL s d l:=by
  rcases h with ⟨rfl,h⟩ | ⟨f,l,rfl,h1,h2,h3,h4,h5,h6⟩
  . obtain ⟨i,hi,e⟩:=mem_bt.1 hm;exact absurd e (h i hi)
  . exact ⟨f,l,rfl,⟨h1,h3,h5⟩,h2,h4,h6⟩
theorem y7V (hl:s.length <= 1000)(hN:1100 <= N):(DRok s->z9J N s=some true)/\(¬ DRok s->z9J N s=some false):=by
  unfold z9J;rw [x7L hl hN];simp only [Option.bind_some]
  by_cases hd:Dft s=0
  . rw [hd];exact ⟨fun _=>rfl,fun h=>absurd (.inl hd) h⟩
  have gD:=z4Y hd;unfold isDr at gD;simp only [Bool.and_eq_true,decide_eq_true_eq] at gD;have aY:Dft s∈s:=List.count_pos_iff.1 (by omega)
  generalize oO:Dft s=d at hd gD aY;have co:¬ ci d=0:=fun e=>hd ((ci_eq (c:=d) (d:= 0)).1 e);rw [decide_eq_false co,cond_false];refine x8M (n:=s.length) (P:=Int×Int) (fun a i=>(a.1,a.2,(i:Int))) (fun a i=>FL s d a i/\∀ j,j<i->bt s j≠d->drL.elem (bt s j)=true->s.count (bt s j)<2) (fun o=>(DRok s->o=some true)/\(¬ DRok s->o=some false)) ?_ ?_ (-1, -1) ⟨.inl ⟨rfl,fun j h=>by omega⟩,fun j h=>by omega⟩ (by omega)
  . rintro again a ⟨h1,h2⟩;obtain ⟨f,l,rfl,hf,hL⟩:=h1.end aY;unfold u3F;simp only [x5D,cond_false];have im:=hL.1;have wK:=hf.1;have pR:∀ x,drL.elem x=true->x≠d->s.count x<2:=fun x hx ac=>by
      apply Classical.byContradiction;intro hn;obtain ⟨j,hj,rfl⟩:=mem_bt.1 (List.count_pos_iff.1 (by omega:0<s.count x))
      exact hn (h2 j hj ac hx)
    refine x8M (n:=l) (P:=Unit) (fun _ i=>(i:Int)) (fun _ i=> ∀ j,j<i->(j<f->bt s j≠86)/\(f<j->bt s j=d\/insL.elem (bt s j)=true)) (fun o=>(DRok s->o=some true)/\(¬ DRok s->o=some false)) ?_ ?_ () (fun j h=>by omega) (by omega)
    . intro again2 _ h3;unfold u3G;rw [decide_eq_false (show ¬ ((l:Nat):Int)<((l:Nat):Int) by omega),cond_false]
      have:DRok s:= .inr (by
        rw [oO];refine ⟨pR,f,l,hf,hL,fun i hi=>?_,fun i h4 h5=>?_⟩
        . have wI:f <= l := by
            apply Classical.byContradiction;intro hn;exact hL.2.2 f (by omega) wK hf.2.1
          exact (h3 i (by omega)).1 hi
        . by_cases e1:i=f
          . rw [e1];exact .inl hf.2.1
          . by_cases e2:i=l
            . rw [e2];exact .inl hL.2.1
            . exact (h3 i (by omega)).2 (by omega))
      exact ⟨fun _=>rfl,fun h=>absurd this h⟩
    . intro again2 _ i h3 hi bm;unfold u3G;simp only [decide_eq_true (show ((i:Nat):Int)<((l:Nat):Int) by omega),cond_true,x3F (show i<s.length by omega),x3N (i:=i) (by omega),show ([44, 46, 47, 66, 86]:List UInt8)=insL from rfl]
      have no:(bt s i=86/\i<f\/f<i/\bt s i≠d/\insL.elem (bt s i)=false)->(DRok s->some false=some true)/\(¬ DRok s->some false=some false):=by
        intro hb;refine ⟨fun h=>?_,fun _=>rfl⟩;rcases h with h | ⟨_,f',l',h4,h5,h6,h7⟩
        . rw [oO] at h;exact absurd h hd
        . rw [oO] at h4 h5 h7
          have:=h4.uniq hf
          have:=h5.uniq hL
          subst_vars
          rcases hb with ⟨bB,aO⟩ | ⟨bB,aO,cb⟩
          . exact absurd bB (h6 i aO)
          . rcases h7 i (by omega) (by omega) with h8 | h8
            . exact absurd h8 aO
            . rw [cb] at h8;cases h8
      have yes:(i<f->bt s i≠86)->(f<i->bt s i=d\/insL.elem (bt s i)=true)->(DRok s->again2 ((i+1:Nat):Int)=some true)/\(¬ DRok s->again2 ((i+1:Nat):Int)=some false):=fun h4 h5=>bm () fun j hj=>by
        by_cases e:j=i
        . rw [e];exact ⟨h4,h5⟩
        . exact h3 j (by omega)
      rw [x4F,HasL insL (by decide) hN,y1Q,x8Y (bt s i) 86 (show (86:Int)=ci 86 from rfl)]
      by_cases wy:i<f
      . rw [decide_eq_true (show ((i:Nat):Int)<((f:Nat):Int) by omega),decide_eq_false (show ¬ ((f:Nat):Int)<((i:Nat):Int) by omega)]
        simp only [cond_true,cond_false,Option.bind_some]
        by_cases jE:bt s i=86
        . rw [decide_eq_true jE];exact no (.inl ⟨jE,wy⟩)
        . rw [decide_eq_false jE];exact yes (fun _=>jE) (fun h=>by omega)
      . rw [decide_eq_false (show ¬ ((i:Nat):Int)<((f:Nat):Int) by omega)]
        simp only [cond_true,cond_false]
        by_cases wJ:f<i
        . rw [decide_eq_true (show ((f:Nat):Int)<((i:Nat):Int) by omega)]
          simp only [cond_true]
          by_cases hc:bt s i=d
          . rw [decide_eq_true hc];exact yes (fun h=>by omega) (fun _=> .inl hc)
          . rw [decide_eq_false hc];simp only [Bool.not_false,cond_true,Option.bind_some];cases he:insL.elem (bt s i)
            . exact no (.inr ⟨wJ,hc,he⟩)
            . exact yes (fun h=>by omega) (fun _=> .inr he)
        . rw [decide_eq_false (show ¬ ((f:Nat):Int)<((i:Nat):Int) by omega)]
          simp only [cond_false,cond_true,Option.bind_some];exact yes (fun h=>by omega) (fun h=>by omega)
  . rintro again a i ⟨h1,h2⟩ hi bm;unfold u3F;simp only [x6S hi,x3F hi,cond_true,x3N (i:=i) (by omega),show ([36, 83, 43, 45]:List UInt8)=drL from rfl]
    rw [x4F,y1Q,HasL drL (by decide) hN,x4E hl hN]
    by_cases hc:bt s i=d
    . rw [decide_eq_true hc,cond_true];have pB:∀ j,j<i+1->bt s j≠d->drL.elem (bt s j)=true->s.count (bt s j)<2:=fun j hj=>by
        by_cases e:j=i
        . rw [e];exact fun h=>absurd hc h
        . exact h2 j (by omega)
      rcases h1 with ⟨rfl,h⟩ | ⟨f,l,rfl,h3,h4,h5,h6,h7,h8⟩
      . rw [decide_eq_true (show (-1:Int)<0 by decide),cond_true]
        exact bm ((i:Int),(i:Int)) ⟨.inr ⟨i,i,rfl,by omega,by omega,hc,hc,h,fun j h3 h4=>by omega⟩,pB⟩
      . rw [decide_eq_false (show ¬ ((f:Nat):Int)<0 by omega),cond_false]
        exact bm ((f:Int),(i:Int)) ⟨.inr ⟨f,i,rfl,by omega,by omega,h5,hc,h7,fun j h3 h4=>by omega⟩,pB⟩
    . rw [decide_eq_false hc,cond_false];simp only [Option.bind_some];have go:(drL.elem (bt s i)=true->s.count (bt s i)<2)->(DRok s->again (a.1,a.2,((i+1:Nat):Int))=some true)/\(¬ DRok s->again (a.1,a.2,((i+1:Nat):Int))=some false):=fun h=>bm a ⟨h1.no hc,fun j hj=>by
        by_cases e:j=i
        . rw [e];exact fun _=>h
        . exact h2 j (by omega)⟩
      cases he:drL.elem (bt s i)
      . exact go (by rw [he];intro h;cases h)
      . simp only [cond_true,Option.bind_some]
        by_cases h3:2 <= s.count (bt s i)
        . rw [decide_eq_true (show (2:Int) <= ((s.count (bt s i):Nat):Int) by omega),cond_true]
          refine ⟨fun h=>?_,fun _=>rfl⟩;rcases h with h | ⟨h4,_⟩
          . rw [oO] at h;exact absurd h hd
          . rw [oO] at h4
            have:=h4 _ he hc
            omega
        . rw [decide_eq_false (show ¬ (2:Int) <= ((s.count (bt s i):Nat):Int) by omega),cond_false]
          exact go (fun _=>by omega)
variable {N:Nat} {s b:List UInt8}
def zsL:List UInt8:=[90, 42]
def sgL:List UInt8:=[83, 43, 45]
def isD (b:List UInt8)(c:UInt8):Bool:=decide (Dft b≠0)&&decide (c=Dft b)
def sn (b:List UInt8):Nat->Bool
  | 0=>false
  | i+1=>sn b i || isD b (bt b i)
def rl (dr seen:Bool)(c:UInt8):Int:=cond (firmL.elem c) 0 (cond (zsL.elem c || (dr&&seen)) 1 (cond (decide (c=86)) 2 (cond (decide (c=36)) 5 (cond (sgL.elem c) 4 3))))
def RR (b:List UInt8)(i:Nat):Int:=rl (isD b (bt b i)) (sn b i) (bt b i)
def mkR (r:Int):UInt8:=cond (decide (r=0)) 100 (cond (decide (r=1)) 99 (cond (decide (r=2)) 118 (cond (decide (r=5)) 109 (cond (decide (r=4)) 115 105))))
theorem x9X (b:List UInt8)(i:Nat):RR b i=0\/RR b i=1\/RR b i=2\/RR b i=3\/RR b i=4\/RR b i=5:=by
  unfold RR rl;cases firmL.elem (bt b i)
  . cases (zsL.elem (bt b i) || (isD b (bt b i)&&sn b i))
    . cases decide (bt b i=86)
      . cases decide (bt b i=36)
        . cases sgL.elem (bt b i) <;> simp
        . simp
      . simp
    . simp
  . simp
def mrow (b:List UInt8)(i:Nat):List Int:=(List.range i).map fun j=>ci (mkR (RR b j))
def y0L (b:List UInt8):List UInt8:=(List.range b.length).map fun j=>mkR (RR b j)
theorem v3Q (b:List UInt8)(i:Nat):mrow b (i+1)=mrow b i++[ci (mkR (RR b i))]:=by
  unfold mrow;rw [List.range_succ,List.map_append];rfl
theorem mrow_len (b:List UInt8)(i:Nat):(mrow b i).length=i:=by unfold mrow;simp
theorem x3Z (b:List UInt8):(y0L b).length=b.length:=by unfold y0L;simp
theorem y6P (b:List UInt8):x1R (mrow b b.length)=y0L b:=by
  rw [<- x7S (y0L b)];congr 1;unfold mrow y0L x0S;rw [List.map_map];rfl
theorem z3B {b:List UInt8}{i:Nat}(h:i<b.length):bt (y0L b) i=mkR (RR b i):=by
  rw [x4K (by rw [x3Z];exact h)]
  unfold y0L;simp
def mkS (s:List UInt8):List UInt8:=y0L (x0K s)++cond (crB s) [115, 115] []
theorem y8B (d:UInt8):decide (ci d=0)=decide (d=0):=x8Y d 0 rfl
def G146 (N:Nat)(a0:List UInt8)(r1:Int)(fin:List Int->Option (List UInt8))(again2:List Int×Bool×Int->Option (List UInt8))(x2:List Int×Bool×Int):Option (List UInt8):=(cond (decide (x2.2.2<(slen a0))) (cond (inB x2.2.2 (slen a0)) (Option.bind (x2L N ([57, 89, 84, 73, 82]:List UInt8) (sget a0 x2.2.2)) (fun (r3:Bool)=>(cond r3 (cond (apOk (List.length x2.1) ([(100:Int)]:List Int)) (again2 ((x2.1++([(100:Int)]:List Int)),(cond x2.2.1 true (cond (!(decide (r1=(0:Int)))) (decide ((sget a0 x2.2.2)=r1)) false)),(IntKind.wrap .i64 (x2.2.2+(1:Int))))) none) (Option.bind (x2L N ([90, 42]:List UInt8) (sget a0 x2.2.2)) (fun (r4:Bool)=>(cond (cond r4 true (cond (cond (!(decide (r1=(0:Int)))) (decide ((sget a0 x2.2.2)=r1)) false) x2.2.1 false)) (cond (apOk (List.length x2.1) ([(99:Int)]:List Int)) (again2 ((x2.1++([(99:Int)]:List Int)),(cond x2.2.1 true (cond (!(decide (r1=(0:Int)))) (decide ((sget a0 x2.2.2)=r1)) false)),(IntKind.wrap .i64 (x2.2.2+(1:Int))))) none) (cond (decide ((sget a0 x2.2.2)=(86:Int))) (cond (apOk (List.length x2.1) ([(118:Int)]:List Int)) (again2 ((x2.1++([(118:Int)]:List Int)),(cond x2.2.1 true (cond (!(decide (r1=(0:Int)))) (decide ((sget a0 x2.2.2)=r1)) false)),(IntKind.wrap .i64 (x2.2.2+(1:Int))))) none) (cond (decide ((sget a0 x2.2.2)=(36:Int))) (cond (apOk (List.length x2.1) ([(109:Int)]:List Int)) (again2 ((x2.1++([(109:Int)]:List Int)),(cond x2.2.1 true (cond (!(decide (r1=(0:Int)))) (decide ((sget a0 x2.2.2)=r1)) false)),(IntKind.wrap .i64 (x2.2.2+(1:Int))))) none) (Option.bind (x2L N ([83, 43, 45]:List UInt8) (sget a0 x2.2.2)) (fun (r5:Bool)=>(cond r5 (cond (apOk (List.length x2.1) ([(115:Int)]:List Int)) (again2 ((x2.1++([(115:Int)]:List Int)),(cond x2.2.1 true (cond (!(decide (r1=(0:Int)))) (decide ((sget a0 x2.2.2)=r1)) false)),(IntKind.wrap .i64 (x2.2.2+(1:Int))))) none) (cond (apOk (List.length x2.1) ([(105:Int)]:List Int)) (again2 ((x2.1++([(105:Int)]:List Int)),(cond x2.2.1 true (cond (!(decide (r1=(0:Int)))) (decide ((sget a0 x2.2.2)=r1)) false)),(IntKind.wrap .i64 (x2.2.2+(1:Int))))) none)))))))))))) none) (fin x2.1))
theorem z9G (hl:b.length <= 1000)(hN:1100 <= N)(fin:List Int->Option (List UInt8)):iter N (G146 N b (ci (Dft b)) fin) ([],false, 0)=fin (mrow b b.length):=by
  refine x8M (n:=b.length) (P:=Unit) (fun _ i=>(mrow b i,sn b i,(i:Int))) (fun _ _=>True) (fun o=>o=fin (mrow b b.length)) ?_ ?_ () trivial (by omega)
  . intro again _ _;unfold G146;simp only [x5D,cond_false]
  . intro again _ i _ hi bm;have hg:=bm () trivial;rw [v3Q] at hg;unfold G146;simp only [x6S hi,x3F hi,cond_true,x3N (i:=i) (by omega),mrow_len,z4L (show i<137438953472 by omega),show ([57, 89, 84, 73, 82]:List UInt8)=firmL from rfl,show ([90, 42]:List UInt8)=zsL from rfl,show ([83, 43, 45]:List UInt8)=sgL from rfl]
    rw [x4F,HasL firmL (by decide) hN,HasL zsL (by decide) hN,HasL sgL (by decide) hN,y1Q,y8B,x8Y (bt b i) 86 (show (86:Int)=ci 86 from rfl),x8Y (bt b i) 36 (show (36:Int)=ci 36 from rfl)]
    have e1:cond (!(decide (Dft b=0))) (decide (bt b i=Dft b)) false=isD b (bt b i):=by
      unfold isD;cases h:decide (Dft b=0)
      . rw [decide_eq_true (of_decide_eq_false h)];rfl
      . rw [decide_eq_false (fun h2:Dft b≠0=>h2 (of_decide_eq_true h))];rfl
    have e2:cond (sn b i) true (isD b (bt b i))=sn b (i+1):=by show _=(sn b i || _);cases sn b i <;> rfl
    rw [e1,e2];simp only [Option.bind_some];unfold RR rl at hg;cases h1:firmL.elem (bt b i)
    . rw [h1] at hg;cases h2:zsL.elem (bt b i) <;> cases h3:isD b (bt b i) <;> cases h4:sn b i <;> cases h5:decide (bt b i=86) <;> cases h6:decide (bt b i=36) <;> cases h7:sgL.elem (bt b i) <;> rw [h2,h3,h4,h5,h6,h7] at hg <;> exact hg
    . rw [h1] at hg;exact hg
theorem z0U (hl:s.length <= 1000)(hN:1100 <= N):z9K N s=some (mkS s):=by
  unfold z9K;rw [x5U hl];simp only [Option.bind_some];have fin:∀ c,c=crB s->∀ l:List UInt8,l.length <= 1000->(Option.bind (some c) (fun (r3:Bool)=>(cond r3 (cond (decide (List.length l+List.length ([115, 115]:List UInt8)<9223372036854775808)) (some (l++([115, 115]:List UInt8))) none) (some l))))=some (l++cond (crB s) [115, 115] []):=by
    intro c hc l im;rw [hc];cases crB s
    . simp
    . simp only [Option.bind_some,cond_true];rw [decide_eq_true (by simp;omega)];rfl
  unfold mkS;have aM:=y5G (s:=s);cases h:crB s
  . rw [y8Q h];simp only [cond_false];rw [x7L hl hN];simp only [Option.bind_some]
    have:=z9G hl hN (fun r=>(Option.bind (y9H N s) (fun (r3:Bool)=>(cond r3 (cond (decide (List.length (x1R r)+List.length ([115, 115]:List UInt8)<9223372036854775808)) (some ((x1R r)++([115, 115]:List UInt8))) none) (some (x1R r))))))
    refine Eq.trans this ?_;rw [y6P,x5U hl,fin _ rfl _ (by rw [x3Z];exact hl),h];rfl
  . simp only [cond_true];rw [z4F hl h,cond_true];have hL:v7Z N s (ci (Dft (x0K s)))=G146 N (x0K s) (ci (Dft (x0K s))) (fun r=>(Option.bind (y9H N s) (fun (r3:Bool)=>(cond r3 (cond (decide (List.length (x1R r)+List.length ([115, 115]:List UInt8)<9223372036854775808)) (some ((x1R r)++([115, 115]:List UInt8))) none) (some (x1R r)))))):=by
      rw [<- y8P hl h];rfl
    rw [y8P hl h,x7L (s:=x0K s) (by omega) hN]
    simp only [Option.bind_some];rw [hL,z9G (by omega) hN,y6P,x5U hl,fin _ rfl _ (by rw [x3Z];omega),h];rfl
end Go.Yec
