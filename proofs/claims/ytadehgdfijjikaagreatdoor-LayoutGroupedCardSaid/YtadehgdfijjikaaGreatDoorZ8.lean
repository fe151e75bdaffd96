/-
  PLAIN LEAN: where the parts lie, grouped and by themselves.; PLAIN LEAN: Find of a part, grouped and by itself.; PLAIN LEAN: where variables lie one behind the other (Frame), and on another one (Defined).; PLAIN LEAN: what Check and Map say of grouped shapes.
-/
import Derived.Test.YtadehgdfijjikaaGreatDoorZ7
import Derived.Test.YtadehgdfijjikaaGreatDoorS5
set_option linter.all false
namespace Go.Shp
open Go Go.Yec Go.Proofs
theorem mp_of_el {D : List (Int × Int)} {P : List Sh} {t : Ty} {g : Bool} {n : Nd} (h : mpS (.node D P t g) = some n) : ∃ e a ns r m,elL P t g = some (e,a,ns) /\ stR D.reverse (str0 e) e.b [] = some (r,m) /\ n = .mk ⟨e.s,r,e.a⟩ e m a ns:=by
  unfold mpS at h;obtain ⟨⟨e,a,ns⟩,he,h⟩:=Option.bind_eq_some_iff.1 h;obtain ⟨⟨r,m⟩,hs,rfl⟩:=Option.map_eq_some_iff.1 h;exact ⟨e,a,ns,r,m,he,hs,rfl⟩
theorem mp_el {D : List (Int × Int)} {P : List Sh} {t : Ty} {g : Bool} {e : Un} {a : List Int} {ns : List Nd} {r : Int} {m : List Int} (he : elL P t g = some (e,a,ns)) (hs : stR D.reverse (str0 e) e.b [] = some (r,m)) : mpS (.node D P t g) = some (.mk ⟨e.s,r,e.a⟩ e m a ns):=by
  unfold mpS;rw [he];simp only [Option.bind_some];rw [hs];rfl
def grpd (D : List (Int × Int)) (P : List Sh) (k : Nat) : Sh:= .node D (grp (P.take k) :: P.drop k) ty00 false
theorem v4A {D : List (Int × Int)} {P : List Sh} {t : Ty} {g : Bool} {n : Nd} {k : Nat} (hk : 1 <= k) (hkP : k <= P.length) (h : mpS (.node D P t g) = some n) :
    ∃ u e m a1 a2 n1 n2 e1,n = .mk u e m (a1 ++ a2) (n1 ++ n2) /\ a1.length = k /\ n1.length = k /\ mpS (grpd D P k) = some (.mk u e m (0 :: a2) (.mk e1 e1 [] a1 n1 :: n2)):=by
  obtain ⟨e,a,ns,r,m,he,hs,rfl⟩:=mp_of_el h;obtain ⟨p,P1,hP1⟩ : ∃ p P1,P.take k = p :: P1:=by
    cases hp : P.take k with
    | nil =>
      have:=congrArg List.length hp
      rw [List.length_take,Nat.min_eq_left hkP] at this;simp at this;omega
    | cons p P1=>exact ⟨p,P1,rfl⟩
  have hl : P1.length + 1 = k:=by
    have:=congrArg List.length hP1
    rw [List.length_take,Nat.min_eq_left hkP] at this;simp at this;omega
  rw [<- List.take_append_drop k P,hP1] at he;obtain ⟨e1,a1,a2,n1,n2,h1,rfl,rfl,h4,h5,h6⟩:=el_grp he;refine ⟨_,e,m,a1,a2,n1,n2,e1,rfl,by omega,by omega, ?_⟩
  unfold grpd;rw [hP1];exact mp_el h6 hs
end Go.Shp
namespace Go.Shp
open Go Go.Yec Go.Proofs
theorem u1N {s : Sh} {n : Nd} {path : List Int} {s' : Sh} {n' : Nd} {off : Int} {st : List Stp} (hv : valS s 0 1 = true) (hm : mpS s = some n) (hf : fnd path s n n.u.s (stpN s n) = some (s',n',off,st)) : fndR s path = (plc s' n' path off st, 0):=by
  unfold fndR;rw [hv,hm];simp only [cond_true];rw [hf]
theorem grp_find {D : List (Int × Int)} {P : List Sh} {t : Ty} {g : Bool} {k i : Nat} (hk : 1 <= k) (hkP : k <= P.length) (hi : i < P.length) (hv : valS (.node D P t g) 0 1 = true) {n : Nd} (hm : mpS (.node D P t g) = some n) (hvt : valS (grpd D P k) 0 1 = true) :
    ∃ off st p q,fndR (.node D P t g) [(i : Int)] = (p, 0) /\ fndR (grpd D P k) (if i < k then [0,(i : Int)] else [(i : Int) - k + 1]) = (q, 0) /\ p.off = off /\ q.off = off /\ p.st = st /\ q.st = st:=by
  obtain ⟨u,e,m,a1,a2,n1,n2,e1,rfl,ha1,hn1,hmt⟩:=v4A hk hkP hm;obtain ⟨-, hal,hnl,hparts⟩:=z6D hm;obtain ⟨mi,hmi, -⟩:=hparts i P[i] (List.getElem?_eq_getElem hi);simp only [Nd.at',Nd.ps,Sh.P] at hal hnl hmi;obtain ⟨ai,hai⟩ : ∃ ai,(a1 ++ a2)[i]? = some ai:=⟨_,List.getElem?_eq_getElem (by omega)⟩
  have hPi : P[i]? = some P[i]:=List.getElem?_eq_getElem hi;have h1 : fnd [(i : Int)] (.node D P t g) (.mk u e m (a1 ++ a2) (n1 ++ n2)) u.s (stpN (.node D P t g) (.mk u e m (a1 ++ a2) (n1 ++ n2))) = some (P[i],mi,u.s + ai,stpN (.node D P t g) (.mk u e m (a1 ++ a2) (n1 ++ n2)) ++ stpN P[i] mi):=by
    rw [fnd,if_pos ⟨by omega,by simp only [Sh.P]; omega⟩]
    simp only [Int.toNat_natCast,Sh.P,Nd.ps,Nd.at',hPi,hmi,hai,fnd]
  obtain ⟨pt,hq⟩ : ∃ pt,fndR (grpd D P k) (if i < k then [0,(i : Int)] else [(i : Int) - k + 1]) = (plc P[i] mi pt (u.s + ai) (stpN (.node D P t g) (.mk u e m (a1 ++ a2) (n1 ++ n2)) ++ stpN P[i] mi), 0):=by
    rw [List.length_append] at hal hnl
    by_cases hik : i < k
    . rw [if_pos hik];have hPk : (P.take k)[i]? = some P[i]:=by rw [List.getElem?_take,if_pos hik]; exact hPi
      have ha : a1[i]? = some ai:=by rw [<- hai,List.getElem?_append_left (by omega)]
      have hn : n1[i]? = some mi:=by rw [<- hmi,List.getElem?_append_left (by omega)]
      refine ⟨_,u1N hvt hmt (s':=P[i]) (n':=mi) (off:=u.s + ai) (st:=stpN (.node D P t g) (.mk u e m (a1 ++ a2) (n1 ++ n2)) ++ stpN P[i] mi) ?_⟩;rw [fnd,if_pos ⟨by omega,by simp [grpd,Sh.P]⟩]
      simp only [grpd,Sh.P,Nd.ps,Nd.at',Int.toNat_zero,List.getElem?_cons_zero];rw [fnd,if_pos ⟨by omega,by simp [grp,Sh.P]; omega⟩]
      simp only [grp,Sh.P,Nd.ps,Nd.at',Int.toNat_natCast,hPk,hn,ha,fnd,Nd.u];simp [stpN,Sh.D,Nd.st]
    . rw [if_neg hik];have hPk : (P.drop k)[i - k]? = some P[i]:=by rw [List.getElem?_drop,show k + (i - k) = i by omega]; exact hPi
      have ha : a2[i - k]? = some ai:=by rw [<- hai,List.getElem?_append_right (by omega),ha1]
      have hn : n2[i - k]? = some mi:=by rw [<- hmi,List.getElem?_append_right (by omega),hn1]
      refine ⟨_,u1N hvt hmt (s':=P[i]) (n':=mi) (off:=u.s + ai) (st:=stpN (.node D P t g) (.mk u e m (a1 ++ a2) (n1 ++ n2)) ++ stpN P[i] mi) ?_⟩;rw [fnd,if_pos ⟨by omega,by simp [grpd,Sh.P]; omega⟩]
      rw [show ((i : Int) - k + 1).toNat = (i - k) + 1 by omega]
      simp only [grpd,Sh.P,Nd.ps,Nd.at',List.getElem?_cons_succ,hPk,hn,ha,fnd,Nd.u];simp [stpN,Sh.D,Nd.st]
  exact ⟨_,_,_,_,u1N hv hm h1,hq,rfl,rfl,rfl,rfl⟩
end Go.Shp
namespace Go.Shp
open Go Go.Yec Go.Proofs
theorem map_some {s : Sh} (h : (mapR s).2 = 0) : valS s 0 1 = true /\ ∃ n,mpS s = some n /\ (mapR s).1 = n.u:=by
  unfold mapR at h |-
  cases hv : valS s 0 1
  . rw [hv] at h; cases h
  . cases hm : mpS s with
    | none=>rw [hv,hm] at h; cases h
    | some n=>exact ⟨rfl,n,rfl,rfl⟩
end Go.Shp
namespace Go.Shp
open Go Go.Yec Go.Proofs
theorem x7L {s : Sh} (h : chk s = 0) : valS s 0 1 = true /\ ∃ n,mpS s = some n /\ mapR s = (n.u, 0):=by
  unfold chk at h;unfold mapR;cases hv : valS s 0 1
  . rw [hv] at h; cases h
  . rw [hv] at h;cases hm : mpS s with
    | none=>rw [hm] at h; cases h
    | some n=>exact ⟨rfl,n,rfl,rfl⟩
theorem u0M {s : Sh} (h : chk (grp [s]) = 0) (hs : chk s = 0) : mapR (grp [s]) = ((mapR s).1, 0):=by
  obtain ⟨-, n,hn,hm⟩:=x7L h;obtain ⟨-, m,hm1,hm2⟩:=x7L hs
  have:=mp_one s
  rw [hn,hm1] at this;simp only [Option.map_some,Option.some.injEq] at this;rw [hm,hm2,this]
theorem grpd_map {D : List (Int × Int)} {P : List Sh} {t : Ty} {g : Bool} {k : Nat} (hk : 1 <= k) (hkP : k <= P.length) (hs : chk (.node D P t g) = 0) (h : chk (grpd D P k) = 0) : mapR (grpd D P k) = ((mapR (.node D P t g)).1, 0):=by
  obtain ⟨-, n,hn,hm⟩:=x7L h;obtain ⟨-, m,hm1,hm2⟩:=x7L hs;obtain ⟨u,e,m',a1,a2,n1,n2,e1,rfl, -, -, hx⟩:=v4A hk hkP hm1;rw [hn] at hx;cases hx;rw [hm,hm2];rfl
theorem v5E {D : List (Int × Int)} {P : List Sh} {t : Ty} {g : Bool} {k i : Nat} (hk : 1 <= k) (hkP : k <= P.length) (hi : i < P.length) (hs : chk (.node D P t g) = 0) (h : chk (grpd D P k) = 0) :
    (fndR (.node D P t g) [(i : Int)]).2 = 0 /\ (fndR (grpd D P k) (if i < k then [0,(i : Int)] else [(i : Int) - k + 1])).2 = 0 /\ (fndR (.node D P t g) [(i : Int)]).1.off = (fndR (grpd D P k) (if i < k then [0,(i : Int)] else [(i : Int) - k + 1])).1.off /\ (fndR (.node D P t g) [(i : Int)]).1.st = (fndR (grpd D P k) (if i < k then [0,(i : Int)] else [(i : Int) - k + 1])).1.st:=by
  obtain ⟨hv,n,hn, -⟩:=x7L hs;obtain ⟨hvt, -, -, -⟩:=x7L h;obtain ⟨off,st,p,q,h1,h2,h3,h4,h5,h6⟩:=grp_find hk hkP hi hv hn hvt;rw [h1,h2];exact ⟨rfl,rfl,h3.trans h4.symm,h5.trans h6.symm⟩
theorem v2H {P : List Sh} (h : ∀ p ∈ P,okS p) : sokL P:=by
  induction P with
  | nil=>trivial
  | cons p P ih=>exact ⟨h p (by simp),ih fun q hq=>h q (by simp [hq])⟩
theorem grp1_ok {s : Sh} (h : okS s) : okS (grp [s]) /\ scnt (grp [s]) = 1 + scnt s:=by
  refine ⟨⟨by simp,by simp,by simp [ty00],h,trivial⟩, ?_⟩
  simp [grp,scnt,x1J]
theorem grpd_ok {D : List (Int × Int)} {P : List Sh} {t : Ty} {g : Bool} {k : Nat} (hk : 1 <= k) (hkP : k <= P.length) (h : okS (.node D P t g)) : okS (grpd D P k) /\ scnt (grpd D P k) = 1 + scnt (.node D P t g):=by
  obtain ⟨h1,h2, -, h4⟩:=h;refine ⟨⟨h1,by simp; omega,by simp [ty00],⟨by simp,by simp; omega,by simp [ty00],v2H fun p hp=>x6Z h4 p (List.mem_of_mem_take hp)⟩,v2H fun p hp=>x6Z h4 p (List.mem_of_mem_drop hp)⟩, ?_⟩
  have:=x4K (P.take k) (P.drop k)
  rw [List.take_append_drop] at this;simp only [grpd,grp,scnt,x1J];omega
end Go.Shp
