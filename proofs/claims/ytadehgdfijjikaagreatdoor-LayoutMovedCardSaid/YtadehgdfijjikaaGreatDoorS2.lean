/-
  SHAPES IN MEMORY: a value that is a shape, read off a world;carried to later worlds.;Mod, Up, Both of the reference, up of the layout, walked.
-/
import Derived.Test.YtadehgdfijjikaaGreatDoorT1
import Derived.Test.YtadehgdfijjikaaGreatDoorZ4
import Derived.Test.YtadehgdfijjikaaGreatDoorS1
set_option linter.all false
namespace Go.Proofs
open Go.RowKit Go.Yec Go.Shp
def DmAt (w:World)(v:Value)(D:List (Int×Int)):Prop :=
  ∃ a cap,v = .slice a D.length cap/\(D≠[]->∃ b o,a=some ⟨b,o,none⟩/\b<w.heap.size) /\
    ∀ b o,a=some ⟨b,o,none⟩->∀ i,i<D.length->w.cell? ⟨b,o+i*2,none⟩=some (.int .i64 (D.getD i (0, 0)).1)/\w.cell? ⟨b,o+i*2+1,none⟩=some (.int .i64 (D.getD i (0, 0)).2)
def tyC (t:Ty):List Value:=[.int .i64 t.k, .int .i64 t.p, .int .i64 t.q, .bool t.v, .string t.pic]
def shC (dv pv:Value)(t:Ty)(g:Bool):List Value:=[dv,pv, .int .i64 t.k, .int .i64 t.p, .int .i64 t.q, .bool t.v, .string t.pic, .bool g]
abbrev shV (dv pv:Value)(t:Ty)(g:Bool):Value:= .agg #[dv,pv, .int .i64 t.k, .int .i64 t.p, .int .i64 t.q, .bool t.v, .string t.pic, .bool g]
mutual
def ShAt (w:World):Value->Value->Sh->Prop
  | dv,pv, .node D P _ _=>DmAt w dv D/\∃ a cap,pv = .slice a P.length cap/\(P≠[]->∃ b o,a=some ⟨b,o,none⟩/\b<w.heap.size)/\∀ b o,a=some ⟨b,o,none⟩->ShL w b o P
def ShL (w:World):Nat->Nat->List Sh->Prop
  | _,_,[]=>True
  | b,o,p::P=>(∃ dv pv,(∀ j,j<8->w.cell? ⟨b,o+j,none⟩=(shC dv pv p.t p.g)[j]?)/\ShAt w dv pv p)/\ShL w b (o+8) P
end
theorem v2A {w:World}{b:Nat}:∀ {P:List Sh} {o:Nat}, ShL w b o P->∀ i (p:Sh),P[i]? = some p->∃ dv pv,(∀ j,j<8->w.cell? ⟨b,o+i*8+j,none⟩=(shC dv pv p.t p.g)[j]?)/\ShAt w dv pv p
  | [],_,_,i,p,hp=>by simp at hp
  | q::P,o,h, 0,p,hp=>by
    simp only [List.getElem?_cons_zero,Option.some.injEq] at hp;subst hp;unfold ShL at h
    simpa using h.1
  | q::P,o,h,i+1,p,hp=>by
    unfold ShL at h;obtain ⟨dv,pv,h1,h2⟩:=v2A h.2 i p (by simpa using hp)
    refine ⟨dv,pv,fun j hj=>?_,h2⟩;rw [show o+(i+1)*8+j=o+8+i*8+j by omega]
    exact h1 j hj
theorem u9Y {w w':World}(h:∀ a:Addr,a.block<w.heap.size->w'.cell? a=w.cell? a)(hs:w.heap.size <= w'.heap.size){v:Value}{D:List (Int×Int)}(hd:DmAt w v D):DmAt w' v D:=by
  obtain ⟨a,cap,hv,h0,hc⟩:=hd;refine ⟨a,cap,hv,fun ac=>?_,fun b o ha i hi=>?_⟩
  . obtain ⟨b,o,ha,hb⟩:=h0 ac;exact ⟨b,o,ha,by omega⟩
  . obtain ⟨b',o',bw,hb⟩:=h0 (by intro hn;subst hn;simp at hi)
    rw [ha] at bw;cases bw;rw [h _ hb,h _ hb];exact hc b o ha i hi
mutual
theorem z0B {w w':World}(h:∀ a:Addr,a.block<w.heap.size->w'.cell? a=w.cell? a)(hs:w.heap.size <= w'.heap.size):∀ {dv pv:Value} {s:Sh}, ShAt w dv pv s->ShAt w' dv pv s
  | dv,pv, .node D P t g,⟨hd,a,cap,hv,h0,hc⟩=>by
    refine ⟨u9Y h hs hd,a,cap,hv,fun ac=>?_,fun b o ha=>?_⟩
    . obtain ⟨b,o,ha,hb⟩:=h0 ac;exact ⟨b,o,ha,by omega⟩
    . cases P with
      | nil=>trivial
      | cons p P =>
        obtain ⟨b',o',bw,hb⟩:=h0 (by simp)
        rw [ha] at bw;cases bw;exact y5W h hs hb (hc b o ha)
theorem y5W {w w':World}(h:∀ a:Addr,a.block<w.heap.size->w'.cell? a=w.cell? a)(hs:w.heap.size <= w'.heap.size){b:Nat}(hb:b<w.heap.size):∀ {o:Nat} {P:List Sh}, ShL w b o P->ShL w' b o P
  | _,[],_=>trivial
  | o,p::P,⟨⟨dv,pv,h1,h2⟩,h3⟩=>⟨⟨dv,pv,fun j hj=>(h _ hb).trans (h1 j hj),z0B h hs h2⟩,y5W h hs hb h3⟩
end
theorem u7S {w w':World}(hB:Below w.heap.size w w'){dv pv:Value}{s:Sh}(h:ShAt w dv pv s):ShAt w' dv pv s :=
  z0B (fun a ha=>hB.cell ha) hB.size h
structure ShBox (w:World) (B:Nat) (dv pv:Value) (t:Ty) (g:Bool):Prop where
  lt:B<w.heap.size
  c0:w.cell? ⟨B, 0,none⟩=some dv
  c1:w.cell? ⟨B, 1,none⟩=some pv
  c2:w.cell? ⟨B, 2,none⟩=some (.int .i64 t.k)
  c3:w.cell? ⟨B, 3,none⟩=some (.int .i64 t.p)
  c4:w.cell? ⟨B, 4,none⟩=some (.int .i64 t.q)
  c5:w.cell? ⟨B, 5,none⟩=some (.bool t.v)
  c6:w.cell? ⟨B, 6,none⟩=some (.string t.pic)
  c7:w.cell? ⟨B, 7,none⟩=some (.bool g)
theorem ShBox.keep {w w':World}{B:Nat}{dv pv:Value}{t:Ty}{g:Bool}(h:ShBox w B dv pv t g){k:Nat}(hb:Below k w w')(hk:B<k):ShBox w' B dv pv t g :=
  ⟨Nat.lt_of_lt_of_le h.lt hb.size,(hb.cell hk).trans h.c0,(hb.cell hk).trans h.c1,(hb.cell hk).trans h.c2,(hb.cell hk).trans h.c3,(hb.cell hk).trans h.c4,(hb.cell hk).trans h.c5,(hb.cell hk).trans h.c6,(hb.cell hk).trans h.c7⟩
theorem ShBox.below {w w':World}{B:Nat}{dv pv:Value}{t:Ty}{g:Bool}(h:ShBox w B dv pv t g)(hb:Below w.heap.size w w'):ShBox w' B dv pv t g:=h.keep hb h.lt
theorem ShBox.alloc {w:World}{B:Nat}{dv pv:Value}{t:Ty}{g:Bool}(h:ShBox w B dv pv t g)(o:Obj):ShBox (w.alloc o) B dv pv t g:=h.below ((Below.refl _ w).alloc (Nat.le_refl _) o)
theorem ShBox.here (w:World)(dv pv:Value)(t:Ty)(g:Bool):ShBox (w.alloc (.cells #[dv,pv, .int .i64 t.k, .int .i64 t.p, .int .i64 t.q, .bool t.v, .string t.pic, .bool g] 27)) w.heap.size dv pv t g:=by
  constructor <;> simp
theorem ShAt.slices {w:World}{dv pv:Value}{s:Sh}(h:ShAt w dv pv s):∃ a c a' c',dv = .slice a s.D.length c/\pv = .slice a' s.P.length c':=by
  obtain ⟨D,P,t,g⟩:=s;unfold ShAt at h;obtain ⟨⟨da,dcap,rfl, -, -⟩,pa,pcap,rfl, -, -⟩:=h;exact ⟨_,_,_,_,rfl,rfl⟩
theorem part_at {W w:World}{b o:Nat}{P:List Sh}(hB:Below W.heap.size W w)(hb:b<W.heap.size)(h:ShL W b o P){i:Nat}(hi:i<P.length) :
    ∃ a c a' c' s,P[i]? = some s/\ShAt W (.slice a s.D.length c) (.slice a' s.P.length c') s/\w.cell? ⟨b,o+i*8,none⟩=some (.slice a s.D.length c)/\w.cell? ⟨b,o+i*8+1,none⟩=some (.slice a' s.P.length c')/\w.cell? ⟨b,o+i*8+2,none⟩=some (.int .i64 s.t.k)/\w.cell? ⟨b,o+i*8+3,none⟩=some (.int .i64 s.t.p) /\
      w.cell? ⟨b,o+i*8+4,none⟩=some (.int .i64 s.t.q)/\w.cell? ⟨b,o+i*8+5,none⟩=some (.bool s.t.v)/\w.cell? ⟨b,o+i*8+6,none⟩=some (.string s.t.pic)/\w.cell? ⟨b,o+i*8+7,none⟩=some (.bool s.g):=by
  obtain ⟨dv,pv,hc,hs⟩:=v2A h i P[i] (List.getElem?_eq_getElem hi);obtain ⟨a,c,a',c',rfl,rfl⟩:=hs.slices;refine ⟨a,c,a',c',P[i],List.getElem?_eq_getElem hi,hs, ?_⟩;have k:=fun j hj=>(hB.cell (p:=⟨b,o+i*8+j,none⟩) hb).trans (hc j hj);exact ⟨k 0 (by omega),k 1 (by omega),k 2 (by omega),k 3 (by omega),k 4 (by omega),k 5 (by omega),k 6 (by omega),k 7 (by omega)⟩
set_option maxHeartbeats 400000 in
theorem z4P (a m:Int)(w:World)(hm:1 <= m/\m <= 64) :
    Calls Tryz.prog 146 #[.int .i64 a, .int .i64 m] w fun e w'=>e = .returned (.int .i64 (a%m))/\w'=w:=by
  have ht:-64<a.tmod m/\a.tmod m<64:=by
    have h1:=Int.tmod_lt_of_pos a (show 0<m by omega)
    have:=Int.neg_tmod (a:=a) (b:=m)
    have:=Int.tmod_lt_of_pos (-a) (show 0<m by omega)
    omega
  have h0:¬ m=0:=by omega
  have h3:a.tmod m=a-m*(a.tdiv m):=by have:=Int.mul_tdiv_add_tmod a m;omega
  have nU:(a.tmod m)%m=a%m:=by rw [h3,Int.sub_mul_emod_self_left]
  have hH:Hid ((a.tmod m)%m=a%m):=nU;clear h3 nU
  by_cases hs:a.tmod m<0
  . have hv:a.tmod m+m=a%m := by
      have h1:-m<a.tmod m:=by
        have:=Int.neg_tmod (a:=a) (b:=m)
        have:=Int.tmod_lt_of_pos (-a) (show 0<m by omega)
        omega
      rw [<- hH.out, <- Int.add_emod_right,Int.emod_eq_of_lt (by omega) (by omega)]
    have fq:Hid (a.tmod m+m=a%m):=hv;clear hv;go_enter Tryz.func146,Tryz.ntmps146;go_wp2;go_ret
    first | exact ⟨rfl,rfl⟩ | exact ⟨congrArg (fun z=>Ending.returned (.int .i64 z)) fq.out,rfl⟩
  . have hv:a.tmod m=a%m := by
      rw [<- hH.out,Int.emod_eq_of_lt (by omega) (Int.tmod_lt_of_pos a (by omega))]
    have fq:Hid (a.tmod m=a%m):=hv;clear hv;go_enter Tryz.func146,Tryz.ntmps146;go_wp2;go_ret
    first | exact ⟨rfl,rfl⟩ | exact ⟨congrArg (fun z=>Ending.returned (.int .i64 z)) fq.out,rfl⟩
theorem z5K {n m:Int}(hm:1 <= m):n <= upS n m/\upS n m<n+m:=by
  have:=Int.emod_nonneg (-n) (show m≠0 by omega)
  have:=Int.emod_lt_of_pos (-n) (show 0<m by omega)
  unfold upS;omega
theorem upS_dvd (n m:Int):m∣upS n m:=by
  unfold upS;have h:=Int.emod_add_mul_ediv (-n) m;exact ⟨-((-n)/m),by rw [Int.mul_neg];omega⟩
set_option maxHeartbeats 400000 in
theorem Up_any (n m:Int)(w:World)(hm:1 <= m/\m <= 64)(hn:0 <= n/\n <= 1000000000) :
    Calls Tryz.prog 95 #[.int .i64 n, .int .i64 m] w fun e w'=>e = .returned (.int .i64 (upS n m))/\w'=w:=by
  have h1:=Int.emod_nonneg (-n) (show m≠0 by omega)
  have h2:=Int.emod_lt_of_pos (-n) (show 0<m by omega)
  unfold upS;go_enter Tryz.func95,Tryz.ntmps95
  go_wp2_with (go_at_call 146;refine (z4P _ _ _ hm).mono ?_;rintro e w' ⟨rfl,rfl⟩)
  go_ret;exact ⟨rfl,rfl⟩
theorem up_eq {n m:Int}(hm:1 <= m)(hn:0 <= n):(n+m-1).tdiv m*m=upS n m:=by
  rw [Int.tdiv_eq_ediv_of_nonneg (by omega)]
  have h1:=z5K (n:=n) hm;obtain ⟨c,hc⟩:=upS_dvd n m;rw [hc] at h1 |-
  have hq:(n+m-1)/m=c:=by
    rw [show n+m-1=(n+m-1-m*c)+m*c by omega,Int.add_mul_ediv_left _ _ (by omega)]
    rw [Int.ediv_eq_zero_of_lt (by omega) (by omega)]
    omega
  rw [hq,Int.mul_comm]
set_option maxHeartbeats 400000 in
theorem up_any (n m:Int)(w:World)(hm:1 <= m/\m <= 64)(hn:0 <= n/\n <= 1000000000) :
    Calls Tryz.prog 93 #[.int .i64 n, .int .i64 m] w fun e w'=>e = .returned (.int .i64 (upS n m))/\w'=w:=by
  have h0:¬ m=0:=by omega
  have he:=up_eq hm.1 hn.1;have hi:=z5K (n:=n) hm.1;have hq:0 <= (n+m-1).tdiv m/\(n+m-1).tdiv m <= 1000000100:=by
    rw [Int.tdiv_eq_ediv_of_nonneg (by omega)]
    refine ⟨Int.ediv_nonneg (by omega) (by omega), ?_⟩
    exact Int.le_trans (Int.ediv_le_self _ (by omega)) (by omega)
  go_enter Tryz.func93,Tryz.ntmps93;go_wp2;go_ret;exact ⟨rfl,rfl⟩
abbrev unV (u:Un):Value:= .agg #[.int .i64 u.s, .int .i64 u.b, .int .i64 u.a]
def x2S (u:Un):Prop:=good u.s u.b u.a
theorem join_un (u v:Un)(w:World)(h1:x2S u)(h2:x2S v) :
    Calls Tryz.prog 101 #[unV u,unV v] w fun e w'=>e = .returned (.tuple #[unV (x1Q u v), .int .i64 (gapU u v)])/\Below w.heap.size w w':=by
  refine (join_any u.s u.b u.a v.s v.b v.a w h1 h2).mono ?_;rintro e w' ⟨rfl,o1,o2,o3,o4,rfl⟩;exact ⟨rfl,((((Below.refl _ w).alloc (Nat.le_refl _) _).alloc (by simp) _).alloc (by simp;omega) _).alloc (by simp;omega) _⟩
set_option maxRecDepth 100000 in
set_option maxHeartbeats 1000000 in
theorem Both_un (u v:Un)(w:World)(h1:x2S u)(h2:x2S v) :
    Calls Tryz.prog 103 #[unV u,unV v] w fun e w'=>e = .returned (.tuple #[unV (x1Q u v), .int .i64 (gapU u v)])/\Below w.heap.size w w':=by
  obtain ⟨s,b,a⟩:=u;obtain ⟨s',b',a'⟩:=v;obtain ⟨m1,p1,p2,p3,p4⟩:=h1;obtain ⟨m2,q1,q2,q3,q4⟩:=h2;simp only at m1 p1 p2 p3 p4 m2 q1 q2 q3 q4;have r1:=x3L m1;have r2:=x3L m2;rcases Int.lt_trichotomy a' a with ai | rfl | eN
  . have g1:=Int.emod_nonneg (s'-s-b) (show a'≠0 by omega)
    have g2:=Int.emod_lt_of_pos (s'-s-b) (show 0<a' by omega)
    have hj:x1Q ⟨s,b,a⟩ ⟨s',b',a'⟩=⟨s,b+(s'-s-b)%a'+b',a⟩/\gapU ⟨s,b,a⟩ ⟨s',b',a'⟩=(s'-s-b)%a':=by
      have aV:a' <= a:=by omega
      simp [x1Q,gapU,aV]
    rw [hj.1,hj.2];clear hj;go_enter Tryz.func103,Tryz.ntmps103
    go_wp2_with (go_at_call 146;refine (z4P _ _ _ (by omega)).mono ?_;rintro e w' ⟨rfl,rfl⟩)
    refine bodyPost_ret (v:= .tuple #[unV ⟨s,b+(s'-s-b)%a'+b',a⟩, .int .i64 ((s'-s-b)%a')]) (by simp [results,Tryz.results103,go_sem]) rfl ⟨rfl,((((Below.refl _ w).alloc (Nat.le_refl _) _).alloc (by simp) _).alloc (by simp;omega) _).alloc (by simp;omega) _⟩
  . have g1:=Int.emod_nonneg (s'-s-b) (show a'≠0 by omega)
    have g2:=Int.emod_lt_of_pos (s'-s-b) (show 0<a' by omega)
    have hj:x1Q ⟨s,b,a'⟩ ⟨s',b',a'⟩=⟨s,b+(s'-s-b)%a'+b',a'⟩/\gapU ⟨s,b,a'⟩ ⟨s',b',a'⟩=(s'-s-b)%a':=by
      simp [x1Q,gapU]
    rw [hj.1,hj.2];clear hj;go_enter Tryz.func103,Tryz.ntmps103
    go_wp2_with (go_at_call 146;refine (z4P _ _ _ (by omega)).mono ?_;rintro e w' ⟨rfl,rfl⟩)
    refine bodyPost_ret (v:= .tuple #[unV ⟨s,b+(s'-s-b)%a'+b',a'⟩, .int .i64 ((s'-s-b)%a')]) (by simp [results,Tryz.results103,go_sem]) rfl ⟨rfl,((((Below.refl _ w).alloc (Nat.le_refl _) _).alloc (by simp) _).alloc (by simp;omega) _).alloc (by simp;omega) _⟩
  . have g1:=Int.emod_nonneg (s'-s-b) (show a≠0 by omega)
    have g2:=Int.emod_lt_of_pos (s'-s-b) (show 0<a by omega)
    have hj:x1Q ⟨s,b,a⟩ ⟨s',b',a'⟩=⟨(s'-(s'-s-b)%a-b)%a',b+(s'-s-b)%a+b',a'⟩/\gapU ⟨s,b,a⟩ ⟨s',b',a'⟩=(s'-s-b)%a:=by
      have aV:¬ a' <= a:=by omega
      simp [x1Q,gapU,aV]
    rw [hj.1,hj.2];clear hj;go_enter Tryz.func103,Tryz.ntmps103
    go_wp2_with (go_at_call 146;refine (z4P _ _ _ (by omega)).mono ?_;rintro e w' ⟨rfl,rfl⟩)
    refine bodyPost_ret (v:= .tuple #[unV ⟨(s'-(s'-s-b)%a-b)%a',b+(s'-s-b)%a+b',a'⟩, .int .i64 ((s'-s-b)%a)]) (by simp [results,Tryz.results103,go_sem]) rfl ⟨rfl,((((Below.refl _ w).alloc (Nat.le_refl _) _).alloc (by simp) _).alloc (by simp;omega) _).alloc (by simp;omega) _⟩
end Go.Proofs
