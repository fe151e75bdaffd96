/-
  Grouped shapes in memory.; slices.Equal of two lists of steps that are the same, walked.; LayoutGrouped, walked.
-/
import Derived.Test.YtadehgdfijjikaaGreatDoorS7
import Derived.Test.YtadehgdfijjikaaGreatDoorS11
import Derived.Test.YtadehgdfijjikaaGreatDoorO1
import Derived.Test.YtadehgdfijjikaaGreatDoorZ8
import Derived.Test.YtadehgdfijjikaaGreatDoorY12
set_option linter.all false
namespace Go.Proofs
open Go.RowKit Go.Yec Go.Shp Go.Deep
open Go.Xec (Glob)
theorem v4Y (a b : Int) (w : World) (hb : 1 <= b) (hb2 : b <= 1000000) :
    Calls Tryz.prog 30 #[.int .i64 a, .int .i64 b] w fun e w'=>(∃ r : Int,e = .returned (.int .i64 r) /\ 0 <= r /\ r < b) /\ w' = w:=by
  have hw : IntKind.u64.wrap b = b:=by rw [IntKind.wrap_u64]; omega
  have h0 : ¬ IntKind.u64.wrap b = 0:=by omega
  have hx : 0 <= IntKind.u64.wrap a:=by rw [IntKind.wrap_u64]; omega
  have h1:=Int.emod_lt_of_pos (IntKind.u64.wrap a) (show 0 < b by omega)
  have h2:=Int.emod_nonneg (IntKind.u64.wrap a) (show b ≠ 0 by omega)
  have h3 : wrap64 (IntKind.u64.wrap a % b) = IntKind.u64.wrap a % b:=by unfold wrap64; omega
  go_enter Tryz.func30,Tryz.ntmps30;go_wp2;go_ret;exact ⟨⟨_,rfl,h2,h1⟩,rfl⟩
theorem shC_one {w : World} {dv pv : Value} {s : Sh} (h : ShAt w dv pv s) : ∀ u ∈ shC dv pv s.t s.g,u.oneCell' = true:=by
  obtain ⟨a,c,a',c',rfl,rfl⟩:=h.slices;intro u hu;simp [shC] at hu;rcases hu with rfl | rfl | rfl | rfl | rfl | rfl | rfl | rfl <;> rfl
theorem z5L {w : World} {b : Nat} : ∀ {P : List Sh} {o : Nat}, ShL w b o P -> ∃ xs : List Value,xs.length = P.length * 8 /\ (∀ j u,xs[j]? = some u -> w.cell? ⟨b,o + j,none⟩ = some u) /\ (∀ u ∈ xs,u.oneCell' = true) /\ ∀ (i : Nat) (p : Sh),P[i]? = some p -> ∃ dv pv,(∀ j,j < 8 -> xs[i * 8 + j]? = (shC dv pv p.t p.g)[j]?) /\ ShAt w dv pv p
  | [],_,_=>⟨[],rfl,fun j u h=>(by simp at h),fun u h=>(by cases h),fun i p h=>(by simp at h)⟩
  | p :: P,o,h=>by
    unfold ShL at h;obtain ⟨⟨dv,pv,h1,h2⟩,h3⟩:=h;obtain ⟨xs,g1,g2,g3,g4⟩:=z5L h3;have hl : (shC dv pv p.t p.g).length = 8:=rfl;refine ⟨shC dv pv p.t p.g ++ xs,by rw [List.length_append,hl,g1,List.length_cons]; omega,fun j u hj=> ?_,fun u hu=> ?_,fun i q hq=> ?_⟩
    . by_cases hj8 : j < 8
      . rw [List.getElem?_append_left (by omega)] at hj
        rw [h1 j hj8];exact hj
      . rw [List.getElem?_append_right (by omega),hl] at hj
        have:=g2 _ _ hj
        rwa [show o + 8 + (j - 8) = o + j by omega] at this
    . rcases List.mem_append.1 hu with hu | hu
      . exact shC_one h2 u hu
      . exact g3 u hu
    . cases i with
      | zero =>
        simp only [List.getElem?_cons_zero,Option.some.injEq] at hq;subst hq;exact ⟨dv,pv,fun j hj=>by rw [List.getElem?_append_left (by omega)]; simp,h2⟩
      | succ i =>
        obtain ⟨dv',pv',k1,k2⟩:=g4 i q (by simpa using hq)
        refine ⟨dv',pv',fun j hj=> ?_,k2⟩;rw [List.getElem?_append_right (by omega),hl,show (i + 1) * 8 + j - 8 = i * 8 + j by omega]
        exact k1 j hj
theorem shL_take {w : World} {b o k : Nat} {P : List Sh} (h : ShL w b o P) : ShL w b o (P.take k):=y9N fun i p hp=>z1V h i p (by
  rw [List.getElem?_take] at hp;split at hp
  . exact hp
  . cases hp)
theorem shL_drop {w : World} {b o k : Nat} {P : List Sh} (h : ShL w b o P) : ShL w b (o + k * 8) (P.drop k):=y9N fun i p hp=>by
  rw [List.getElem?_drop] at hp;obtain ⟨dv,pv,h1,h2⟩:=z1V h (k + i) p hp;refine ⟨dv,pv,fun j hj=> ?_,h2⟩;rw [show o + k * 8 + i * 8 + j = o + (k + i) * 8 + j by omega]
  exact h1 j hj
theorem u6U (w : World) : DmAt w (.slice none 0 0) []:=⟨none, 0,rfl,fun h=>absurd rfl h,fun _ _ h=>by cases h⟩
theorem x5R {w : World} {B t : Nat} {c : Array Value} (h : B = w.heap.size) : NB (w.alloc (.cells c t)) B c t:=h ▸ NB.here w c t
theorem shBox_nb {w : World} {G : Nat} {dv pv : Value} {t : Ty} {g : Bool} (h : NB w G #[dv,pv, .int .i64 t.k, .int .i64 t.p, .int .i64 t.q, .bool t.v, .string t.pic, .bool g] 27) : ShBox w G dv pv t g :=
  ⟨h.lt,h.cell 0,h.cell 1,h.cell 2,h.cell 3,h.cell 4,h.cell 5,h.cell 6,h.cell 7⟩
theorem v5F {w : World} {B : Nat} {dv pv : Value} {s : Sh} (hs : ShAt w dv pv s) (hn : NB w B #[dv,pv, .int .i64 s.t.k, .int .i64 s.t.p, .int .i64 s.t.q, .bool s.t.v, .string s.t.pic, .bool s.g] 27) : ShAt w (.slice none 0 0) (.slice (some ⟨B, 0,none⟩) 1 1) (grp [s]):=by
  refine ⟨u6U w,_,_,rfl,fun _=>⟨_,_,rfl,hn.lt⟩,fun b o h=> ?_⟩;cases h;refine y9N fun i p hp=> ?_;cases i with
  | zero =>
    simp only [List.getElem?_cons_zero,Option.some.injEq] at hp;subst hp;refine ⟨dv,pv,fun j hj=> ?_,hs⟩;rw [hn.cell];simp [shC]
  | succ i=>simp at hp
theorem grpd_at {w : World} {base b o k cp n : Nat} {dv ov : Value} {D : List (Int × Int)} {P : List Sh} {xs : List Value} (ho : w.ownsRow base 27 8 ov n (shC (.slice none 0 0) (.slice (some ⟨b,o,none⟩) k cp) ty00 false ++ xs)) (hk : k <= P.length) (hn : n = 1 + (P.length - k)) (hb : b < w.heap.size) (hL : ShL w b o P) (hD : DmAt w dv D)
    (hx : xs.length = (P.length - k) * 8) (hxs : ∀ (i : Nat) (p : Sh),(P.drop k)[i]? = some p -> ∃ dv pv,(∀ j,j < 8 -> xs[i * 8 + j]? = (shC dv pv p.t p.g)[j]?) /\ ShAt w dv pv p) :
    ∃ g cap,ov = .slice (some ⟨g, 0,none⟩) (1 + (P.length - k)) cap /\ ShAt w dv ov (grpd D P k):=by
  subst hn;obtain ⟨g,cap,rfl⟩:=u5F ho (by omega)
  have hlt:=u5E ho (g:=g) rfl;refine ⟨g,cap,rfl,hD,some ⟨g, 0,none⟩,cap,by simp; omega,fun _=>⟨g, 0,rfl,hlt⟩,fun b' o' h=> ?_⟩
  cases h;have hcell : ∀ j,j < 8 + (P.length - k) * 8 -> w.cell? ⟨g,j,none⟩ = (shC (.slice none 0 0) (.slice (some ⟨b,o,none⟩) k cp) ty00 false ++ xs)[j]? :=fun j hj=>ho.cellAt j (by omega)
  refine y9N fun i p hp=> ?_;cases i with
  | zero =>
    simp only [List.getElem?_cons_zero,Option.some.injEq] at hp;subst hp;refine ⟨.slice none 0 0, .slice (some ⟨b,o,none⟩) k cp,fun j hj=> ?_,u6U w,some ⟨b,o,none⟩,cp,by simp [Nat.min_eq_left hk],fun _=>⟨_,_,rfl,hb⟩,fun b' o' h=> ?_⟩
    . rw [show 0 + 0 * 8 + j = j by omega,hcell j (by omega),List.getElem?_append_left (by simpa [shC] using hj)]
      rfl
    . cases h;exact shL_take hL
  | succ i =>
    have hp' : (P.drop k)[i]? = some p:=by simpa using hp
    have hi:=(List.getElem?_eq_some_iff.1 hp').1;rw [List.length_drop] at hi;obtain ⟨dv',pv',h1,h2⟩:=hxs i p hp';refine ⟨dv',pv',fun j hj=> ?_,h2⟩;rw [show 0 + (i + 1) * 8 + j = 8 + (i * 8 + j) by omega,hcell _ (by omega),List.getElem?_append_right (by simp [shC])]
    rw [show 8 + (i * 8 + j) - (shC (.slice none 0 0) (.slice (some ⟨b,o,none⟩) k cp) ty00 false).length = i * 8 + j by simp [shC]]
    exact h1 j hj
theorem cat_grp (w V : World) (B2 b o k c2 n3 c3 : Nat) (P : List Sh) (A : Option Addr) (hL : ShL w b o P) (hBV : Below w.heap.size w V) (hb : b < w.heap.size) (hk : k <= P.length) (hA : A = some ⟨b,o + k * 8,none⟩ \/ (P.length = k /\ ∃ a,A = some a)) (hn : n3 = P.length - k) (hP : P.length <= 1000)
    (hV : ∃ B1,NB V B1 #[.slice none 0 0, .slice (some ⟨b,o,none⟩) k c2, .int .i64 0, .int .i64 0, .int .i64 0, .bool false, .string ⟨#[]⟩, .bool false] 27 /\ NB V B2 #[.slice (some ⟨B1, 0,none⟩) 1 1, .slice A n3 c3] 22) :
    Calls Tryz.prog 41 #[.slice (some ⟨B2, 0,none⟩) 2 2] V
      fun e w'=>(∃ g cap,e = .returned (.slice (some ⟨g, 0,none⟩) (1 + (P.length - k)) cap) /\ V.heap.size <= g /\ g < w'.heap.size /\ ∀ w'',w'.heap.size <= w''.heap.size -> (∀ x,x < w.heap.size \/ x = g -> w''.heap[x]? = w'.heap[x]?) -> ∀ dv D,DmAt w dv D -> ShAt w'' dv (.slice (some ⟨g, 0,none⟩) (1 + (P.length - k)) cap) (grpd D P k)) /\ Below V.heap.size V w':=by
  subst hn;obtain ⟨B1,hV1,hV2⟩:=hV;obtain ⟨xs,g1,g2,g3,g4⟩:=z5L (shL_drop (k:=k) hL);rw [List.length_drop] at g1;refine (v6G V B2 0 2 (some ⟨B1, 0,none⟩) A 1 (P.length - k) 1 c3 (shC (.slice none 0 0) (.slice (some ⟨b,o,none⟩) k c2) ty00 false) xs (hV2.cell 0) (hV2.cell 1) ⟨fun h=>(by cases h),rfl,fun ad h j u hj=> ?_, ?_⟩ ⟨fun h=> ?_,g1,fun ad h j u hj=> ?_,g3⟩ (by omega)).mono ?_
  . cases h;rw [u7N,hV1.cell,Nat.zero_add]
    simpa [shC,ty00] using hj
  . intro u hu;simp [shC] at hu;rcases hu with rfl | rfl | rfl | rfl | rfl | rfl | rfl | rfl <;> rfl
  . rcases hA with h2 | ⟨-, a,h2⟩
    . rw [h] at h2; cases h2
    . rw [h] at h2; cases h2
  . rcases hA with h2 | ⟨h3, -⟩
    . rw [h] at h2;cases h2;rw [u7N];exact (hBV.cell (p:=⟨b,o + k * 8 + j,none⟩) hb).trans (g2 j u hj)
    . have:=(List.getElem?_eq_some_iff.1 hj).1
      omega
  . rintro e w' ⟨⟨v,rfl,ho⟩,hbb⟩;have hBw : Below w.heap.size w w':=hBV.trans (hbb.mono hBV.size);obtain ⟨g,cap,rfl⟩:=u5F ho (by omega)
    have hgl:=(y5Z ho (g:=g) rfl).1;refine ⟨⟨g,cap,rfl,hgl,u5E ho (g:=g) rfl,fun w'' hsz hsame dv D hD=> ?_⟩,hbb⟩;have hcar : ∀ a : Addr,a.block < w.heap.size -> w''.cell? a = w.cell? a:=fun a ha=>(World.cell?_of_block (w:=w') (hsame _ (.inl ha))).trans (hBw.cell ha);have hsz2 : w.heap.size <= w''.heap.size:=Nat.le_trans hBw.size hsz;have ho2:=owm_at (w':=w'') ho (fun g' hg'=>by cases hg'; exact hsame _ (.inr rfl))
    obtain ⟨g',cap',he,hsh⟩:=grpd_at (D:=D) ho2 hk rfl (Nat.lt_of_lt_of_le hb hsz2) (y0L hcar hsz2 hb hL) (z0X hcar hsz2 hD) g1 (fun i p hp=>by
      obtain ⟨dv',pv',h1,h2⟩:=g4 i p hp;exact ⟨dv',pv',h1,y1R hcar hsz2 h2⟩)
    exact hsh
section
open Go.ChangeShapes Go.WideShapes Go.ChangeAt Go.Joins
variable {H : Type} {enc : TypeId × Value -> H} {w : World} {base : Nat} {spare : Nat -> Bool} {held : Bool}
set_option maxRecDepth 100000 in
theorem open_cap {x : Value} {d : DataW H} {ps : List MemPlace} {dv : Value} {a : Option Addr} {n c : Nat} {t : Ty} {g : Bool} (hx : x = shV dv (.slice a n c) t g) (h : DataW.Trod enc Tryz.prog w base spare held 27 x d ps) : n <= c /\ c <= maxLen:=by
  subst hx;obtain ⟨fuel,hf⟩:=h;obtain ⟨xs,m,rfl, -, hl,hlen,hfl⟩:=DataW.trod_struct Tryz.underlying27 hf
  match xs,hlen with
  | [y0,y1,y2,y3],_ =>
    have h1 : DataW.trod enc Tryz.prog w base spare held m 22 [.slice a n c] = some y1:=by simpa [v6T,Value.cells] using hfl 1 _ rfl
    rcases DataW.trod_slice Tryz.underlying22 h1 with ⟨e1, -⟩ | ⟨a',len,cap,elems,rest,n', -, e1, -, hb,hcl,hm, -⟩
    . cases e1; unfold maxLen; omega
    . cases e1; exact ⟨hcl,hm⟩
end
end Go.Proofs
namespace Go.Proofs
open Go.RowKit Go.Yec Go.Shp Go.Deep
set_option maxRecDepth 100000 in
set_option maxHeartbeats 2000000 in
theorem y7E (L : List Stp) (w : World) (v v' : Value) (h : x7P w v L) (h' : x7P w v' L) (hL : L.length <= 1000000) :
    Calls Tryz.prog 37 #[v,v'] w fun e w'=>e = .returned (.bool true) /\ Below w.heap.size w w':=by
  obtain ⟨a,cap,rfl⟩:=h.form;obtain ⟨a',cap',rfl⟩:=h'.form;go_enter Tryz.func37,Tryz.ntmps37;go_wp2
  go_loopw [13] (fun vx wr=> ∃ x : Int,vx = .int .i64 x /\ 0 <= x /\ x <= L.length /\ Below w.heap.size w wr) (fun vx _=>(L.length - intOf vx).toNat)
  case atStart=>exact ⟨0,rfl,by omega,by omega,Below.refl _ _⟩
  case round =>
    obtain ⟨x,rfl,x0,x1,hb⟩:=hrel
    by_cases hlt : x < (L.length : Int)
    . obtain ⟨b,o,cap1,y,hv,hbl,hy,c0,c1,c2⟩:=(StepsS.below h hb).at (i:=x.toNat) (by omega)
      obtain ⟨b',o',cap1',y',hv',hbl',hy',c0',c1',c2'⟩:=(StepsS.below h' hb).at (i:=x.toNat) (by omega)
      cases hv;cases hv';rw [hy] at hy';cases hy';obtain ⟨y1,y2,y3⟩:=y;simp only at c0 c1 c2 c0' c1' c2';clear h h' hy;go_wp2
      go_quiet (fail)
      go_wp2
      go_roundw
      case rel=>exact ⟨_,rfl,by omega,by omega,x7N hb _⟩
      case measure=>simp [intOf]; omega
    . have : x = L.length:=by omega
      subst this;clear h h';go_wp2;go_ret;exact ⟨rfl,hb⟩
end Go.Proofs
namespace Go.Proofs
open Go.RowKit Go.Yec Go.Shp Go.Deep
open Go.Xec (Glob)
theorem NB.top {w w' : World} {c : Array Value} {t : Nat} (hb : Below (w.alloc (.cells c t)).heap.size (w.alloc (.cells c t)) w') : NB w' w.heap.size c t:=(NB.here w c t).below hb
theorem y0M {w0 w w' : World} {B : Nat} {p q : Value} (hB : B < w0.heap.size) (h : w.cell? ⟨B, 0,none⟩ = some p /\ w.cell? ⟨B, 1,none⟩ = some q /\ Below w0.heap.size w0 w) (hb : Below w.heap.size w w') : w'.cell? ⟨B, 0,none⟩ = some p /\ w'.cell? ⟨B, 1,none⟩ = some q /\ Below w0.heap.size w0 w':=by
  obtain ⟨h0,h1,h2⟩:=h;have hs:=h2.size;have k:=fun (i : Nat)=>hb.cell (p:=⟨B,i,none⟩) (by simp only; omega)
  exact ⟨(k 0).trans h0,(k 1).trans h1,h2.trans (hb.mono hs)⟩
theorem z5B {w0 w : World} {B : Nat} {p q : Value} {o : Obj} (hB : B < w0.heap.size) (h : w.cell? ⟨B, 0,none⟩ = some p /\ w.cell? ⟨B, 1,none⟩ = some q /\ Below w0.heap.size w0 w) : (w.alloc o).cell? ⟨B, 0,none⟩ = some p /\ (w.alloc o).cell? ⟨B, 1,none⟩ = some q /\ Below w0.heap.size w0 (w.alloc o):=y0M hB h ((Below.refl _ w).alloc (Nat.le_refl _) o)
theorem y0N {w0 w : World} {B : Nat} {p q : Value} (h : w.cell? ⟨B, 0,none⟩ = some p /\ w.cell? ⟨B, 1,none⟩ = some q /\ Below w0.heap.size w0 w) : Below w0.heap.size w0 w:=h.2.2
theorem y5J {w : World} {G x : Nat} {y0 y1 y2 y3 y4 y5 y6 y7 : Value} (hx : x ≠ G) : ((((((((w.setCell ⟨G, 0,none⟩ y0).setCell ⟨G, 1,none⟩ y1).setCell ⟨G, 2,none⟩ y2).setCell ⟨G, 3,none⟩ y3).setCell ⟨G, 4,none⟩ y4).setCell ⟨G, 5,none⟩ y5).setCell ⟨G, 6,none⟩ y6).setCell ⟨G, 7,none⟩ y7).heap[x]? = w.heap[x]? :=by
  rw [Below.heap_setCell _ _ _ _ hx,Below.heap_setCell _ _ _ _ hx,Below.heap_setCell _ _ _ _ hx,Below.heap_setCell _ _ _ _ hx,Below.heap_setCell _ _ _ _ hx,Below.heap_setCell _ _ _ _ hx,Below.heap_setCell _ _ _ _ hx,Below.heap_setCell _ _ _ _ hx]
theorem v2M {w : World} {G : Nat} {y0 y1 y2 y3 y4 y5 y6 y7 : Value} : ((((((((w.setCell ⟨G, 0,none⟩ y0).setCell ⟨G, 1,none⟩ y1).setCell ⟨G, 2,none⟩ y2).setCell ⟨G, 3,none⟩ y3).setCell ⟨G, 4,none⟩ y4).setCell ⟨G, 5,none⟩ y5).setCell ⟨G, 6,none⟩ y6).setCell ⟨G, 7,none⟩ y7).heap.size = w.heap.size:=by simp
theorem nb_set8 {w : World} {G : Nat} {a0 a1 a2 a3 a4 a5 a6 a7 y0 y1 y2 y3 y4 y5 y6 y7 : Value} (h : NB w G #[a0,a1,a2,a3,a4,a5,a6,a7] 27) : NB ((((((((w.setCell ⟨G, 0,none⟩ y0).setCell ⟨G, 1,none⟩ y1).setCell ⟨G, 2,none⟩ y2).setCell ⟨G, 3,none⟩ y3).setCell ⟨G, 4,none⟩ y4).setCell ⟨G, 5,none⟩ y5).setCell ⟨G, 6,none⟩ y6).setCell ⟨G, 7,none⟩ y7) G #[y0,y1,y2,y3,y4,y5,y6,y7] 27:=by
  have h0 : NB _ G #[y0,a1,a2,a3,a4,a5,a6,a7] 27:=h.set 0 y0;have h1 : NB _ G #[y0,y1,a2,a3,a4,a5,a6,a7] 27:=h0.set 1 y1;have h2 : NB _ G #[y0,y1,y2,a3,a4,a5,a6,a7] 27:=h1.set 2 y2;have h3 : NB _ G #[y0,y1,y2,y3,a4,a5,a6,a7] 27:=h2.set 3 y3;have h4 : NB _ G #[y0,y1,y2,y3,y4,a5,a6,a7] 27:=h3.set 4 y4;have h5 : NB _ G #[y0,y1,y2,y3,y4,y5,a6,a7] 27:=h4.set 5 y5;have h6 : NB _ G #[y0,y1,y2,y3,y4,y5,y6,a7] 27:=h5.set 6 y6;exact h6.set 7 y7
theorem u4N {w0 w : World} {B G : Nat} {p q y0 y1 y2 y3 y4 y5 y6 y7 : Value} (hG : w0.heap.size <= G) (hB : B < w0.heap.size) (h : w.cell? ⟨B, 0,none⟩ = some p /\ w.cell? ⟨B, 1,none⟩ = some q /\ Below w0.heap.size w0 w) : ((((((((w.setCell ⟨G, 0,none⟩ y0).setCell ⟨G, 1,none⟩ y1).setCell ⟨G, 2,none⟩ y2).setCell ⟨G, 3,none⟩ y3).setCell ⟨G, 4,none⟩ y4).setCell ⟨G, 5,none⟩ y5).setCell ⟨G, 6,none⟩ y6).setCell ⟨G, 7,none⟩ y7).cell? ⟨B, 0,none⟩ = some p /\ ((((((((w.setCell ⟨G, 0,none⟩ y0).setCell ⟨G, 1,none⟩ y1).setCell ⟨G, 2,none⟩ y2).setCell ⟨G, 3,none⟩ y3).setCell ⟨G, 4,none⟩ y4).setCell ⟨G, 5,none⟩ y5).setCell ⟨G, 6,none⟩ y6).setCell ⟨G, 7,none⟩ y7).cell? ⟨B, 1,none⟩ = some q /\ Below w0.heap.size w0 ((((((((w.setCell ⟨G, 0,none⟩ y0).setCell ⟨G, 1,none⟩ y1).setCell ⟨G, 2,none⟩ y2).setCell ⟨G, 3,none⟩ y3).setCell ⟨G, 4,none⟩ y4).setCell ⟨G, 5,none⟩ y5).setCell ⟨G, 6,none⟩ y6).setCell ⟨G, 7,none⟩ y7):=by
  have hne : B ≠ G:=by omega
  refine ⟨(World.cell?_of_block (w:=w) (y5J hne)).trans h.1,(World.cell?_of_block (w:=w) (y5J hne)).trans h.2.1, ?_⟩;exact (((((((h.2.2.setCell (p:=⟨G, 0,none⟩) hG _).setCell (p:=⟨G, 1,none⟩) hG _).setCell (p:=⟨G, 2,none⟩) hG _).setCell (p:=⟨G, 3,none⟩) hG _).setCell (p:=⟨G, 4,none⟩) hG _).setCell (p:=⟨G, 5,none⟩) hG _).setCell (p:=⟨G, 6,none⟩) hG _).setCell (p:=⟨G, 7,none⟩) hG _
theorem nb27 {w : World} {G t : Nat} {a0 a1 a2 a3 a4 a5 a6 a7 : Value} (h : NB w G #[a0,a1,a2,a3,a4,a5,a6,a7] t) : w.cell? ⟨G, 0,none⟩ = some a0 /\ w.cell? ⟨G, 1,none⟩ = some a1 /\ w.cell? ⟨G, 2,none⟩ = some a2 /\ w.cell? ⟨G, 3,none⟩ = some a3 /\ w.cell? ⟨G, 4,none⟩ = some a4 /\ w.cell? ⟨G, 5,none⟩ = some a5 /\ w.cell? ⟨G, 6,none⟩ = some a6 /\ w.cell? ⟨G, 7,none⟩ = some a7 /\ ∀ i,w.frozen? ⟨G,i,none⟩ = false :=
  ⟨h.cell 0,h.cell 1,h.cell 2,h.cell 3,h.cell 4,h.cell 5,h.cell 6,h.cell 7,h.frozen⟩
theorem ints1 {w : World} {B t : Nat} {x : Int} (h : NB w B #[.int .i64 x] t) : IntsAt w (.slice (some ⟨B, 0,none⟩) 1 1) [x]:=by
  refine ⟨_, 1,rfl,fun h=>(by cases h),fun _=>⟨B, 0,rfl,h.lt⟩,fun b o ha i hi=> ?_⟩
  cases ha;have : i = 0:=by simp only [List.length_cons,List.length_nil] at hi; omega
  subst this;exact h.cell 0
theorem ints2 {w : World} {B t : Nat} {x y : Int} (h : NB w B #[.int .i64 x, .int .i64 y] t) : IntsAt w (.slice (some ⟨B, 0,none⟩) 2 2) [x,y]:=by
  refine ⟨_, 2,rfl,fun h=>(by cases h),fun _=>⟨B, 0,rfl,h.lt⟩,fun b o ha i hi=> ?_⟩
  cases ha;have : i = 0 \/ i = 1:=by simp only [List.length_cons,List.length_nil] at hi; omega
  rcases this with rfl | rfl
  . exact h.cell 0
  . exact h.cell 1
set_option maxRecDepth 100000 in
set_option maxHeartbeats 8000000 in
theorem u1K (s : Sh) (dv pv : Value) (x : Int) (w : World) (hg : Glob w) (hs : ShAt w dv pv s) (hcap : ∀ a n c,pv = .slice a n c -> n <= c /\ c <= maxLen) :
    Calls Tryz.prog 8 #[shV dv pv s.t s.g, .int .i64 x] w fun e w'=>e = .returned (.bool true) /\ Below w.heap.size w w':=by
  obtain ⟨a1,c1,a2,c2,rfl,rfl⟩:=hs.slices;obtain ⟨hcp,hcm⟩:=hcap _ _ _ rfl;clear hcap;go_enter Tryz.func8,Tryz.ntmps8
  go_wp2_with (go_at_call 14; fail)
  have hx1:=ShBox.here w (.slice a1 s.D.length c1) (.slice a2 s.P.length c2) s.t s.g;generalize hw1 : w.alloc (.cells #[.slice a1 s.D.length c1, .slice a2 s.P.length c2, .int .i64 s.t.k, .int .i64 s.t.p, .int .i64 s.t.q, .bool s.t.v, .string s.t.pic, .bool s.g] 27) = w1 at hx1 |-
  have hB1 : Below w.heap.size w w1:=by
    rw [<- hw1];exact (Below.refl _ w).alloc (Nat.le_refl _) _
  clear hw1;refine (u4M _ (x0V hB1 hg)).mono ?_;rintro e w2 ⟨rfl,hb⟩;have hx2:=hx1.below hb;have hB2:=hB1.trans (hb.mono hB1.size);have hsz2:=hB2.size;clear hb hx1 hB1;obtain ⟨x0,k0,k1,k2,k3,k4,k5,k6,k7⟩:=id hx2;have hf:=fun w1 (hB : Below w.heap.size w w1)=>few_any s w1 _ _ 60 (y1S hB hs) (by omega) (by omega)
  go_wp2_with (go_at_call 15; fail)
  refine (hf _ hB2).mono ?_;rintro e w3 ⟨⟨fw,rfl,hfw⟩,hb⟩;have hx3:=hx2.below hb;have hB3:=hB2.trans (hb.mono hB2.size);have hsz3:=hB3.size;clear hb hx2 hB2 hf k0 k1 k2 k3 k4 k5 k6 k7 x0;obtain ⟨x0,k0,k1,k2,k3,k4,k5,k6,k7⟩:=id hx3;cases fw
  . clear hfw;go_wp2;go_ret;exact ⟨rfl,hB3⟩
  obtain ⟨hok,hct⟩:=hfw rfl;clear hfw;have hrc:=fun w1 hB=>x8F s w w1 _ _ hg hs hB hok (by omega)
  have hmp:=fun w1 hB=>y1Z s w w1 _ _ hg hs hB hok (by omega)
  obtain ⟨C,hC⟩ : ∃ C,chk s = C:=⟨_,rfl⟩;rw [hC] at hrc
  go_wp2_with (go_at_call 23; fail)
  refine (hrc _ hB3).mono ?_;rintro e w4 ⟨rfl,hb⟩;have hx4:=hx3.below hb;have hB4:=hB3.trans (hb.mono hB3.size);have hsz4:=hB4.size;clear hb hx3 hB3 hrc k0 k1 k2 k3 k4 k5 k6 k7 x0;obtain ⟨x0,k0,k1,k2,k3,k4,k5,k6,k7⟩:=id hx4
  by_cases hC0 : C = 0
  case neg =>
    clear hmp;go_wp2;go_ret;exact ⟨rfl,hB4⟩
  subst hC0;obtain ⟨-, n0, -, hmr⟩:=x7L hC;have hmr2 : mapR s = ((mapR s).1, 0):=by rw [hmr]
  clear hmr;have hmpe : ∀ w1,Below w.heap.size w w1 -> Calls Tryz.prog 24 #[shV (.slice a1 s.D.length c1) (.slice a2 s.P.length c2) s.t s.g] w1 fun e w'=>e = .returned (.tuple #[unV (mapR s).1, .int .i64 0]) /\ Below w1.heap.size w1 w':=fun w1 hB=>by
    have:=hmp w1 hB
    rw [hmr2] at this;exact this
  have h1m : Hid (chk (grp [s]) = 0 -> mapR (grp [s]) = ((mapR s).1, 0)):=fun h=>u0M h hC;have h2m : Hid (∀ k : Nat, 1 <= k -> k <= s.P.length -> chk (grpd s.D s.P k) = 0 -> mapR (grpd s.D s.P k) = ((mapR s).1, 0)):=fun k hk1 hk2 h=>by
    have:=grpd_map (t:=s.t) (g:=s.g) hk1 hk2 (by rw [<- Sh.eta]; exact hC) h
    rw [<- Sh.eta] at this;exact this
  have hCH : Hid (chk s = 0):=hC;clear hmp hmr2 hC;generalize (mapR s).1 = M at hmpe h1m h2m;obtain ⟨us,ub,ua⟩:=M
  go_wp2_with (go_at_call 24; fail)
  refine (hmpe _ hB4).mono ?_;rintro e w5 ⟨rfl,hb⟩;have hx5:=hx4.below hb;have hB5:=hB4.trans (hb.mono hB4.size);have hsz5:=hB5.size;clear hb hx4 hB4 hmpe k0 k1 k2 k3 k4 k5 k6 k7 x0;have hu6:=UBox.here w5 (.int .i64 us) (.int .i64 ub) (.int .i64 ua) 42;have hal6 : Below w5.heap.size w5 (w5.alloc (.cells #[.int .i64 us, .int .i64 ub, .int .i64 ua] 42)):=(Below.refl _ w5).alloc (Nat.le_refl _) _;have hx6:=hx5.below hal6;have hB6:=hB5.trans (hal6.mono hsz5);obtain ⟨x0,k0,k1,k2,k3,k4,k5,k6,k7⟩:=id hx6
  go_wp2_with (go_at_call 39; fail)
  have hn7:=NB.here (w5.alloc (.cells #[.int .i64 us, .int .i64 ub, .int .i64 ua] 42)) #[.slice a1 s.D.length c1, .slice a2 s.P.length c2, .int .i64 s.t.k, .int .i64 s.t.p, .int .i64 s.t.q, .bool s.t.v, .string s.t.pic, .bool s.g] 27;rw [World.size_alloc] at hn7;have hal7 : Below (w5.alloc (.cells #[.int .i64 us, .int .i64 ub, .int .i64 ua] 42)).heap.size (w5.alloc (.cells #[.int .i64 us, .int .i64 ub, .int .i64 ua] 42)) ((w5.alloc (.cells #[.int .i64 us, .int .i64 ub, .int .i64 ua] 42)).alloc (.cells #[.slice a1 s.D.length c1, .slice a2 s.P.length c2, .int .i64 s.t.k, .int .i64 s.t.p, .int .i64 s.t.q, .bool s.t.v, .string s.t.pic, .bool s.g] 27)):=(Below.refl _ _).alloc (Nat.le_refl _) _;have hx7:=hx6.below hal7;have hu7:=hu6.below hal7;have hB7:=hB6.trans (hal7.mono hB6.size);have hlt7 : w.heap.size <= w5.heap.size:=hsz5
  generalize hw7 : (w5.alloc (.cells #[.int .i64 us, .int .i64 ub, .int .i64 ua] 42)).alloc (.cells #[.slice a1 s.D.length c1, .slice a2 s.P.length c2, .int .i64 s.t.k, .int .i64 s.t.p, .int .i64 s.t.q, .bool s.t.v, .string s.t.pic, .bool s.g] 27) = w7 at hn7 hx7 hu7 hB7 |-
  clear hw7 hal7 hx6 hu6 hB6 hal6 hx5 hB5 k0 k1 k2 k3 k4 k5 k6 k7 x0;refine (y6Y _ _ _ _).mono ?_;rintro e w8 ⟨rfl,hb⟩;have hx8:=hx7.below hb;have hu8:=hu7.below hb;have hn8:=hn7.below hb;have hB8:=hB7.trans (hb.mono hB7.size);have hsz8:=hB8.size;clear hb hx7 hu7 hn7 hB7;have hgo:=grp1_ok hok;have hm1 : ∀ w1,Below w8.heap.size w8 w1 -> Calls Tryz.prog 24 #[shV (.slice none 0 0) (.slice (some ⟨w5.heap.size + 1, 0,none⟩) 1 1) ty00 false] w1 fun e w'=>e = .returned (.tuple #[unV (mapR (grp [s])).1, .int .i64 (mapR (grp [s])).2]) /\ Below w1.heap.size w1 w':=fun w1 h =>
    y1Z (grp [s]) w8 w1 _ _ (x0V hB8 hg) (v5F (y1S hB8 hs) hn8) h hgo.1 (by omega)
  generalize mapR (grp [s]) = M1 at hm1 h1m;obtain ⟨⟨vs,vb,va⟩,ve⟩:=M1
  go_wp2_with (go_at_call 24; fail)
  refine (hm1 _ (Below.refl _ _)).mono ?_;rintro e w9 ⟨rfl,hb⟩;have hx9:=hx8.below hb;have hu9:=hu8.below hb;have hB9:=hB8.trans (hb.mono hB8.size);have hsz9:=hB9.size;have hsz89:=hb.size;have hlt9:=hu9.lt;clear hb hx8 hu8 hn8 hB8 hm1;have hv10:=UBox.here w9 (.int .i64 vs) (.int .i64 vb) (.int .i64 va) 42;have hal10 : Below w9.heap.size w9 (w9.alloc (.cells #[.int .i64 vs, .int .i64 vb, .int .i64 va] 42)):=(Below.refl _ _).alloc (Nat.le_refl _) _;have hx10:=hx9.below hal10;have hu10:=hu9.below hal10;have hB10:=hB9.trans (hal10.mono hsz9);obtain ⟨x0,k0,k1,k2,k3,k4,k5,k6,k7⟩:=id hx10
  go_upto_region 9 with fail
  go_cut [55] (fun v55 wc=>v55 = .bool false /\ ShBox wc w.heap.size (.slice a1 s.D.length c1) (.slice a2 s.P.length c2) s.t s.g /\ UBox wc w5.heap.size (.int .i64 us) (.int .i64 ub) (.int .i64 ua) /\ Below w.heap.size w wc)
  case first =>
    go_wp2_with (go_at_call 39; fail)
    have hn11:=NB.here (w9.alloc (.cells #[.int .i64 vs, .int .i64 vb, .int .i64 va] 42)) #[.slice a1 s.D.length c1, .slice a2 s.P.length c2, .int .i64 s.t.k, .int .i64 s.t.p, .int .i64 s.t.q, .bool s.t.v, .string s.t.pic, .bool s.g] 27;rw [World.size_alloc] at hn11;have hal11 : Below (w9.alloc (.cells #[.int .i64 vs, .int .i64 vb, .int .i64 va] 42)).heap.size (w9.alloc (.cells #[.int .i64 vs, .int .i64 vb, .int .i64 va] 42)) ((w9.alloc (.cells #[.int .i64 vs, .int .i64 vb, .int .i64 va] 42)).alloc (.cells #[.slice a1 s.D.length c1, .slice a2 s.P.length c2, .int .i64 s.t.k, .int .i64 s.t.p, .int .i64 s.t.q, .bool s.t.v, .string s.t.pic, .bool s.g] 27)):=(Below.refl _ _).alloc (Nat.le_refl _) _;have hx11:=hx10.below hal11;have hu11:=hu10.below hal11;have hv11:=hv10.below hal11;have hB11:=hB10.trans (hal11.mono hB10.size)
    generalize hw11 : (w9.alloc (.cells #[.int .i64 vs, .int .i64 vb, .int .i64 va] 42)).alloc (.cells #[.slice a1 s.D.length c1, .slice a2 s.P.length c2, .int .i64 s.t.k, .int .i64 s.t.p, .int .i64 s.t.q, .bool s.t.v, .string s.t.pic, .bool s.g] 27) = w11 at hn11 hx11 hu11 hv11 hB11 |-
    clear hw11 hal11 hx10 hu10 hv10 hB10 hal10 hx9 hu9 hB9 k0 k1 k2 k3 k4 k5 k6 k7 x0;refine (y6Y _ _ _ _).mono ?_;rintro e w12 ⟨rfl,hb⟩;have hx12:=hx11.below hb;have hu12:=hu11.below hb;have hv12:=hv11.below hb;have hn12:=hn11.below hb;have hB12:=hB11.trans (hb.mono hB11.size);have hsz12:=hB12.size;clear hb hx11 hu11 hv11 hn11 hB11;have hc1 : ∀ w1,Below w12.heap.size w12 w1 -> Calls Tryz.prog 23 #[shV (.slice none 0 0) (.slice (some ⟨w9.heap.size + 1, 0,none⟩) 1 1) ty00 false] w1 fun e w'=>e = .returned (.int .i64 (chk (grp [s]))) /\ Below w1.heap.size w1 w':=fun w1 h =>
      x8F (grp [s]) w12 w1 _ _ (x0V hB12 hg) (v5F (y1S hB12 hs) hn12) h hgo.1 (by omega)
    generalize chk (grp [s]) = C1 at hc1 h1m
    go_wp2_with (go_at_call 23; fail)
    refine (hc1 _ (Below.refl _ _)).mono ?_;rintro e w13 ⟨rfl,hb⟩;have hx13:=hx12.below hb;have hu13:=hu12.below hb;have hv13:=hv12.below hb;have hB13:=hB12.trans (hb.mono hB12.size);have hsz13:=hB13.size;clear hb hx12 hu12 hv12 hn12 hB12 hc1;obtain ⟨x0,k0,k1,k2,k3,k4,k5,k6,k7⟩:=id hx13;obtain ⟨l0,m0,m1,m2, -, -, -⟩:=id hu13;obtain ⟨l1,q0,q1,q2, -, -, -⟩:=id hv13;have hgx : (C1 = 0 /\ vs = us /\ vb = ub /\ va = ua /\ ve = 0) \/ C1 ≠ 0:=by
      by_cases h : C1 = 0
      . have:=h1m.out h
        cases this;exact .inl ⟨h,rfl,rfl,rfl,rfl⟩
      . exact .inr h
    clear h1m;rcases hgx with ⟨rfl,rfl,rfl,rfl,rfl⟩ | hne
    all_goals
      go_wp2_with fail
      go_meet
      case rel=>exact ⟨rfl,hx13,hu13,hB13⟩
  case rest =>
    obtain ⟨rfl,hx14,hu14,hB14⟩:=hcut;have hsz14:=hB14.size
    by_cases hP : s.P.length = 0
    . obtain ⟨x0,k0,k1,k2,k3,k4,k5,k6,k7⟩:=id hx14;go_wp2;go_ret;exact ⟨rfl,hB14⟩
    obtain ⟨b,o,ha2,hbw,hL⟩ : ∃ b o,a2 = some ⟨b,o,none⟩ /\ b < w.heap.size /\ ShL w b o s.P:=by
      obtain ⟨D,P,t,g⟩:=s;unfold ShAt at hs;obtain ⟨-, a,cap,he,h0,h1⟩:=hs;obtain ⟨b,o,ha,hb⟩:=h0 (by intro h; rw [h] at hP; exact hP rfl)
      cases he;exact ⟨b,o,ha,hb,h1 b o ha⟩
    subst ha2;have hPl : s.P.length <= 100:=by
      obtain ⟨D,P,t,g⟩:=s;exact hok.2.1
    obtain ⟨x0,k0,k1,k2,k3,k4,k5,k6,k7⟩:=id hx14
    go_upto_region 13 with fail
    go_cut [1] (fun v1 wx=> ∃ k : Nat,v1 = .int .i64 k /\ 1 <= k /\ k <= s.P.length /\ wx = wc)
    case first =>
      go_wp2_with (go_at_call 30; fail)
      refine (v4Y x s.P.length _ (by omega) (by omega)).mono ?_
      rintro e w15 ⟨⟨r,rfl,r0,r1⟩,rfl⟩
      go_wp2_with fail
      go_meet
      case rel=>exact ⟨(1 + r).toNat,by rw [Int.toNat_of_nonneg (by omega)],by omega,by omega,rfl⟩
    case rest =>
      obtain ⟨k,rfl,hk1,hk2,hwx⟩:=hcut;subst hwx;obtain ⟨W1,hW1⟩ : ∃ W1,W1 = wc:=⟨_,rfl⟩;subst hW1;have hlx:=hx14.lt;have hs_top:=hs
      go_upto_region 14 with fail
      go_cut [9] (fun v9 wx=> ∃ (G g cap : Nat),v9 = .pointer (some ⟨G, 0,none⟩) /\ ShBox wx G (.slice a1 s.D.length c1) (.slice (some ⟨g, 0,none⟩) (1 + (s.P.length - k)) cap) ty00 false /\ ShAt wx (.slice a1 s.D.length c1) (.slice (some ⟨g, 0,none⟩) (1 + (s.P.length - k)) cap) (grpd s.D s.P k) /\ Below W1.heap.size W1 wx)
      case first =>
        have hk3 : (0 : Int) <= k:=by omega
        have hk4 : (k : Int) <= s.P.length:=by omega
        have hk5 : (s.P.length : Int) <= c2:=by omega
        have hk6 : (k : Int) <= c2:=by omega
        have hd0 : W1.drew.heap.size = W1.heap.size:=rfl
        go_region_held3 (fun w'=>w'.cell? ⟨w.heap.size, 0,none⟩ = some (.slice a1 s.D.length c1) /\ w'.cell? ⟨w.heap.size, 1,none⟩ = some (.slice (some ⟨b,o,none⟩) s.P.length c2) /\ Below W1.heap.size W1 w')
          (first
            | (with_reducible assumption)
            | (with_reducible refine z5B hlx ?_; first | (with_reducible assumption) | (with_reducible exact hS))
            | (with_reducible refine u4N ?_ hlx ?_; (omega); (first | (with_reducible exact hS) | (with_reducible assumption)))
            | (refine y0M hlx ?_ hbb; with_reducible assumption)
            | exact z5B (w:=W1.drew) hlx ⟨k0,k1,(Below.refl _ _).drew⟩
            | exact ⟨k0,k1,(Below.refl _ _).drew⟩)
          (first
            | (go_at_call 39; refine (y6Y _ _ _ _).mono ?_; rintro e w' ⟨rfl,hbb⟩; have hS:=y0M hlx ‹_› hbb; have hs:=hbb.size; (try simp only [World.size_alloc] at hs); (try (have hs2 : (W1.alloc (.cells #[.slice none 0 0, .slice none 0 0, .int .i64 0, .int .i64 0, .int .i64 0, .bool false, .string ⟨#[]⟩, .bool false] 27)).heap.size <= w'.heap.size:=hbb.size; simp only [World.size_alloc] at hs2)); (first | (have hG:=(x5R (c:= #[.slice none 0 0, .slice none 0 0, .int .i64 0, .int .i64 0, .int .i64 0, .bool false, .string ⟨#[]⟩, .bool false]) (t:= 27) rfl).below hbb) | (have hG:=(NB.drew (x5R (c:= #[.slice none 0 0, .slice none 0 0, .int .i64 0, .int .i64 0, .int .i64 0, .bool false, .string ⟨#[]⟩, .bool false]) (t:= 27) rfl)).below hbb) | (have hG:=((x5R (c:= #[.slice none 0 0, .slice none 0 0, .int .i64 0, .int .i64 0, .int .i64 0, .bool false, .string ⟨#[]⟩, .bool false]) (t:= 27) rfl).alloc _).below hbb) | (have hG:=(((x5R (c:= #[.slice none 0 0, .slice none 0 0, .int .i64 0, .int .i64 0, .int .i64 0, .bool false, .string ⟨#[]⟩, .bool false]) (t:= 27) rfl).alloc _).alloc _).below hbb) | (have hG:=hG.below hbb) | (have hG:=(hG.alloc _).below hbb) | (have hG:=((hG.alloc _).alloc _).below hbb) | skip); (try simp only [World.size_alloc] at hG); (try rw [hd0] at hG); (first | (have hK:=hK.trans (hbb.mono hK.size)) | (have hK:=(hK.alloc hK.size _).trans (hbb.mono (hK.alloc hK.size _).size)) | skip); dsimp only)
            | (go_at_call 41; refine (cat_grp w _ _ b o k c2 _ (c2 - k) s.P (if c2 = k then some ⟨b,o,none⟩ else some ⟨b,o + k * 8,none⟩) hL ?g1 hbw hk2 ?g2 rfl (by omega) ?g3).mono ?_; (case g1=>exact hB14.trans ((y0N ‹_›).mono hsz14)); (case g2=>(split; exact .inr ⟨by omega,_,rfl⟩; exact .inl rfl)); (case g3=>(first | exact ⟨_,(x5R (by first | rfl | simp)).alloc _,x5R (by first | rfl | simp)⟩ | exact ⟨_,((x5R (by first | rfl | simp)).alloc _).alloc _,x5R (by first | rfl | simp)⟩ | exact ⟨_,((x5R (by first | rfl | simp)).alloc _).alloc _,(x5R (by first | rfl | simp)).alloc _⟩)); rintro e w' ⟨⟨g,cap,rfl,hg1,hg2,hsh⟩,hbb⟩; (try simp only [World.size_alloc] at hg1); have hK:=Below.refl w'.heap.size w'; have hS:=y0M hlx ‹_› hbb; have hs:=hbb.size; (try simp only [World.size_alloc] at hs); (try (have hs2 : (W1.alloc (.cells #[.slice none 0 0, .slice none 0 0, .int .i64 0, .int .i64 0, .int .i64 0, .bool false, .string ⟨#[]⟩, .bool false] 27)).heap.size <= w'.heap.size:=hbb.size; simp only [World.size_alloc] at hs2)); (first | (have hG:=(x5R (c:= #[.slice none 0 0, .slice none 0 0, .int .i64 0, .int .i64 0, .int .i64 0, .bool false, .string ⟨#[]⟩, .bool false]) (t:= 27) rfl).below hbb) | (have hG:=(NB.drew (x5R (c:= #[.slice none 0 0, .slice none 0 0, .int .i64 0, .int .i64 0, .int .i64 0, .bool false, .string ⟨#[]⟩, .bool false]) (t:= 27) rfl)).below hbb) | (have hG:=((x5R (c:= #[.slice none 0 0, .slice none 0 0, .int .i64 0, .int .i64 0, .int .i64 0, .bool false, .string ⟨#[]⟩, .bool false]) (t:= 27) rfl).alloc _).below hbb) | (have hG:=(((x5R (c:= #[.slice none 0 0, .slice none 0 0, .int .i64 0, .int .i64 0, .int .i64 0, .bool false, .string ⟨#[]⟩, .bool false]) (t:= 27) rfl).alloc _).alloc _).below hbb) | (have hG:=hG.below hbb) | (have hG:=(hG.alloc _).below hbb) | (have hG:=((hG.alloc _).alloc _).below hbb) | skip); (try simp only [World.size_alloc] at hG); (try rw [hd0] at hG); dsimp only)
            | (go_at_call 40; refine (rows_any _ _ _ _ _ _ _ ⟨_,_,_,rfl⟩ ty00 _ _).mono ?_; rintro e w' ⟨rfl,hbb⟩; have hS:=y0M hlx ‹_› hbb; have hs:=hbb.size; (try simp only [World.size_alloc] at hs); (try (have hs2 : (W1.alloc (.cells #[.slice none 0 0, .slice none 0 0, .int .i64 0, .int .i64 0, .int .i64 0, .bool false, .string ⟨#[]⟩, .bool false] 27)).heap.size <= w'.heap.size:=hbb.size; simp only [World.size_alloc] at hs2)); (first | (have hG:=(x5R (c:= #[.slice none 0 0, .slice none 0 0, .int .i64 0, .int .i64 0, .int .i64 0, .bool false, .string ⟨#[]⟩, .bool false]) (t:= 27) rfl).below hbb) | (have hG:=(NB.drew (x5R (c:= #[.slice none 0 0, .slice none 0 0, .int .i64 0, .int .i64 0, .int .i64 0, .bool false, .string ⟨#[]⟩, .bool false]) (t:= 27) rfl)).below hbb) | (have hG:=((x5R (c:= #[.slice none 0 0, .slice none 0 0, .int .i64 0, .int .i64 0, .int .i64 0, .bool false, .string ⟨#[]⟩, .bool false]) (t:= 27) rfl).alloc _).below hbb) | (have hG:=(((x5R (c:= #[.slice none 0 0, .slice none 0 0, .int .i64 0, .int .i64 0, .int .i64 0, .bool false, .string ⟨#[]⟩, .bool false]) (t:= 27) rfl).alloc _).alloc _).below hbb) | (have hG:=hG.below hbb) | (have hG:=(hG.alloc _).below hbb) | (have hG:=((hG.alloc _).alloc _).below hbb) | skip); (try simp only [World.size_alloc] at hG); (try rw [hd0] at hG); (first | (have hK:=hK.trans (hbb.mono hK.size)) | (have hK:=(hK.alloc hK.size _).trans (hbb.mono (hK.alloc hK.size _).size)) | skip); (first | (have hGn:=nb27 hG; obtain ⟨z0,z1,z2,z3,z4,z5,z6,z7,zf⟩:=hGn) | skip); dsimp only))
        all_goals
          have hD : DmAt w (.slice a1 s.D.length c1) s.D:=by
            obtain ⟨D,P,t,g⟩:=s;exact hs_top.1
          dsimp only [Exit.then]
          refine (‹∀ (a' : Act) (w' : World),Met _ a' w' -> _›) _ _ ?_
          go_meet
          case rel =>
            first
              | (with_reducible refine ⟨_,g,cap,rfl,ShBox.here _ _ _ ty00 false, ?_, ?_⟩
                 . exact hsh _ (hK.alloc hK.size _).size (fun x hx=>(hK.alloc hK.size _).block x (by omega)) _ _ hD
                 . exact (y0N hS).alloc (y0N hS).size _)
              | (with_reducible refine ⟨_,g,cap,rfl,shBox_nb (nb_set8 hG), ?_, ?_⟩
                 . exact hsh _ (by rw [v2M]; exact hK.size) (fun x hx=>(y5J (by omega)).trans (hK.block x (by omega))) _ _ hD
                 . exact y0N (u4N (by omega) hlx hS))
      case rest =>
        obtain ⟨G,g,cap,rfl,hxG,hsG,hBc⟩:=hcut;have hszc:=hBc.size;have hx15:=hx14.below hBc;have hGlt:=hxG.lt;have hB15:=hB14.trans (hBc.mono hsz14);have hsz15:=hB15.size;have hokT : okS (grpd s.D s.P k) /\ scnt (grpd s.D s.P k) = 1 + scnt s:=by
          have:=grpd_ok (D:=s.D) (P:=s.P) (t:=s.t) (g:=s.g) hk1 hk2 (by rw [<- Sh.eta]; exact hok)
          rwa [<- Sh.eta] at this
        obtain ⟨WT,hWT⟩ : ∃ WT,WT = wc:=⟨_,rfl⟩;subst hWT;have hgT:=x0V hB15 hg;have hcT : ∀ w1,Below WT.heap.size WT w1 -> Calls Tryz.prog 23 #[shV (.slice a1 s.D.length c1) (.slice (some ⟨g, 0,none⟩) (1 + (s.P.length - k)) cap) ty00 false] w1 fun e w'=>e = .returned (.int .i64 (chk (grpd s.D s.P k))) /\ Below w1.heap.size w1 w':=fun w1 h=>x8F (grpd s.D s.P k) WT w1 _ _ hgT hsG h hokT.1 (by omega)
        have hmT : ∀ w1,Below WT.heap.size WT w1 -> Calls Tryz.prog 24 #[shV (.slice a1 s.D.length c1) (.slice (some ⟨g, 0,none⟩) (1 + (s.P.length - k)) cap) ty00 false] w1 fun e w'=>e = .returned (.tuple #[unV (mapR (grpd s.D s.P k)).1, .int .i64 (mapR (grpd s.D s.P k)).2]) /\ Below w1.heap.size w1 w':=fun w1 h=>y1Z (grpd s.D s.P k) WT w1 _ _ hgT hsG h hokT.1 (by omega)
        have hfT : ∀ w1 qv path,Below WT.heap.size WT w1 -> IntsAt w1 qv path -> path.length <= 200 -> Calls Tryz.prog 36 #[shV (.slice a1 s.D.length c1) (.slice (some ⟨g, 0,none⟩) (1 + (s.P.length - k)) cap) ty00 false,qv] w1 fun e w'=>(∃ x,e = .returned (.tuple #[x, .int .i64 (fndR (grpd s.D s.P k) path).2]) /\ PlS (fun b=>w1.heap.size <= b /\ b < w'.heap.size) w' x (fndR (grpd s.D s.P k) path).1) /\ Below w1.heap.size w1 w':=fun w1 qv path h hp hl=>y5X (grpd s.D s.P k) WT w1 _ _ qv path hgT hsG h hokT.1 (by omega) hp hl
        have hfS : ∀ w1 qv path,Below w.heap.size w w1 -> IntsAt w1 qv path -> path.length <= 200 -> Calls Tryz.prog 36 #[shV (.slice a1 s.D.length c1) (.slice (some ⟨b,o,none⟩) s.P.length c2) s.t s.g,qv] w1 fun e w'=>(∃ x,e = .returned (.tuple #[x, .int .i64 (fndR s path).2]) /\ PlS (fun b=>w1.heap.size <= b /\ b < w'.heap.size) w' x (fndR s path).1) /\ Below w1.heap.size w1 w':=fun w1 qv path h hp hl=>y5X s w w1 _ _ qv path hg hs h hok (by omega) hp hl
        have hgf : Hid (∀ i : Nat,i < s.P.length -> chk (grpd s.D s.P k) = 0 -> (fndR s [(i : Int)]).2 = 0 /\ (fndR (grpd s.D s.P k) (if i < k then [0,(i : Int)] else [(i : Int) - k + 1])).2 = 0 /\ (fndR s [(i : Int)]).1.off = (fndR (grpd s.D s.P k) (if i < k then [0,(i : Int)] else [(i : Int) - k + 1])).1.off /\ (fndR s [(i : Int)]).1.st = (fndR (grpd s.D s.P k) (if i < k then [0,(i : Int)] else [(i : Int) - k + 1])).1.st):=fun i hi h=>by
          have:=v5E (D:=s.D) (P:=s.P) (t:=s.t) (g:=s.g) hk1 hk2 hi (by rw [<- Sh.eta]; exact hCH.out) h
          rwa [<- Sh.eta] at this
        have hmm:=fun h=>h2m.out k hk1 hk2 h;have hu15:=hu14.below hBc;clear hL hcp hcm h2m hgo hu14 hx14 hB14 hBc;obtain ⟨C2,hC2⟩ : ∃ C2,chk (grpd s.D s.P k) = C2:=⟨_,rfl⟩;rw [hC2] at hcT hmm;have hC2H : Hid (chk (grpd s.D s.P k) = C2):=hC2;clear hC2;obtain ⟨y0,p0,p1,p2,p3,p4,p5,p6,p7⟩:=id hxG
        go_wp2_with (go_at_call 23; fail)
        refine (hcT _ (Below.refl _ _)).mono ?_;rintro e w16 ⟨rfl,hb⟩;have hx16:=hx15.below hb;have hxG16:=hxG.below hb;have hu16:=hu15.below hb;have hBT:=hb;have hszT:=hBT.size;clear hb hcT p0 p1 p2 p3 p4 p5 p6 p7 y0 hxG hx15
        by_cases hC20 : C2 = 0
        case neg =>
          clear hmT hmm hfT hfS;go_wp2;go_ret;exact ⟨rfl,hB15.trans (hBT.mono hsz15)⟩
        subst hC20;rw [hmm rfl] at hmT;obtain ⟨y0,p0,p1,p2,p3,p4,p5,p6,p7⟩:=id hxG16
        go_wp2_with (go_at_call 24; fail)
        refine (hmT _ hBT).mono ?_;rintro e w17 ⟨rfl,hb⟩;have hu17:=(hu16.below hb).below ((Below.refl _ w17).alloc (Nat.le_refl _) (.cells #[.int .i64 us, .int .i64 ub, .int .i64 ua] 42));have hx17:=(hx16.below hb).alloc (.cells #[.int .i64 us, .int .i64 ub, .int .i64 ua] 42);have hxG17:=(hxG16.below hb).alloc (.cells #[.int .i64 us, .int .i64 ub, .int .i64 ua] 42);have hBT17:=(hBT.trans (hb.mono hszT)).alloc (Nat.le_trans hszT hb.size) (.cells #[.int .i64 us, .int .i64 ub, .int .i64 ua] 42);clear hb hmT hmm hx16 hxG16 hBT p0 p1 p2 p3 p4 p5 p6 p7 y0;obtain ⟨x0,k0,k1,k2,k3,k4,k5,k6,k7⟩:=id hx17;obtain ⟨l0,m0,m1,m2, -, -, -⟩:=id hu17;have hGW : G < WT.heap.size:=hGlt
        go_upto_region 20 with fail
        go_wp2
        go_loopw [100] (fun v100 wr=> ∃ x : Int,v100 = .int .i64 x /\ 0 <= x /\ x <= s.P.length /\ ShBox wr w.heap.size (.slice a1 s.D.length c1) (.slice (some ⟨b,o,none⟩) s.P.length c2) s.t s.g /\ ShBox wr G (.slice a1 s.D.length c1) (.slice (some ⟨g, 0,none⟩) (1 + (s.P.length - k)) cap) ty00 false /\ Below WT.heap.size WT wr) (fun vx _=>(s.P.length - intOf vx).toNat)
        case atStart=>exact ⟨0,rfl,by omega,by omega,hx17,hxG17,hBT17⟩
        case round =>
          clear k0 k1 k2 k3 k4 k5 k6 k7 x0 l0 m0 m1 m2 hx17 hu17 hxG17 hBT17;obtain ⟨x,rfl,x0,x1,hxr,hyr,hbr⟩:=hrel;have hszr:=hbr.size;have hBr : Below w.heap.size w wr:=hB15.trans (hbr.mono hsz15);have hszr0:=hBr.size
          by_cases hlt : x < (s.P.length : Int)
          . obtain ⟨g1,g2,g3,g4⟩:=hgf.out x.toNat (by omega) hC2H.out
            rw [Int.toNat_of_nonneg x0] at g1 g2 g3 g4;obtain ⟨y0,k0,k1,k2,k3,k4,k5,k6,k7⟩:=id hxr;have hA1 : Below wr.heap.size wr (wr.alloc (.cells #[.int .i64 0, .int .i64 x] 3)):=(Below.refl _ _).alloc (Nat.le_refl _) _;have hfl : (fndR s [x]).1.st.length <= 1000000:=by
              obtain ⟨-, -, -, -, -, -, -, -, -, -, h⟩:=fndR_ok g1 (by simp)
              omega
            by_cases hxk : x < (k : Int)
            . rw [if_pos (by omega)] at g2 g3 g4
              go_wp2_with (go_at_call 36; fail)
              obtain ⟨V0,hV0⟩ : ∃ V0,(wr.alloc (.cells #[.int .i64 0, .int .i64 x] 3)).alloc (.cells #[.int .i64 x] 3) = V0:=⟨_,rfl⟩;rw [hV0];have hq : IntsAt V0 (.slice (some ⟨wr.heap.size + 1, 0,none⟩) 1 1) [x]:=by
                rw [<- hV0];exact ints1 (x5R (by simp))
              have htv : IntsAt V0 (.slice (some ⟨wr.heap.size, 0,none⟩) 2 2) [0,x]:=by
                rw [<- hV0];exact ints2 ((x5R rfl).alloc _)
              have hBV : Below wr.heap.size wr V0:=by
                rw [<- hV0];exact hA1.alloc hA1.size _
              clear hV0;obtain ⟨TO,hTO⟩ : ∃ TO : List Int,[0,x] = TO:=⟨_,rfl⟩;rw [hTO] at g2 g3 g4 htv;refine (hfS V0 _ [x] (hBr.trans (hBV.mono hszr0)) hq (by simp)).mono ?_
              rintro e w20 ⟨⟨xa,rfl,hxa⟩,hb⟩;rw [g1];have hxr20:=(hxr.below hBV).below hb;have hyr20:=(hyr.below hBV).below hb;have htv20:=htv.below hb;have hBV20:=hBV.trans (hb.mono hBV.size);obtain ⟨a3,c3,a4,c4,rfl, -, hsa⟩:=hxa.parts;generalize fndR s [x] = FA at g3 g4 hsa hfl |-;obtain ⟨⟨ap,ao,aS,ab,at0⟩,ae⟩:=FA;simp only at g3 g4 hsa hfl |-;have g3H : Hid (ao = (fndR (grpd s.D s.P k) TO).1.off):=g3;have g4H : Hid (aS = (fndR (grpd s.D s.P k) TO).1.st):=g4;clear g3 g4;have hpa:=NB.here w20 #[.slice a3 ap.length c3, .int .i64 ao, .slice a4 aS.length c4, .int .i64 ab, .int .i64 at0.k, .int .i64 at0.p, .int .i64 at0.q, .bool at0.v, .string at0.pic] 50
              have hal : Below w20.heap.size w20 (w20.alloc (.cells #[.slice a3 ap.length c3, .int .i64 ao, .slice a4 aS.length c4, .int .i64 ab, .int .i64 at0.k, .int .i64 at0.p, .int .i64 at0.q, .bool at0.v, .string at0.pic] 50)):=(Below.refl _ _).alloc (Nat.le_refl _) _;have hsa21 : x7P _ (.slice a4 aS.length c4) aS:=StepsS.below (x1G (S':=fun b=>b < w20.heap.size) (fun b h=>h.2) (KeepS.refl _ _) hsa) hal;have hxr21:=hxr20.below hal;have hyr21:=hyr20.below hal;have htv21:=htv20.below hal;have hBV21:=hBV20.trans (hal.mono hBV20.size);obtain ⟨y0,p0,p1,p2,p3,p4,p5,p6,p7⟩:=id hyr21;clear hb hq hxr20 hyr20 htv20 hBV20 hxa hsa k0 k1 k2 k3 k4 k5 k6 k7
              go_wp2_with (go_at_call 36; fail)
              refine (hfT _ _ _ (hbr.trans (hBV21.mono hszr)) htv21 (by rw [<- hTO]; simp)).mono ?_
              rintro e w22 ⟨⟨xb,rfl,hxb⟩,hb⟩;rw [g2];have hpa22:=hpa.below hb;have hsa22:=StepsS.below hsa21 hb;have hxr22:=hxr21.below hb;have hyr22:=hyr21.below hb;have hBV22:=hBV21.trans (hb.mono hBV21.size);obtain ⟨a5,c5,a6,c6,rfl, -, hsb⟩:=hxb.parts;have g3:=g3H.out;have g4:=g4H.out;clear g3H g4H;generalize fndR (grpd s.D s.P k) TO = FB at g3 g4 hsb |-;obtain ⟨⟨bp,bo,bs,bb,bt⟩,be⟩:=FB;simp only at g3 g4 hsb |-;subst g3 g4;have hpb:=NB.here w22 #[.slice a5 bp.length c5, .int .i64 ao, .slice a6 aS.length c6, .int .i64 bb, .int .i64 bt.k, .int .i64 bt.p, .int .i64 bt.q, .bool bt.v, .string bt.pic] 50;have hal : Below w22.heap.size w22 (w22.alloc (.cells #[.slice a5 bp.length c5, .int .i64 ao, .slice a6 aS.length c6, .int .i64 bb, .int .i64 bt.k, .int .i64 bt.p, .int .i64 bt.q, .bool bt.v, .string bt.pic] 50)):=(Below.refl _ _).alloc (Nat.le_refl _) _
              have hsb23 : x7P _ (.slice a6 aS.length c6) aS:=StepsS.below (x1G (S':=fun b=>b < w22.heap.size) (fun b h=>h.2) (KeepS.refl _ _) hsb) hal;have hsa23:=StepsS.below hsa22 hal;have hpa23:=hpa22.below hal;have hxr23:=hxr22.below hal;have hyr23:=hyr22.below hal;have hBV23:=hBV22.trans (hal.mono hBV22.size);obtain ⟨r0,r1,r2,r3,r4,r5,r6,r7,r8,rf⟩:=x2W hpa23;obtain ⟨q0,q1,q2,q3,q4,q5,q6,q7,q8,qf⟩:=x2W hpb;have hasl : aS.length <= 1000000:=hfl;clear hb hpa hpa22 hsa21 hsa22 hsb hxb hxr21 hxr22 hyr21 hyr22 hBV21 hBV22 htv21 p0 p1 p2 p3 p4 p5 p6 p7 y0
              go_wp2_with (go_at_call 37; fail)
              refine (y7E aS _ _ _ hsa23 hsb23 hasl).mono ?_;rintro e w24 ⟨rfl,hb⟩;have hxr24:=hxr23.below hb;have hyr24:=hyr23.below hb;have hbr24:=hbr.trans ((hBV23.trans (hb.mono hBV23.size)).mono hszr);go_wp2
              go_roundw
              case rel=>exact ⟨_,rfl,by omega,by omega,hxr24,hyr24,hbr24⟩
              case measure=>simp [intOf]; omega
            . rw [if_neg (by omega)] at g2 g3 g4
              go_wp2_with (go_at_call 36; fail)
              obtain ⟨V0,hV0⟩ : ∃ V0,((wr.alloc (.cells #[.int .i64 0, .int .i64 x] 3)).alloc (.cells #[.int .i64 (x - k + 1)] 3)).alloc (.cells #[.int .i64 x] 3) = V0:=⟨_,rfl⟩;rw [hV0];have hq : IntsAt V0 (.slice (some ⟨wr.heap.size + 1 + 1, 0,none⟩) 1 1) [x]:=by
                rw [<- hV0];exact ints1 (x5R (by simp))
              have htv : IntsAt V0 (.slice (some ⟨wr.heap.size + 1, 0,none⟩) 1 1) [x - k + 1]:=by
                rw [<- hV0];exact ints1 ((x5R (by simp)).alloc _)
              have hBV : Below wr.heap.size wr V0:=by
                rw [<- hV0];exact (hA1.alloc hA1.size _).alloc (hA1.alloc hA1.size _).size _
              clear hV0;obtain ⟨TO,hTO⟩ : ∃ TO : List Int,[x - k + 1] = TO:=⟨_,rfl⟩;rw [hTO] at g2 g3 g4 htv;refine (hfS V0 _ [x] (hBr.trans (hBV.mono hszr0)) hq (by simp)).mono ?_
              rintro e w20 ⟨⟨xa,rfl,hxa⟩,hb⟩;rw [g1];have hxr20:=(hxr.below hBV).below hb;have hyr20:=(hyr.below hBV).below hb;have htv20:=htv.below hb;have hBV20:=hBV.trans (hb.mono hBV.size);obtain ⟨a3,c3,a4,c4,rfl, -, hsa⟩:=hxa.parts;generalize fndR s [x] = FA at g3 g4 hsa hfl |-;obtain ⟨⟨ap,ao,aS,ab,at0⟩,ae⟩:=FA;simp only at g3 g4 hsa hfl |-;have g3H : Hid (ao = (fndR (grpd s.D s.P k) TO).1.off):=g3;have g4H : Hid (aS = (fndR (grpd s.D s.P k) TO).1.st):=g4;clear g3 g4;have hpa:=NB.here w20 #[.slice a3 ap.length c3, .int .i64 ao, .slice a4 aS.length c4, .int .i64 ab, .int .i64 at0.k, .int .i64 at0.p, .int .i64 at0.q, .bool at0.v, .string at0.pic] 50
              have hal : Below w20.heap.size w20 (w20.alloc (.cells #[.slice a3 ap.length c3, .int .i64 ao, .slice a4 aS.length c4, .int .i64 ab, .int .i64 at0.k, .int .i64 at0.p, .int .i64 at0.q, .bool at0.v, .string at0.pic] 50)):=(Below.refl _ _).alloc (Nat.le_refl _) _;have hsa21 : x7P _ (.slice a4 aS.length c4) aS:=StepsS.below (x1G (S':=fun b=>b < w20.heap.size) (fun b h=>h.2) (KeepS.refl _ _) hsa) hal;have hxr21:=hxr20.below hal;have hyr21:=hyr20.below hal;have htv21:=htv20.below hal;have hBV21:=hBV20.trans (hal.mono hBV20.size);obtain ⟨y0,p0,p1,p2,p3,p4,p5,p6,p7⟩:=id hyr21;clear hb hq hxr20 hyr20 htv20 hBV20 hxa hsa k0 k1 k2 k3 k4 k5 k6 k7
              go_wp2_with (go_at_call 36; fail)
              refine (hfT _ _ _ (hbr.trans (hBV21.mono hszr)) htv21 (by rw [<- hTO]; simp)).mono ?_
              rintro e w22 ⟨⟨xb,rfl,hxb⟩,hb⟩;rw [g2];have hpa22:=hpa.below hb;have hsa22:=StepsS.below hsa21 hb;have hxr22:=hxr21.below hb;have hyr22:=hyr21.below hb;have hBV22:=hBV21.trans (hb.mono hBV21.size);obtain ⟨a5,c5,a6,c6,rfl, -, hsb⟩:=hxb.parts;have g3:=g3H.out;have g4:=g4H.out;clear g3H g4H;generalize fndR (grpd s.D s.P k) TO = FB at g3 g4 hsb |-;obtain ⟨⟨bp,bo,bs,bb,bt⟩,be⟩:=FB;simp only at g3 g4 hsb |-;subst g3 g4;have hpb:=NB.here w22 #[.slice a5 bp.length c5, .int .i64 ao, .slice a6 aS.length c6, .int .i64 bb, .int .i64 bt.k, .int .i64 bt.p, .int .i64 bt.q, .bool bt.v, .string bt.pic] 50;have hal : Below w22.heap.size w22 (w22.alloc (.cells #[.slice a5 bp.length c5, .int .i64 ao, .slice a6 aS.length c6, .int .i64 bb, .int .i64 bt.k, .int .i64 bt.p, .int .i64 bt.q, .bool bt.v, .string bt.pic] 50)):=(Below.refl _ _).alloc (Nat.le_refl _) _
              have hsb23 : x7P _ (.slice a6 aS.length c6) aS:=StepsS.below (x1G (S':=fun b=>b < w22.heap.size) (fun b h=>h.2) (KeepS.refl _ _) hsb) hal;have hsa23:=StepsS.below hsa22 hal;have hpa23:=hpa22.below hal;have hxr23:=hxr22.below hal;have hyr23:=hyr22.below hal;have hBV23:=hBV22.trans (hal.mono hBV22.size);obtain ⟨r0,r1,r2,r3,r4,r5,r6,r7,r8,rf⟩:=x2W hpa23;obtain ⟨q0,q1,q2,q3,q4,q5,q6,q7,q8,qf⟩:=x2W hpb;have hasl : aS.length <= 1000000:=hfl;clear hb hpa hpa22 hsa21 hsa22 hsb hxb hxr21 hxr22 hyr21 hyr22 hBV21 hBV22 htv21 p0 p1 p2 p3 p4 p5 p6 p7 y0
              go_wp2_with (go_at_call 37; fail)
              refine (y7E aS _ _ _ hsa23 hsb23 hasl).mono ?_;rintro e w24 ⟨rfl,hb⟩;have hxr24:=hxr23.below hb;have hyr24:=hyr23.below hb;have hbr24:=hbr.trans ((hBV23.trans (hb.mono hBV23.size)).mono hszr);go_wp2
              go_roundw
              case rel=>exact ⟨_,rfl,by omega,by omega,hxr24,hyr24,hbr24⟩
              case measure=>simp [intOf]; omega
          . have hxe : x = s.P.length:=by omega
            subst hxe;go_wp2;go_ret;exact ⟨rfl,hBr⟩
end Go.Proofs
