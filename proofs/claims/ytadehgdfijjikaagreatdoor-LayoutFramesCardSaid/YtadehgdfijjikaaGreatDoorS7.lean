/-
  A block of cells of one's own: read and stored into.; Rows that a call owns: appended to, kept.; Lists of numbers and of shapes in memory; slices.Equal of numbers, walked.; NODES IN MEMORY: what mapped has made of a shape, read off a world; the blocks that it lies in; carried to later worlds.; An append to a row of one's own: where the row lies behind it.; mapped's loop: what it has made so far.
-/
import Derived.Test.YtadehgdfijjikaaGreatDoorS6
import Derived.Laws.AppendOwn
import Derived.OwnWalk
import Derived.Deep.RegionLaw
import Derived.Test.YtadehgdfijjikaaGreatDoorS4
import Derived.Laws.OwnMore
set_option linter.all false
namespace Go.Proofs
open Go.RowKit Go.Yec Go.Shp Go.Deep
open Go.Xec (Glob)
def NB (w : World) (B : Nat) (c : Array Value) (t : Nat) : Prop:=w.heap[B]? = some (.cells c t (0, 0))
theorem NB.cell {w : World} {B t : Nat} {c : Array Value} (h : NB w B c t) (i : Nat) : w.cell? ⟨B,i,none⟩ = c[i]? :=by
  unfold NB at h
  simp [World.cell?, h]
theorem NB.frozen {w : World} {B t : Nat} {c : Array Value} (h : NB w B c t) (i : Nat) : w.frozen? ⟨B,i,none⟩ = false:=by
  unfold NB at h
  simp [World.frozen?, h]
theorem NB.lt {w : World} {B t : Nat} {c : Array Value} (h : NB w B c t) : B < w.heap.size:=by
  unfold NB at h
  obtain ⟨hlt,_⟩:=Array.getElem?_eq_some_iff.1 h
  exact hlt
theorem NB.set {w : World} {B t : Nat} {c : Array Value} (h : NB w B c t) (i : Nat) (v : Value) : NB (w.setCell ⟨B,i,none⟩ v) B (c.setIfInBounds i v) t:=by
  unfold NB at h |-
  simp [World.setCell,Array.getElem?_modify,h]
theorem NB.other {w : World} {B t : Nat} {c : Array Value} (h : NB w B c t) {a : Addr} (ha : B ≠ a.block) (v : Value) : NB (w.setCell a v) B c t:=by
  unfold NB at h |-
  rw [<- h]
  exact Below.heap_setCell w a v B ha
theorem NB.keep {w w' : World} {B t : Nat} {c : Array Value} (h : NB w B c t) {k : Nat} (hb : Below k w w') (hk : B < k) : NB w' B c t:=(hb.block B hk).trans h
theorem NB.below {w w' : World} {B t : Nat} {c : Array Value} (h : NB w B c t) (hb : Below w.heap.size w w') : NB w' B c t:=h.keep hb h.lt
theorem NB.here (w : World) (c : Array Value) (t : Nat) : NB (w.alloc (.cells c t)) w.heap.size c t:=blk_alloc_new _ _
theorem NB.alloc {w : World} {B t : Nat} {c : Array Value} (h : NB w B c t) (o : Obj) : NB (w.alloc o) B c t:=h.below ((Below.refl _ w).alloc (Nat.le_refl _) o)
theorem NB.drew {w : World} {B t : Nat} {c : Array Value} (h : NB w B c t) : NB w.drew B c t:=h
abbrev ndC (dv pv : Value) (t : Ty) (g : Bool) (u e : Un) (st at0 ps : Value) : Array Value:= #[dv,pv, .int .i64 t.k, .int .i64 t.p, .int .i64 t.q, .bool t.v, .string t.pic, .bool g, .int .i64 u.s, .int .i64 u.b, .int .i64 u.a, .int .i64 e.s, .int .i64 e.b, .int .i64 e.a,st,at0,ps]
section
variable {w : World} {B : Nat} {dv pv : Value} {t : Ty} {g : Bool} {u e : Un} {st at0 ps : Value}
theorem nd_el (h : NB w B (ndC dv pv t g u e st at0 ps) 133) (e' : Un) : NB (((w.setCell ⟨B, 11,none⟩ (.int .i64 e'.s)).setCell ⟨B, 12,none⟩ (.int .i64 e'.b)).setCell ⟨B, 13,none⟩ (.int .i64 e'.a)) B (ndC dv pv t g u e' st at0 ps) 133:=((h.set 11 _).set 12 _).set 13 _
theorem nd_al (h : NB w B (ndC dv pv t g u e st at0 ps) 133) (a' : Int) : NB (w.setCell ⟨B, 13,none⟩ (.int .i64 a')) B (ndC dv pv t g u ⟨e.s,e.b,a'⟩ st at0 ps) 133:=h.set 13 _
theorem nd_un (h : NB w B (ndC dv pv t g u e st at0 ps) 133) (e' : Un) : NB (((w.setCell ⟨B, 8,none⟩ (.int .i64 e'.s)).setCell ⟨B, 9,none⟩ (.int .i64 e'.b)).setCell ⟨B, 10,none⟩ (.int .i64 e'.a)) B (ndC dv pv t g e' e st at0 ps) 133:=((h.set 8 _).set 9 _).set 10 _
theorem nd_ub (h : NB w B (ndC dv pv t g u e st at0 ps) 133) (b' : Int) : NB (w.setCell ⟨B, 9,none⟩ (.int .i64 b')) B (ndC dv pv t g ⟨u.s,b',u.a⟩ e st at0 ps) 133:=h.set 9 _
theorem nd_at (h : NB w B (ndC dv pv t g u e st at0 ps) 133) (v : Value) : NB (w.setCell ⟨B, 15,none⟩ v) B (ndC dv pv t g u e st v ps) 133:=h.set 15 _
theorem nd_ps (h : NB w B (ndC dv pv t g u e st at0 ps) 133) (v : Value) : NB (w.setCell ⟨B, 16,none⟩ v) B (ndC dv pv t g u e st at0 v) 133:=h.set 16 _
theorem x1S (h : NB w B (ndC dv pv t g u e st at0 ps) 133) : w.cell? ⟨B, 8,none⟩ = some (.int .i64 u.s) /\ w.cell? ⟨B, 9,none⟩ = some (.int .i64 u.b) /\ w.cell? ⟨B, 10,none⟩ = some (.int .i64 u.a) /\ w.cell? ⟨B, 11,none⟩ = some (.int .i64 e.s) /\ w.cell? ⟨B, 12,none⟩ = some (.int .i64 e.b) /\ w.cell? ⟨B, 13,none⟩ = some (.int .i64 e.a) /\
    w.cell? ⟨B, 14,none⟩ = some st /\ w.cell? ⟨B, 15,none⟩ = some at0 /\ w.cell? ⟨B, 16,none⟩ = some ps /\ (∀ i,w.frozen? ⟨B,i,none⟩ = false) :=
  ⟨h.cell 8,h.cell 9,h.cell 10,h.cell 11,h.cell 12,h.cell 13,h.cell 14,h.cell 15,h.cell 16,h.frozen⟩
end
theorem x6R {k B i j l : Nat} {a w : World} {y0 y1 y2 : Value} (h : Below k a w) (hB : k <= B) : Below k a (((w.setCell ⟨B,i,none⟩ y0).setCell ⟨B,j,none⟩ y1).setCell ⟨B,l,none⟩ y2):=((h.setCell (p:=⟨B,i,none⟩) hB _).setCell (p:=⟨B,j,none⟩) hB _).setCell (p:=⟨B,l,none⟩) hB _
theorem x3X {k B i : Nat} {a w : World} {y : Value} (h : Below k a w) (hB : k <= B) : Below k a (w.setCell ⟨B,i,none⟩ y):=h.setCell (p:=⟨B,i,none⟩) hB _
end Go.Proofs
namespace Go.Proofs
open Go.RowKit Go.Yec Go.Shp Go.Deep
theorem info128 : (Tryz.prog.info? 128).map (fun i=>(i.zero,i.size,i.bytes)) = some (some (.pointer none), 1, 8):=by kernel_rfl
theorem z2S {t : Nat} {z : Value} {n b : Nat} (h : (Tryz.prog.info? t).map (fun i=>(i.zero,i.size,i.bytes)) = some (some z,n,b)) : ∃ i,Tryz.prog.info? t = some i /\ i.zero = some z /\ i.size = n /\ i.bytes = b:=by
  obtain ⟨i,hi,hzz⟩:=Option.map_eq_some_iff.1 h
  simp only [Prod.mk.injEq] at hzz
  exact ⟨i,hi,hzz.1,hzz.2.1,hzz.2.2⟩
section
variable {w w' : World} {base e n : Nat} {v : Value} {xs : List Value}
theorem z2G (h : w.ownsRow base e 1 v (n + 1) xs) : ∃ g cap,v = .slice (some ⟨g, 0,none⟩) (n + 1) cap:=by
  obtain ⟨-, h | ⟨g,cap,cur,hv, -⟩⟩:=h
  . exact absurd h.2 (by omega)
  . exact ⟨g,cap,hv⟩
theorem y5F (h : w.ownsRow base e 1 v n xs) : ∃ a cap,v = .slice a n cap:=by
  obtain ⟨-, h | ⟨g,cap,cur,hv, -⟩⟩:=h
  . obtain ⟨rfl,rfl⟩:=h
    exact ⟨none, 0,rfl⟩
  . exact ⟨_,cap,hv⟩
theorem x2Q (h : w.ownsRow base e 1 v n xs) {g : Nat} (hg : v.ownBlock = some g) : base <= g /\ ∃ c,w.heap[g]? = some (.cells c e (0, 0)):=by
  obtain ⟨-, h | ⟨g',cap,cur,rfl,hb,hc, -⟩⟩:=h
  . rw [h.1] at hg; cases hg
  . cases hg
    exact ⟨hb,cur,hc⟩
theorem x9H (h : w.ownsRow base e 1 v n xs) {g : Nat} (hg : v.ownBlock = some g) : g < w.heap.size:=by
  obtain ⟨-, c,hc⟩:=x2Q h hg
  exact (Array.getElem?_eq_some_iff.1 hc).1
theorem u4N (h : w.ownsRow base e 1 v n xs) (hb : ∀ g,v.ownBlock = some g -> w'.heap[g]? = w.heap[g]?) : w'.ownsRow base e 1 v n xs:=by
  obtain ⟨hl,h | ⟨g,cap,cur,rfl,hbs,hc,r⟩⟩:=h
  . exact ⟨hl, .inl h⟩
  . exact ⟨hl, .inr ⟨g,cap,cur,rfl,hbs,(hb g rfl).trans hc,r⟩⟩
theorem x2P (h : w.ownsRow base e 1 v n xs) (hb : Below w.heap.size w w') : w'.ownsRow base e 1 v n xs:=u4N h fun _ hg=>hb.block _ (x9H h hg)
theorem y3T (h : w.ownsRow base e 1 v n xs) {B i j l : Nat} {y0 y1 y2 : Value} (hB : B < base) : (((w.setCell ⟨B,i,none⟩ y0).setCell ⟨B,j,none⟩ y1).setCell ⟨B,l,none⟩ y2).ownsRow base e 1 v n xs :=
  u4N h fun g hg=>by
    have:=(x2Q h hg).1
    rw [Below.heap_setCell _ _ _ _ (by simp only; omega),Below.heap_setCell _ _ _ _ (by simp only; omega),Below.heap_setCell _ _ _ _ (by simp only; omega)]
theorem x8S (h : w.ownsRow base e 1 v n xs) {B i : Nat} {y : Value} (hB : B < base) : (w.setCell ⟨B,i,none⟩ y).ownsRow base e 1 v n xs :=
  u4N h fun g hg=>by
    have:=(x2Q h hg).1
    rw [Below.heap_setCell _ _ _ _ (by simp only; omega)]
end
theorem y5E {w w' : World} {base n m e e' : Nat} {v v' : Value} {xs ys : List Value} (he : e ≠ e') (h : w.ownsRow base e 1 v n xs) (h' : w.ownsRow base e' 1 v' m ys) (hg : w.grownBy w' v.ownBlock) : w'.ownsRow base e' 1 v' m ys :=
  u4N h' fun g hgb=>hg.block g (x9H h' hgb) fun hcon=>by
    obtain ⟨-, c,hc⟩:=x2Q h hcon.symm
    obtain ⟨-, c',hc'⟩:=x2Q h' hgb
    rw [hc] at hc'
    cases hc'
    exact he rfl
theorem z2L {w w' : World} {base n e B t : Nat} {v : Value} {xs : List Value} {c : Array Value} (h : w.ownsRow base e 1 v n xs) (hB : B < base) (hn : NB w B c t) (hg : w.grownBy w' v.ownBlock) : NB w' B c t :=
  (hg.block B hn.lt fun hcon=>by have:=(x2Q h hcon.symm).1; omega).trans hn
theorem x8F {w w' a : World} {base n e k : Nat} {v : Value} {xs : List Value} (h : w.ownsRow base e 1 v n xs) (hk : k <= base) (hb : Below k a w) (hs : k <= w.heap.size) (hg : w.grownBy w' v.ownBlock) : Below k a w' :=
  hb.grown hg hs fun g hgb=>by have:=(x2Q h hgb).1; omega
theorem y6X {w w' : World} {base n e B i k : Nat} {v u : Value} {xs : List Value} (h : w.ownsRow base e 1 v n xs) (hB : ∀ g,v.ownBlock = some g -> g < k) (hk : k <= B) (hu : w.cell? ⟨B,i,none⟩ = some u) (hg : w.grownBy w' v.ownBlock) : w'.cell? ⟨B,i,none⟩ = some u:=by
  have hlt:=World.block_lt_of_cell? _ _ hu
  rw [World.cell?_of_block (w:=w) (hg.block B hlt fun hcon=>by have:=hB B hcon.symm; omega)]
  exact hu
theorem UBox.of_block {w w' : World} {B : Nat} {x0 x1 x2 : Value} (h : UBox w B x0 x1 x2) (hb : w'.heap[B]? = w.heap[B]?) (hs : w.heap.size <= w'.heap.size) : UBox w' B x0 x1 x2 :=
  ⟨Nat.lt_of_lt_of_le h.lt hs,(World.cell?_of_block (w:=w) hb).trans h.c0,(World.cell?_of_block (w:=w) hb).trans h.c1,(World.cell?_of_block (w:=w) hb).trans h.c2,(World.frozen?_of_block (w:=w) hb).trans h.f0,(World.frozen?_of_block (w:=w) hb).trans h.f1,(World.frozen?_of_block (w:=w) hb).trans h.f2⟩
theorem y0Y {w w' : World} {B k : Nat} {v x0 x1 x2 : Value} (hB : ∀ g,v.ownBlock = some g -> g < k) (hk : k <= B) (hu : UBox w B x0 x1 x2) (hg : w.grownBy w' v.ownBlock) : UBox w' B x0 x1 x2 :=
  hu.of_block (hg.block B hu.lt fun hcon=>by have:=hB B hcon.symm; omega) hg.size
end Go.Proofs
namespace Go.Proofs
open Go.RowKit Go.Yec Go.Shp Go.Deep
open Go.Xec (Glob)
def IntsAt (w : World) (v : Value) (L : List Int) : Prop :=
  ∃ a cap,v = .slice a L.length cap /\ (a = none -> cap = 0) /\ (L ≠ [] -> ∃ b o,a = some ⟨b,o,none⟩ /\ b < w.heap.size) /\ ∀ b o,a = some ⟨b,o,none⟩ -> ∀ i,i < L.length -> w.cell? ⟨b,o + i,none⟩ = some (.int .i64 (L.getD i 0))
theorem IntsAt.nil (w : World) : IntsAt w (.slice none 0 0) []:=⟨none, 0,rfl,fun _=>rfl,fun h=>absurd rfl h,fun _ _ h=>by cases h⟩
theorem IntsAt.keep {w w' : World} {k : Nat} {v : Value} {L : List Int} (h : IntsAt w v L) (hc : ∀ a : Addr,a.block < w.heap.size -> w'.cell? a = w.cell? a) (hs : w.heap.size <= w'.heap.size) : IntsAt w' v L:=by
  obtain ⟨a,cap,hv,hn0,h0,hcl⟩:=h
  refine ⟨a,cap,hv,hn0,fun hne=> ?_,fun b o ha i hi=> ?_⟩
  . obtain ⟨b,o,ha,hb⟩:=h0 hne
    exact ⟨b,o,ha,by omega⟩
  . obtain ⟨b',o',ha',hb⟩:=h0 (by intro hn; subst hn; simp at hi)
    rw [ha] at ha'
    cases ha'
    rw [hc _ hb]
    exact hcl b o ha i hi
theorem IntsAt.below {w w' : World} {v : Value} {L : List Int} (h : IntsAt w v L) (hb : Below w.heap.size w w') : IntsAt w' v L:=h.keep (k:= 0) (fun _ ha=>hb.cell ha) hb.size
theorem IntsAt.form {w : World} {v : Value} {L : List Int} (h : IntsAt w v L) : ∃ a cap,v = .slice a L.length cap:=by
  obtain ⟨a,cap,hv, -⟩:=h
  exact ⟨a,cap,hv⟩
theorem IntsAt.at {w : World} {v : Value} {L : List Int} (h : IntsAt w v L) {i : Nat} (hi : i < L.length) : ∃ b o cap,v = .slice (some ⟨b,o,none⟩) L.length cap /\ b < w.heap.size /\ w.cell? ⟨b,o + i,none⟩ = some (.int .i64 (L.getD i 0)):=by
  obtain ⟨a,cap,hv, -, h0,hc⟩:=h
  obtain ⟨b,o,ha,hb⟩:=h0 (by intro hn; subst hn; simp at hi)
  subst ha
  exact ⟨b,o,cap,hv,hb,hc b o rfl i hi⟩
theorem u5D {w : World} {base n : Nat} {v : Value} {L : List Int} (h : w.ownsRow base 3 1 v n (L.map fun x=> .int .i64 x)) : IntsAt w v L:=by
  have hl:=h.1
  simp only [List.length_map,Nat.mul_one] at hl
  subst hl
  rcases h.2 with ⟨rfl,h0⟩ | ⟨g,cap,cur,rfl,hb,hg, -⟩
  . have : L = []:=List.eq_nil_of_length_eq_zero h0
    subst this
    exact IntsAt.nil w
  . refine ⟨_,cap,rfl,fun h=>(by cases h),fun _=>⟨g, 0,rfl,(Array.getElem?_eq_some_iff.1 hg).1⟩,fun b o ha i hi=> ?_⟩
    cases ha
    rw [Nat.zero_add,h.cellAt i (by simpa using hi)]
    simp [hi]
def LsAt (w : World) (v : Value) (P : List Sh) : Prop :=
  ∃ a cap,v = .slice a P.length cap /\ (P ≠ [] -> ∃ b o,a = some ⟨b,o,none⟩ /\ b < w.heap.size) /\ ∀ b o,a = some ⟨b,o,none⟩ -> ShL w b o P
theorem LsAt.below {w w' : World} {v : Value} {P : List Sh} (h : LsAt w v P) (hb : Below w.heap.size w w') : LsAt w' v P:=by
  obtain ⟨a,cap,hv,h0,hc⟩:=h
  refine ⟨a,cap,hv,fun hne=> ?_,fun b o ha=> ?_⟩
  . obtain ⟨b,o,ha,hbl⟩:=h0 hne
    have:=hb.size
    exact ⟨b,o,ha,by omega⟩
  . cases P with
    | nil=>trivial
    | cons p P =>
      obtain ⟨b',o',ha',hbl⟩:=h0 (by simp)
      rw [ha] at ha'
      cases ha'
      exact y4S (fun a ha=>hb.cell ha) hb.size hbl (hc b o ha)
set_option maxRecDepth 100000 in
set_option maxHeartbeats 2000000 in
theorem u8Y (L : List Int) (w : World) (v v' : Value) (h : IntsAt w v L) (h' : IntsAt w v' L) (hL : L.length <= 1000000) :
    Calls Tryz.prog 20 #[v,v'] w fun e w'=>e = .returned (.bool true) /\ Below w.heap.size w w':=by
  obtain ⟨a,cap,rfl⟩:=h.form
  obtain ⟨a',cap',rfl⟩:=h'.form
  go_enter Tryz.func20,Tryz.ntmps20
  go_wp2
  go_loopw [13] (fun vx wr=> ∃ x : Int,vx = .int .i64 x /\ 0 <= x /\ x <= L.length /\ Below w.heap.size w wr) (fun vx _=>(L.length - intOf vx).toNat)
  case atStart=>exact ⟨0,rfl,by omega,by omega,Below.refl _ _⟩
  case round =>
    obtain ⟨x,rfl,x0,x1,hb⟩:=hrel
    by_cases hlt : x < (L.length : Int)
    . obtain ⟨b,o,cap1,hv,hbl,hc⟩:=(h.below hb).at (i:=x.toNat) (by omega)
      obtain ⟨b',o',cap1',hv',hbl',hc'⟩:=(h'.below hb).at (i:=x.toNat) (by omega)
      cases hv
      cases hv'
      generalize L.getD x.toNat 0 = y at hc hc'
      clear h h'
      go_wp2
      go_quiet (fail)
      go_wp2
      go_roundw
      case rel=>exact ⟨_,rfl,by omega,by omega,x3N hb _⟩
      case measure=>simp [intOf]; omega
    . have : x = L.length:=by omega
      subst this
      clear h h'
      go_wp2
      go_ret
      exact ⟨rfl,hb⟩
end Go.Proofs
namespace Go.Proofs
open Go.RowKit Go.Yec Go.Shp Go.Deep
open Go.Xec (Glob)
def DmS (S : Nat -> Prop) (w : World) (v : Value) (D : List (Int × Int)) : Prop :=
  ∃ a cap,v = .slice a D.length cap /\ (D ≠ [] -> ∃ b o,a = some ⟨b,o,none⟩ /\ S b) /\ ∀ b o,a = some ⟨b,o,none⟩ -> ∀ i,i < D.length -> w.cell? ⟨b,o + i * 2,none⟩ = some (.int .i64 (D.getD i (0, 0)).1) /\ w.cell? ⟨b,o + i * 2 + 1,none⟩ = some (.int .i64 (D.getD i (0, 0)).2)
def v0W (S : Nat -> Prop) (w : World) (v : Value) (L : List Int) : Prop :=
  ∃ a cap,v = .slice a L.length cap /\ (a = none -> cap = 0) /\ (L ≠ [] -> ∃ b o,a = some ⟨b,o,none⟩ /\ S b) /\ ∀ b o,a = some ⟨b,o,none⟩ -> ∀ i,i < L.length -> w.cell? ⟨b,o + i,none⟩ = some (.int .i64 (L.getD i 0))
mutual
def x6S (S : Nat -> Prop) (w : World) : Nat -> Sh -> Nd -> Prop
  | B, .node D P t g, .mk u e st at' ps => S B /\ ∃ dv pv sv av qv, (∀ j, j < 17 -> w.cell? ⟨B, j, none⟩ = (ndC dv pv t g u e sv av qv)[j]?) /\ DmS S w dv D /\ (∃ a c, pv = .slice a P.length c) /\ v0W S w sv st /\ v0W S w av at' /\
      ∃ a cap,qv = .slice a P.length cap /\ (P ≠ [] -> ∃ b o,a = some ⟨b,o,none⟩ /\ S b) /\ ∀ b o,a = some ⟨b,o,none⟩ -> x3Y S w b o P ps
def x3Y (S : Nat -> Prop) (w : World) : Nat -> Nat -> List Sh -> List Nd -> Prop
  | _,_,[],_=>True
  | _,_,_ :: _,[]=>False
  | b,o,p :: P,n :: ns=>(∃ B,w.cell? ⟨b,o,none⟩ = some (.pointer (some ⟨B, 0,none⟩)) /\ x6S S w B p n) /\ x3Y S w b (o + 1) P ns
end
def KeepS (S : Nat -> Prop) (w w' : World) : Prop:=w.heap.size <= w'.heap.size /\ ∀ b,S b -> w'.heap[b]? = w.heap[b]?
theorem KeepS.cell {S : Nat -> Prop} {w w' : World} (h : KeepS S w w') {b i : Nat} (hb : S b) : w'.cell? ⟨b,i,none⟩ = w.cell? ⟨b,i,none⟩:=World.cell?_of_block (w:=w) (h.2 b hb)
theorem KeepS.refl (S : Nat -> Prop) (w : World) : KeepS S w w:=⟨Nat.le_refl _,fun _ _=>rfl⟩
theorem KeepS.trans {S : Nat -> Prop} {a b c : World} (h : KeepS S a b) (h' : KeepS S b c) : KeepS S a c:=⟨Nat.le_trans h.1 h'.1,fun x hx=>(h'.2 x hx).trans (h.2 x hx)⟩
theorem KeepS.mono {S S' : Nat -> Prop} {a b : World} (h : KeepS S a b) (hs : ∀ x,S' x -> S x) : KeepS S' a b:=⟨h.1,fun x hx=>h.2 x (hs x hx)⟩
theorem KeepS.below {S : Nat -> Prop} {a b : World} {k : Nat} (h : Below k a b) (hs : ∀ x,S x -> x < k) : KeepS S a b:=⟨h.size,fun x hx=>h.block x (hs x hx)⟩
theorem KeepS.set {S : Nat -> Prop} {a b : World} (h : KeepS S a b) {p : Addr} (hp : ¬ S p.block) (v : Value) : KeepS S a (b.setCell p v):=⟨by have:=h.1; simpa using this,fun x hx=>(Below.heap_setCell b p v x (fun e=>hp (e ▸ hx))).trans (h.2 x hx)⟩
theorem KeepS.grown {S : Nat -> Prop} {a b c : World} {row : Option Nat} (h : KeepS S a b) (hg : b.grownBy c row) (hl : ∀ x,S x -> x < b.heap.size) (hn : ∀ x,S x -> row ≠ some x) : KeepS S a c:=⟨Nat.le_trans h.1 hg.size,fun x hx=>(hg.block x (hl x hx) (fun e=>hn x hx e.symm)).trans (h.2 x hx)⟩
theorem KeepS.alloc {S : Nat -> Prop} {a b : World} (h : KeepS S a b) (hl : ∀ x,S x -> x < b.heap.size) (o : Obj) : KeepS S a (b.alloc o):=h.trans (KeepS.below ((Below.refl b.heap.size b).alloc (Nat.le_refl _) o) hl)
theorem u5B {S : Nat -> Prop} {a b c : World} {o : Obj} {row : Option Nat} (h : KeepS S a b) (hl : ∀ x,S x -> x < b.heap.size) (hg : (b.alloc o).grownBy c row) (hn : ∀ x,S x -> row ≠ some x) : KeepS S a c:=(h.alloc hl o).grown hg (fun x hx=>by have:=hl x hx; simp; omega) hn
theorem v3Y {S : Nat -> Prop} {a b c : World} {o : Obj} {row : Option Nat} (h : KeepS S a b) (hl : ∀ x,S x -> x < b.heap.size) (hg : (b.alloc o).drew.grownBy c row) (hn : ∀ x,S x -> row ≠ some x) : KeepS S a c :=
  KeepS.grown (b:=(b.alloc o).drew) (h.alloc hl o) hg (fun x hx=>by have:=hl x hx; show x < (b.alloc o).heap.size; simp; omega) hn
theorem v6W {S : Nat -> Prop} {b : World} {o : Obj} {v v' : Value} (hl : ∀ x,S x -> x < b.heap.size) (hn : ∀ x,S x -> v.ownBlock ≠ some x) (hw : ∀ g,v'.ownBlock = some g -> v.ownBlock = some g \/ (b.alloc o).heap.size <= g) : ∀ x,S x -> v'.ownBlock ≠ some x:=fun x hx e=>by
  rcases hw x e with h | h
  . exact hn x hx h
  . have:=hl x hx
    simp at h
    omega
theorem app_ned {S : Nat -> Prop} {b : World} {o : Obj} {v v' : Value} (hl : ∀ x,S x -> x < b.heap.size) (hn : ∀ x,S x -> v.ownBlock ≠ some x) (hw : ∀ g,v'.ownBlock = some g -> v.ownBlock = some g \/ (b.alloc o).drew.heap.size <= g) : ∀ x,S x -> v'.ownBlock ≠ some x:=v6W (o:=o) hl hn hw
theorem z8D {S S' : Nat -> Prop} {w w' : World} (hS : ∀ b,S b -> S' b) (h : KeepS S w w') {v : Value} {D : List (Int × Int)} (hd : DmS S w v D) : DmS S' w' v D:=by
  obtain ⟨a,cap,hv,h0,hc⟩:=hd
  refine ⟨a,cap,hv,fun hne=> ?_,fun b o ha i hi=> ?_⟩
  . obtain ⟨b,o,ha,hb⟩:=h0 hne
    exact ⟨b,o,ha,hS b hb⟩
  . obtain ⟨b',o',ha',hb⟩:=h0 (by intro hn; subst hn; simp at hi)
    rw [ha] at ha'
    cases ha'
    rw [h.cell hb,h.cell hb]
    exact hc b o ha i hi
theorem x9U {S S' : Nat -> Prop} {w w' : World} (hS : ∀ b,S b -> S' b) (h : KeepS S w w') {v : Value} {L : List Int} (hd : v0W S w v L) : v0W S' w' v L:=by
  obtain ⟨a,cap,hv,hn0,h0,hc⟩:=hd
  refine ⟨a,cap,hv,hn0,fun hne=> ?_,fun b o ha i hi=> ?_⟩
  . obtain ⟨b,o,ha,hb⟩:=h0 hne
    exact ⟨b,o,ha,hS b hb⟩
  . obtain ⟨b',o',ha',hb⟩:=h0 (by intro hn; subst hn; simp at hi)
    rw [ha] at ha'
    cases ha'
    rw [h.cell hb]
    exact hc b o ha i hi
mutual
theorem x5P {S S' : Nat -> Prop} {w w' : World} (hS : ∀ b,S b -> S' b) (h : KeepS S w w') : ∀ {B : Nat} {s : Sh} {n : Nd}, x6S S w B s n -> x6S S' w' B s n
  | B, .node D P t g, .mk u e st at' ps,hn=>by
    unfold x6S at hn |-
    obtain ⟨hB,dv,pv,sv,av,qv,hc,hD,hp,hst,hat,a,cap,hq,h0,hps⟩:=hn
    refine ⟨hS B hB,dv,pv,sv,av,qv,fun j hj=>(h.cell hB).trans (hc j hj),z8D hS h hD,hp,x9U hS h hst,x9U hS h hat,a,cap,hq,fun hne=> ?_,fun b o ha=> ?_⟩
    . obtain ⟨b,o,ha,hb⟩:=h0 hne
      exact ⟨b,o,ha,hS b hb⟩
    . cases P with
      | nil=>unfold x3Y; trivial
      | cons p P =>
        obtain ⟨b',o',ha',hb⟩:=h0 (by simp)
        rw [ha] at ha'
        cases ha'
        exact x6Z hS h hb (hps b o ha)
theorem x6Z {S S' : Nat -> Prop} {w w' : World} (hS : ∀ b,S b -> S' b) (h : KeepS S w w') {b : Nat} (hb : S b) : ∀ {o : Nat} {P : List Sh} {ns : List Nd}, x3Y S w b o P ns -> x3Y S' w' b o P ns
  | _,[],_,_=>by unfold x3Y; trivial
  | _,_ :: _,[],hn=>by unfold x3Y at hn; exact hn.elim
  | o,p :: P,n :: ns,hn=>by
    unfold x3Y at hn |-
    obtain ⟨⟨B,h1,h2⟩,h3⟩:=hn
    exact ⟨⟨B,(h.cell hb).trans h1,x5P hS h h2⟩,x6Z hS h hb h3⟩
end
theorem y9K {S : Nat -> Prop} {w : World} {b : Nat} : ∀ {P : List Sh} {ns : List Nd} {o : Nat}, ns.length = P.length -> (∀ (i : Nat) (p : Sh) (n : Nd),P[i]? = some p -> ns[i]? = some n -> ∃ B,w.cell? ⟨b,o + i,none⟩ = some (.pointer (some ⟨B, 0,none⟩)) /\ x6S S w B p n) -> x3Y S w b o P ns
  | [],_,_,_,_=>by unfold x3Y; trivial
  | _ :: _,[],_,h,_=>by simp at h
  | p :: P,n :: ns,o,hl,h=>by
    unfold x3Y
    refine ⟨by simpa using h 0 p n rfl rfl,y9K (by simpa using hl) fun i q m hq hm=> ?_⟩
    obtain ⟨B,h1,h2⟩:=h (i + 1) q m (by simpa using hq) (by simpa using hm)
    exact ⟨B,by rw [show o + 1 + i = o + (i + 1) by omega]; exact h1,h2⟩
def PtsAt (S : Nat -> Prop) (w : World) (P : List Sh) (Bs : List Nat) (ns : List Nd) : Prop :=
  Bs.length = ns.length /\ ∀ (i B : Nat),Bs[i]? = some B -> ∃ (p : Sh) (n : Nd),P[i]? = some p /\ ns[i]? = some n /\ x6S S w B p n
theorem PtsAt.nil (S : Nat -> Prop) (w : World) (P : List Sh) : PtsAt S w P [] []:=⟨rfl,fun i B h=>by simp at h⟩
theorem y5A {S S' : Nat -> Prop} {w w' : World} (hS : ∀ b,S b -> S' b) (h : KeepS S w w') {P : List Sh} {Bs : List Nat} {ns : List Nd} (hp : PtsAt S w P Bs ns) : PtsAt S' w' P Bs ns:=by
  refine ⟨hp.1,fun i B hB=> ?_⟩
  obtain ⟨p,n,h1,h2,h3⟩:=hp.2 i B hB
  exact ⟨p,n,h1,h2,x5P hS h h3⟩
theorem pts_push {S : Nat -> Prop} {w : World} {P : List Sh} {Bs : List Nat} {ns : List Nd} (hp : PtsAt S w P Bs ns) {p : Sh} {n : Nd} {B : Nat} (hP : P[ns.length]? = some p) (hn : x6S S w B p n) : PtsAt S w P (Bs ++ [B]) (ns ++ [n]):=by
  have hl:=hp.1
  refine ⟨by simp [hl],fun i C hC=> ?_⟩
  rcases Nat.lt_trichotomy i Bs.length with h | h | h
  . rw [List.getElem?_append_left h] at hC
    obtain ⟨q,m,h1,h2,h3⟩:=hp.2 i C hC
    exact ⟨q,m,h1,by rw [List.getElem?_append_left (by omega)]; exact h2,h3⟩
  . subst h
    simp at hC
    subst hC
    exact ⟨p,n,by rw [hl]; exact hP,by rw [hl]; simp,hn⟩
  . rw [List.getElem?_append_right (by omega)] at hC
    have:=List.getElem?_eq_some_iff.1 hC
    simp at this
    omega
theorem v4J {S : Nat -> Prop} {w : World} {base n : Nat} {v : Value} {L : List Int} (h : w.ownsRow base 3 1 v n (L.map fun x=> .int .i64 x)) (hS : ∀ g,v.ownBlock = some g -> S g) : v0W S w v L:=by
  have hl:=h.1
  simp only [List.length_map,Nat.mul_one] at hl
  subst hl
  rcases h.2 with ⟨rfl,h0⟩ | ⟨g,cap,cur,rfl,hb,hg, -⟩
  . have : L = []:=List.eq_nil_of_length_eq_zero h0
    subst this
    exact ⟨none, 0,rfl,fun _=>rfl,fun h=>absurd rfl h,fun _ _ h=>by cases h⟩
  . refine ⟨_,cap,rfl,fun h=>(by cases h),fun _=>⟨g, 0,rfl,hS g rfl⟩,fun b o ha i hi=> ?_⟩
    cases ha
    rw [Nat.zero_add,h.cellAt i (by simpa using hi)]
    simp [hi]
theorem v3H {S : Nat -> Prop} {w : World} {base n : Nat} {v : Value} {P : List Sh} {Bs : List Nat} {ns : List Nd} (h : w.ownsRow base 128 1 v n (Bs.map fun B=> .pointer (some ⟨B, 0,none⟩))) (hS : ∀ g,v.ownBlock = some g -> S g) (hp : PtsAt S w P Bs ns) (hl : ns.length = P.length) :
    ∃ a cap,v = .slice a P.length cap /\ (P ≠ [] -> ∃ b o,a = some ⟨b,o,none⟩ /\ S b) /\ ∀ b o,a = some ⟨b,o,none⟩ -> x3Y S w b o P ns:=by
  have hn:=h.1
  have hbl:=hp.1
  simp only [List.length_map,Nat.mul_one] at hn
  subst hn
  rcases h.2 with ⟨rfl,h0⟩ | ⟨g,cap,cur,rfl,hb,hg, -⟩
  . have hP : P = []:=List.eq_nil_of_length_eq_zero (by omega)
    subst hP
    exact ⟨none, 0,rfl,fun h=>absurd rfl h,fun _ _ h=>by cases h⟩
  . refine ⟨_,cap,by rw [<- hl, <- hbl],fun _=>⟨g, 0,rfl,hS g rfl⟩,fun b o ha=> ?_⟩
    cases ha
    refine y9K hl fun i p m hpi hmi=> ?_
    have hi : i < Bs.length:=by
      have:=(List.getElem?_eq_some_iff.1 hmi).1
      omega
    obtain ⟨q,m',h1,h2,h3⟩:=hp.2 i Bs[i] (List.getElem?_eq_getElem hi)
    rw [hpi] at h1
    rw [hmi] at h2
    cases h1
    cases h2
    refine ⟨Bs[i], ?_,h3⟩
    rw [Nat.zero_add,h.cellAt i (by simpa using hi)]
    simp [hi]
theorem v4H {S : Nat -> Prop} {w : World} {b n : Nat} {l : List Int} (h : w.rowIs b 3 n (stC 0 l)) (hl : l.length = n) (hS : S b) : v0W S w (.slice (some ⟨b, 0,none⟩) n n) l:=by
  subst hl
  refine ⟨_,_,rfl,fun h=>(by cases h),fun _=>⟨b, 0,rfl,hS⟩,fun b' o ha i hi=> ?_⟩
  cases ha
  rw [Nat.zero_add,h.cell hi]
  unfold stC
  simp [hi]
end Go.Proofs
namespace Go.Proofs
open Go.RowKit Go.Yec Go.Shp Go.Deep
section
variable {P : Program} (w : World)
theorem run_app (base : Nat) (t ty e : TypeId) (i : TypeInfo) (z : Value) (size bytes : Nat) (ht : P.underlying t = some (.slice e)) (hi : P.info? e = some i) (hz : i.zero = some z)
    (hsize : i.size = size) (hby : i.bytes = bytes) (hzs : z.cells.size = size) (hsz : 0 < size) (v : Value) (n : Nat) (xs : List Value) (hown : w.ownsRow base e size v n xs)
    (a : Addr) (m c : Nat) (news : List Value) (hl : news.length = m * size) (hnews : ∀ j u,news[j]? = some u -> w.cell? (a.add j) = some u) (h1 : ∀ u ∈ news,u.oneCell' = true)
    (h63 : n + m <= maxLen) (hbytes : (n + m) * bytes <= 140737488355328) (hbase : base <= w.heap.size) :
    ∃ v' w',(Builtin.append_ #[t,t] ty #[v, .slice (some a) m c]).run P w = .ok v' w' /\ w'.ownsRow base e size v' (n + m) (xs ++ news) /\ w.grownBy w' v.ownBlock /\ (∀ g,v'.ownBlock = some g -> v.ownBlock = some g \/ w.heap.size <= g):=by
  obtain ⟨v',w',hr,h2,h3, -⟩:=run_append_own (P:=P) w base t ty e i z size bytes ht hi hz hsize hby hzs hsz v n xs hown a m c news hl hnews h1 h63 hbytes hbase
  refine ⟨v',w',hr,h2,h3,fun g hg=> ?_⟩
  rcases hown.2 with ⟨rfl,rfl⟩ | ⟨g0,cap,cur,rfl, -, -, -, -, -, -⟩
  . obtain ⟨v2,w2,hr2,h5, -, -⟩:=run_append_own (P:=P) w w.heap.size t ty e i z size bytes ht hi hz hsize hby hzs hsz (.slice none 0 0) 0 [] (World.ownsRow_nil _ _ _ _) a m c news hl hnews h1 h63 hbytes (Nat.le_refl _)
    rw [hr2] at hr
    cases hr
    exact .inr (h5.lt g hg).1
  . by_cases hroom : n + m <= cap
    . obtain ⟨w2,hr2, -⟩:=run_append_fits (P:=P) w base t ty e i size ht hi hsize g0 n cap xs hown a m c news hl hnews h1 hroom
      rw [hr2] at hr
      cases hr
      exact .inl hg
    . have hm : n + m <= 9223372036854775807:=by simp only [maxLen] at h63; omega
      have hr2:=run_append_grow (P:=P) w t ty e i z ht hi hz ⟨g0, 0,none⟩ n cap xs (by rw [hsize]; exact hown.1) (hown.cells (g:=g0) rfl) a m c news (by rw [hsize]; exact hl) hnews (by omega) (by omega) (growslice_fits (by omega) (by rw [hby]; exact hbytes))
      rw [hr2] at hr
      cases hr
      cases hg
      exact .inr (Nat.le_refl _)
theorem wp_app {o : Oper} {a : Act} {K : Act -> World -> Prop} {Q : Exit -> Act -> World -> Prop} (s x : Operand) (t : TypeId)
    (ho : o.op = .call { callee:= .builtin .append,args:= #[s,x],argTypes:= #[t,t] })
    (base : Nat) (e : TypeId) (i : TypeInfo) (z : Value) (size bytes : Nat) (ht : P.underlying t = some (.slice e)) (hi : P.info? e = some i) (hz : i.zero = some z)
    (hsize : i.size = size) (hby : i.bytes = bytes) (hzs : z.cells.size = size) (hsz : 0 < size)
    (v : Value) (n : Nat) (xs : List Value) (hs : a.eval s = v) (hown : w.ownsRow base e size v n xs)
    (ad : Addr) (m c : Nat) (news : List Value) (hx : a.eval x = .slice (some ad) m c) (hl : news.length = m * size) (hnews : ∀ j u,news[j]? = some u -> w.cell? (ad.add j) = some u) (h1 : ∀ u ∈ news,u.oneCell' = true)
    (h63 : n + m <= maxLen) (hbytes : (n + m) * bytes <= 140737488355328) (hbase : base <= w.heap.size)
    (h : ∀ v' w',w'.ownsRow base e size v' (n + m) (xs ++ news) -> w.grownBy w' v.ownBlock -> (∀ g,v'.ownBlock = some g -> v.ownBlock = some g \/ w.heap.size <= g) -> K (a.put o.dst v') w') : o.wp P a w K Q:=by
  obtain ⟨v',w',hr,h2,h3,h4⟩:=run_app (P:=P) w base t o.type e i z size bytes ht hi hz hsize hby hzs hsz v n xs hown ad m c news hl hnews h1 h63 hbytes hbase
  unfold Oper.wp execOp
  simp only [ho,resolve,invoke,builtin,Sem.run_bind,Sem.run_pure,Result.andThen_ok,List.map_toArray,List.map_cons,List.map_nil,hs,hx,hr]
  exact h v' w' h2 h3 h4
theorem y8R {ops : Array Oper} {rest : List Oper} {o : Oper} {a : Act} {Q : Exit -> Act -> World -> Prop} (hgd : o.guard = none) (s x : Operand) (t : TypeId)
    (ho : o.op = .call { callee:= .builtin .append,args:= #[s,x],argTypes:= #[t,t] })
    (base : Nat) (e : TypeId) (i : TypeInfo) (z : Value) (size bytes : Nat) (ht : P.underlying t = some (.slice e)) (hi : P.info? e = some i) (hz : i.zero = some z)
    (hsize : i.size = size) (hby : i.bytes = bytes) (hzs : z.cells.size = size) (hsz : 0 < size)
    (v : Value) (n : Nat) (xs : List Value) (hs : a.eval s = v) (hown : w.ownsRow base e size v n xs)
    (ad : Addr) (m c : Nat) (news : List Value) (hx : a.eval x = .slice (some ad) m c) (hl : news.length = m * size) (hnews : ∀ j u,news[j]? = some u -> w.cell? (ad.add j) = some u) (h1 : ∀ u ∈ news,u.oneCell' = true)
    (h63 : n + m <= maxLen) (hbytes : (n + m) * bytes <= 140737488355328) (hbase : base <= w.heap.size)
    (h : ∀ v' w',w'.ownsRow base e size v' (n + m) (xs ++ news) -> w.grownBy w' v.ownBlock -> (∀ g,v'.ownBlock = some g -> v.ownBlock = some g \/ w.heap.size <= g) -> wpList P ops Q rest (a.put o.dst v') w') : wpList P ops Q (o :: rest) a w :=
  wpList_plain hgd fun _ hK=>wp_app w s x t ho base e i z size bytes ht hi hz hsize hby hzs hsz v n xs hs hown ad m c news hx hl hnews h1 h63 hbytes hbase fun v' w' h2 h3 h4=>hK _ _ (h v' w' h2 h3 h4)
theorem step_app {ops : Array Oper} {o : Oper} {a : Act} {K : Act -> World -> Prop} {Q : Exit -> Act -> World -> Prop} {F : Prop}
    (hg : o.guard = none) (s x : Operand) (t : TypeId) (ho : o.op = .call { callee:= .builtin .append,args:= #[s,x],argTypes:= #[t,t] })
    (base : Nat) (e : TypeId) (i : TypeInfo) (z : Value) (size bytes : Nat) (ht : P.underlying t = some (.slice e)) (hi : P.info? e = some i) (hz : i.zero = some z)
    (hsize : i.size = size) (hby : i.bytes = bytes) (hzs : z.cells.size = size) (hsz : 0 < size)
    (v : Value) (n : Nat) (xs : List Value) (hs : a.eval s = v) (hown : w.ownsRow base e size v n xs)
    (ad : Addr) (m c : Nat) (news : List Value) (hx : a.eval x = .slice (some ad) m c) (hl : news.length = m * size) (hnews : ∀ j u,news[j]? = some u -> w.cell? (ad.add j) = some u) (h1 : ∀ u ∈ news,u.oneCell' = true)
    (h63 : n + m <= maxLen) (hbytes : (n + m) * bytes <= 140737488355328) (hbase : base <= w.heap.size)
    (h : ∀ v' w',w'.ownsRow base e size v' (n + m) (xs ++ news) -> w.grownBy w' v.ownBlock -> (∀ g,v'.ownBlock = some g -> v.ownBlock = some g \/ w.heap.size <= g) -> K (a.put o.dst v') w') :
    if Region.wanted o (yielded ops a.tmps) = true then Oper.wp P o a w K Q else F:=by
  rw [if_pos (by simp [Region.wanted,hg])]
  exact wp_app w s x t ho base e i z size bytes ht hi hz hsize hby hzs hsz v n xs hs hown ad m c news hx hl hnews h1 h63 hbytes hbase h
end
end Go.Proofs
namespace Go.Proofs
open Go.RowKit Go.Yec Go.Shp Go.Deep
def MpOk (W : World) (s : Sh) (w w' : World) (e : Ending) : Option Nd -> Prop
  | none=>e = .returned (.pointer none)
  | some n=> ∃ B,e = .returned (.pointer (some ⟨B, 0,none⟩)) /\ w.heap.size <= B /\ w'.cell? ⟨B, 8,none⟩ = some (.int .i64 n.u.s) /\ w'.cell? ⟨B, 9,none⟩ = some (.int .i64 n.u.b) /\ w'.cell? ⟨B, 10,none⟩ = some (.int .i64 n.u.a) /\ x6S (fun b=>b < W.heap.size \/ (w.heap.size <= b /\ b < w'.heap.size)) w' B s n
structure MpI (S : Nat -> Prop) (W w wr : World) (av pv : Value) (P : List Sh) (xa xp : List Value) (at0 : List Int) (ns : List Nd) (Bs : List Nat) (k : Nat) : Prop where
  ha : xa = at0.map fun y=> .int .i64 y
  hp : xp = Bs.map fun B=> .pointer (some ⟨B, 0,none⟩)
  hl : ns.length = k
  ok : ∀ b,S b -> (b < W.heap.size \/ (w.heap.size + 3 <= b /\ b < wr.heap.size)) /\ av.ownBlock ≠ some b /\ pv.ownBlock ≠ some b
  pts : PtsAt S wr P Bs ns
structure S2Ok (W w w2 : World) (av pv : Value) (b : Nat) : Prop where
  lt : b < w2.heap.size
  n : b ≠ w.heap.size + 1 + 1
  s : b ≠ w.heap.size + 1
  a : av.ownBlock ≠ some b
  p : pv.ownBlock ≠ some b
  o : b < W.heap.size \/ w.heap.size + 3 <= b
theorem mp_step {S : Nat -> Prop} {W w wr w2 : World} {av pv : Value} {P : List Sh} {xa xp : List Value} {at0 : List Int} {ns : List Nd} {Bs : List Nat} {k na np B m : Nat} {s : Sh} {n : Nd} (hmi : MpI S W w wr av pv P xa xp at0 ns Bs k) (hb : Below wr.heap.size wr w2)
    (hoa : wr.ownsRow (w.heap.size + 3) 3 1 av na xa) (hop : wr.ownsRow (w.heap.size + 3) 128 1 pv np xp) (hW : W.heap.size <= w.heap.size) (hsz : w.heap.size + 3 <= wr.heap.size) (hss : P[k]? = some s) (hm : wr.heap.size <= m)
    (hnd : x6S (fun b=>b < W.heap.size \/ (m <= b /\ b < w2.heap.size)) w2 B s n) :
    ∃ S2 : Nat -> Prop,(∀ b,S2 b -> S2Ok W w w2 av pv b) /\ PtsAt S2 w2 P (Bs ++ [B]) (ns ++ [n]):=by
  have hsz2:=hb.size
  refine ⟨fun b=>(b < W.heap.size \/ (wr.heap.size <= b /\ b < w2.heap.size)) \/ S b,fun b hb'=> ?_, ?_⟩
  . have hbo : (b < W.heap.size \/ (w.heap.size + 3 <= b /\ b < w2.heap.size)) /\ av.ownBlock ≠ some b /\ pv.ownBlock ≠ some b := by
      rcases hb' with (h | ⟨h,h'⟩) | h
      . refine ⟨.inl h,fun e=> ?_,fun e=> ?_⟩
        . have:=(x2Q hoa e).1; omega
        . have:=(x2Q hop e).1; omega
      . refine ⟨.inr ⟨by omega,h'⟩,fun e=> ?_,fun e=> ?_⟩
        . have:=x9H hoa e; omega
        . have:=x9H hop e; omega
      . obtain ⟨h1,h2,h3⟩:=hmi.ok b h
        exact ⟨h1.imp id fun h=>⟨h.1,by omega⟩,h2,h3⟩
    exact ⟨by omega,by omega,by omega,hbo.2.1,hbo.2.2,hbo.1.imp id fun h=>h.1⟩
  . refine pts_push (y5A (fun b h=> .inr h) (KeepS.below hb fun b h=> ?_) hmi.pts) (by rw [hmi.hl]; exact hss) (x5P (fun b h=> .inl ?_) (KeepS.refl _ _) hnd)
    . have:=(hmi.ok b h).1
      omega
    . exact h.imp id fun h=>⟨by omega,h.2⟩
theorem u4W {S S2 : Nat -> Prop} {W w wr w2 wf : World} {av pv av' pv' : Value} {P : List Sh} {xa xp : List Value} {at0 : List Int} {ns : List Nd} {Bs : List Nat} {k k' B : Nat} {n : Nd} {z : Int} (h : MpI S W w wr av pv P xa xp at0 ns Bs k) (hS2 : ∀ b,S2 b -> S2Ok W w w2 av pv b) (hpt : PtsAt S2 w2 P (Bs ++ [B]) (ns ++ [n]))
    (hk : KeepS S2 w2 wf) (ha : ∀ b,S2 b -> av'.ownBlock ≠ some b) (hp : ∀ b,S2 b -> pv'.ownBlock ≠ some b) (hkk : k' = k + 1) : MpI S2 W w wf av' pv' P (xa ++ [.int .i64 z]) (xp ++ [.pointer (some ⟨B, 0,none⟩)]) (at0 ++ [z]) (ns ++ [n]) (Bs ++ [B]) k':=by
  refine ⟨by rw [h.ha]; simp,by rw [h.hp]; simp,by simp [h.hl,hkk],fun b hb=>⟨(hS2 b hb).o.imp id fun h=>⟨h,Nat.lt_of_lt_of_le (hS2 b hb).lt hk.1⟩,ha b hb,hp b hb⟩,y5A (fun _ h=>h) hk hpt⟩
theorem mp_fin {S : Nat -> Prop} {W w wr wf : World} {av pv dv : Value} {D : List (Int × Int)} {P : List Sh} {t : Ty} {g : Bool} {u e : Un} {pa : Option Addr} {pcap : Nat} {xa xp : List Value} {at0 l : List Int} {ns : List Nd} {Bs : List Nat} {k na np : Nat} (hmi : MpI S W w wr av pv P xa xp at0 ns Bs k) (hk : k = P.length) (hW : W.heap.size <= w.heap.size) (hBW : Below W.heap.size W wf) (hD : DmAt W dv D)
    (hoa : wr.ownsRow (w.heap.size + 3) 3 1 av na xa) (hop : wr.ownsRow (w.heap.size + 3) 128 1 pv np xp) (hsz : w.heap.size + 3 <= wr.heap.size) (hkp : KeepS (fun b=>b < wr.heap.size /\ b ≠ w.heap.size + 1 + 1 /\ b ≠ w.heap.size + 1) wr wf)
    (hnb : NB wf (w.heap.size + 1 + 1) (ndC dv (.slice pa P.length pcap) t g u e (.slice (some ⟨w.heap.size + 1, 0,none⟩) D.length D.length) av pv) 133) (hst : wf.rowIs (w.heap.size + 1) 3 D.length (stC 0 l)) (hl : l.length = D.length) :
    x6S (fun b=>b < W.heap.size \/ (w.heap.size <= b /\ b < wf.heap.size)) wf (w.heap.size + 1 + 1) (.node D P t g) (.mk u e l at0 ns):=by
  have hsz2:=hkp.1
  have hT : ∀ b,(b < wr.heap.size /\ b ≠ w.heap.size + 1 + 1 /\ b ≠ w.heap.size + 1) -> w.heap.size <= b -> (b < W.heap.size \/ (w.heap.size <= b /\ b < wf.heap.size)):=fun b h h'=> .inr ⟨h',by omega⟩
  have hoa':=hoa
  have hop':=hop
  rw [hmi.ha] at hoa'
  rw [hmi.hp] at hop'
  have hai:=v4J (S:=fun b=>(b < wr.heap.size /\ b ≠ w.heap.size + 1 + 1 /\ b ≠ w.heap.size + 1) /\ (b < W.heap.size \/ w.heap.size <= b)) hoa' (fun b hb=>by
    have h1:=x9H hoa hb
    have h2:=(x2Q hoa hb).1
    exact ⟨⟨h1,by omega,by omega⟩, .inr (by omega)⟩)
  have hpt : PtsAt (fun b=>(b < wr.heap.size /\ b ≠ w.heap.size + 1 + 1 /\ b ≠ w.heap.size + 1) /\ (b < W.heap.size \/ w.heap.size <= b)) wr P Bs ns:=y5A (fun b hb=>by
    have:=(hmi.ok b hb).1
    exact ⟨⟨by omega,by omega,by omega⟩,by omega⟩) (KeepS.refl _ _) hmi.pts
  have hpn:=v3H (S:=fun b=>(b < wr.heap.size /\ b ≠ w.heap.size + 1 + 1 /\ b ≠ w.heap.size + 1) /\ (b < W.heap.size \/ w.heap.size <= b)) hop' (fun b hb=>by
    have h1:=x9H hop hb
    have h2:=(x2Q hop hb).1
    exact ⟨⟨h1,by omega,by omega⟩, .inr (by omega)⟩) hpt (by rw [hmi.hl,hk])
  have hkp2 : KeepS (fun b=>(b < wr.heap.size /\ b ≠ w.heap.size + 1 + 1 /\ b ≠ w.heap.size + 1) /\ (b < W.heap.size \/ w.heap.size <= b)) wr wf:=hkp.mono fun b h=>h.1
  have hsub : ∀ b,((b < wr.heap.size /\ b ≠ w.heap.size + 1 + 1 /\ b ≠ w.heap.size + 1) /\ (b < W.heap.size \/ w.heap.size <= b)) -> (b < W.heap.size \/ (w.heap.size <= b /\ b < wf.heap.size)):=fun b h=>by omega
  unfold x6S
  obtain ⟨a,cap,hq,h0,hps⟩:=hpn
  refine ⟨.inr ⟨by omega,by omega⟩,dv,_,_,av,pv,fun j _=>hnb.cell j,z8D (S:=fun b=>b < W.heap.size) (fun b h=> .inl h) (KeepS.below hBW fun _ h=>h) hD,⟨pa,pcap,rfl⟩,v4H hst hl (.inr ⟨by omega,by omega⟩),x9U hsub hkp2 hai,a,cap,hq,fun hne=> ?_,fun b o ha=> ?_⟩
  . obtain ⟨b,o,ha,hb⟩:=h0 hne
    exact ⟨b,o,ha,hsub b hb⟩
  . cases P with
    | nil=>unfold x3Y; trivial
    | cons p P =>
      obtain ⟨b',o',ha',hb⟩:=h0 (by simp)
      rw [ha] at ha'
      cases ha'
      exact x6Z hsub hkp2 hb (hps b o ha)
end Go.Proofs
