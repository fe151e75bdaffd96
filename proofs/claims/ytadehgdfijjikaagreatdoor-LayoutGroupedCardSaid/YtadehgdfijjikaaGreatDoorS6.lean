/-
  mapped's loop: what it has made so far.; Rows that a call owns, of elements of any size: kept.; slices.Grow of a nil slice, off the shelf: a row of one's own, nothing in it.
-/
import Derived.Test.YtadehgdfijjikaaGreatDoorS5
import Derived.Shelf.Spec.SlicesGrow
set_option linter.all false
namespace Go.Proofs
open Go.RowKit Go.Yec Go.Shp Go.Deep
def MpOk (W : World) (s : Sh) (w w' : World) (e : Ending) : Option Nd -> Prop
  | none=>e = .returned (.pointer none)
  | some n=> ∃ B,e = .returned (.pointer (some ⟨B, 0,none⟩)) /\ w.heap.size <= B /\ w'.cell? ⟨B, 8,none⟩ = some (.int .i64 n.u.s) /\ w'.cell? ⟨B, 9,none⟩ = some (.int .i64 n.u.b) /\ w'.cell? ⟨B, 10,none⟩ = some (.int .i64 n.u.a) /\ x2P (fun b=>b < W.heap.size \/ (w.heap.size <= b /\ b < w'.heap.size)) w' B s n
structure MpI (S : Nat -> Prop) (W w wr : World) (av pv : Value) (P : List Sh) (xa xp : List Value) (at0 : List Int) (ns : List Nd) (Bs : List Nat) (k : Nat) : Prop where
  ha : xa = at0.map fun y=> .int .i64 y
  hp : xp = Bs.map fun B=> .pointer (some ⟨B, 0,none⟩)
  hl : ns.length = k
  ok : ∀ b,S b -> (b < W.heap.size \/ (w.heap.size + 3 <= b /\ b < wr.heap.size)) /\ av.ownBlock ≠ some b /\ pv.ownBlock ≠ some b
  pts : PtsAt S wr P Bs ns
structure S2Ok (W w w2 : World) (av pv : Value) (b : Nat) : Prop where
  lt : b < w2.heap.size
  n : b ≠ w.heap.size + 1 + 1
  s : b ≠ w.heap.size + 1
  a : av.ownBlock ≠ some b
  p : pv.ownBlock ≠ some b
  o : b < W.heap.size \/ w.heap.size + 3 <= b
theorem mp_step {S : Nat -> Prop} {W w wr w2 : World} {av pv : Value} {P : List Sh} {xa xp : List Value} {at0 : List Int} {ns : List Nd} {Bs : List Nat} {k na np B m : Nat} {s : Sh} {n : Nd} (hmi : MpI S W w wr av pv P xa xp at0 ns Bs k) (hb : Below wr.heap.size wr w2)
    (hoa : wr.ownsRow (w.heap.size + 3) 3 1 av na xa) (hop : wr.ownsRow (w.heap.size + 3) 128 1 pv np xp) (hW : W.heap.size <= w.heap.size) (hsz : w.heap.size + 3 <= wr.heap.size) (hss : P[k]? = some s) (hm : wr.heap.size <= m)
    (hnd : x2P (fun b=>b < W.heap.size \/ (m <= b /\ b < w2.heap.size)) w2 B s n) :
    ∃ S2 : Nat -> Prop,(∀ b,S2 b -> S2Ok W w w2 av pv b) /\ PtsAt S2 w2 P (Bs ++ [B]) (ns ++ [n]):=by
  have hsz2:=hb.size;refine ⟨fun b=>(b < W.heap.size \/ (wr.heap.size <= b /\ b < w2.heap.size)) \/ S b,fun b hb'=> ?_, ?_⟩
  . have hbo : (b < W.heap.size \/ (w.heap.size + 3 <= b /\ b < w2.heap.size)) /\ av.ownBlock ≠ some b /\ pv.ownBlock ≠ some b := by
      rcases hb' with (h | ⟨h,h'⟩) | h
      . refine ⟨.inl h,fun e=> ?_,fun e=> ?_⟩
        . have:=(x2S hoa e).1; omega
        . have:=(x2S hop e).1; omega
      . refine ⟨.inr ⟨by omega,h'⟩,fun e=> ?_,fun e=> ?_⟩
        . have:=y3A hoa e; omega
        . have:=y3A hop e; omega
      . obtain ⟨h1,h2,h3⟩:=hmi.ok b h;exact ⟨h1.imp id fun h=>⟨h.1,by omega⟩,h2,h3⟩
    exact ⟨by omega,by omega,by omega,hbo.2.1,hbo.2.2,hbo.1.imp id fun h=>h.1⟩
  . refine pts_push (y5R (fun b h=> .inr h) (KeepS.below hb fun b h=> ?_) hmi.pts) (by rw [hmi.hl]; exact hss) (x5V (fun b h=> .inl ?_) (KeepS.refl _ _) hnd)
    . have:=(hmi.ok b h).1
      omega
    . exact h.imp id fun h=>⟨by omega,h.2⟩
theorem u5N {S S2 : Nat -> Prop} {W w wr w2 wf : World} {av pv av' pv' : Value} {P : List Sh} {xa xp : List Value} {at0 : List Int} {ns : List Nd} {Bs : List Nat} {k k' B : Nat} {n : Nd} {z : Int} (h : MpI S W w wr av pv P xa xp at0 ns Bs k) (hS2 : ∀ b,S2 b -> S2Ok W w w2 av pv b) (hpt : PtsAt S2 w2 P (Bs ++ [B]) (ns ++ [n]))
    (hk : KeepS S2 w2 wf) (ha : ∀ b,S2 b -> av'.ownBlock ≠ some b) (hp : ∀ b,S2 b -> pv'.ownBlock ≠ some b) (hkk : k' = k + 1) : MpI S2 W w wf av' pv' P (xa ++ [.int .i64 z]) (xp ++ [.pointer (some ⟨B, 0,none⟩)]) (at0 ++ [z]) (ns ++ [n]) (Bs ++ [B]) k':=by
  refine ⟨by rw [h.ha]; simp,by rw [h.hp]; simp,by simp [h.hl,hkk],fun b hb=>⟨(hS2 b hb).o.imp id fun h=>⟨h,Nat.lt_of_lt_of_le (hS2 b hb).lt hk.1⟩,ha b hb,hp b hb⟩,y5R (fun _ h=>h) hk hpt⟩
theorem mp_fin {S : Nat -> Prop} {W w wr wf : World} {av pv dv : Value} {D : List (Int × Int)} {P : List Sh} {t : Ty} {g : Bool} {u e : Un} {pa : Option Addr} {pcap : Nat} {xa xp : List Value} {at0 l : List Int} {ns : List Nd} {Bs : List Nat} {k na np : Nat} (hmi : MpI S W w wr av pv P xa xp at0 ns Bs k) (hk : k = P.length) (hW : W.heap.size <= w.heap.size) (hBW : Below W.heap.size W wf) (hD : DmAt W dv D)
    (hoa : wr.ownsRow (w.heap.size + 3) 3 1 av na xa) (hop : wr.ownsRow (w.heap.size + 3) 128 1 pv np xp) (hsz : w.heap.size + 3 <= wr.heap.size) (hkp : KeepS (fun b=>b < wr.heap.size /\ b ≠ w.heap.size + 1 + 1 /\ b ≠ w.heap.size + 1) wr wf)
    (hnb : NB wf (w.heap.size + 1 + 1) (ndC dv (.slice pa P.length pcap) t g u e (.slice (some ⟨w.heap.size + 1, 0,none⟩) D.length D.length) av pv) 133) (hst : wf.rowIs (w.heap.size + 1) 3 D.length (stC 0 l)) (hl : l.length = D.length) :
    x2P (fun b=>b < W.heap.size \/ (w.heap.size <= b /\ b < wf.heap.size)) wf (w.heap.size + 1 + 1) (.node D P t g) (.mk u e l at0 ns):=by
  have hsz2:=hkp.1;have hT : ∀ b,(b < wr.heap.size /\ b ≠ w.heap.size + 1 + 1 /\ b ≠ w.heap.size + 1) -> w.heap.size <= b -> (b < W.heap.size \/ (w.heap.size <= b /\ b < wf.heap.size)):=fun b h h'=> .inr ⟨h',by omega⟩
  have hoa':=hoa;have hop':=hop;rw [hmi.ha] at hoa';rw [hmi.hp] at hop';have hai:=z6H (S:=fun b=>(b < wr.heap.size /\ b ≠ w.heap.size + 1 + 1 /\ b ≠ w.heap.size + 1) /\ (b < W.heap.size \/ w.heap.size <= b)) hoa' (fun b hb=>by
    have h1:=y3A hoa hb;have h2:=(x2S hoa hb).1;exact ⟨⟨h1,by omega,by omega⟩, .inr (by omega)⟩)
  have hpt : PtsAt (fun b=>(b < wr.heap.size /\ b ≠ w.heap.size + 1 + 1 /\ b ≠ w.heap.size + 1) /\ (b < W.heap.size \/ w.heap.size <= b)) wr P Bs ns:=y5R (fun b hb=>by
    have:=(hmi.ok b hb).1
    exact ⟨⟨by omega,by omega,by omega⟩,by omega⟩) (KeepS.refl _ _) hmi.pts
  have hpn:=v3S (S:=fun b=>(b < wr.heap.size /\ b ≠ w.heap.size + 1 + 1 /\ b ≠ w.heap.size + 1) /\ (b < W.heap.size \/ w.heap.size <= b)) hop' (fun b hb=>by
    have h1:=y3A hop hb;have h2:=(x2S hop hb).1;exact ⟨⟨h1,by omega,by omega⟩, .inr (by omega)⟩) hpt (by rw [hmi.hl,hk])
  have hkp2 : KeepS (fun b=>(b < wr.heap.size /\ b ≠ w.heap.size + 1 + 1 /\ b ≠ w.heap.size + 1) /\ (b < W.heap.size \/ w.heap.size <= b)) wr wf:=hkp.mono fun b h=>h.1;have hsub : ∀ b,((b < wr.heap.size /\ b ≠ w.heap.size + 1 + 1 /\ b ≠ w.heap.size + 1) /\ (b < W.heap.size \/ w.heap.size <= b)) -> (b < W.heap.size \/ (w.heap.size <= b /\ b < wf.heap.size)):=fun b h=>by omega
  unfold x2P;obtain ⟨a,cap,hq,h0,hps⟩:=hpn;refine ⟨.inr ⟨by omega,by omega⟩,dv,_,_,av,pv,fun j _=>hnb.cell j,y7K (S:=fun b=>b < W.heap.size) (fun b h=> .inl h) (KeepS.below hBW fun _ h=>h) hD,⟨pa,pcap,rfl⟩,v4W hst hl (.inr ⟨by omega,by omega⟩),x1W hsub hkp2 hai,a,cap,hq,fun hne=> ?_,fun b o ha=> ?_⟩
  . obtain ⟨b,o,ha,hb⟩:=h0 hne;exact ⟨b,o,ha,hsub b hb⟩
  . cases P with
    | nil=>unfold x2U; trivial
    | cons p P =>
      obtain ⟨b',o',ha',hb⟩:=h0 (by simp)
      rw [ha] at ha';cases ha';exact x7E hsub hkp2 hb (hps b o ha)
end Go.Proofs
namespace Go.Proofs
open Go.RowKit Go.Yec Go.Shp Go.Deep
section
variable {w w' : World} {base e n sz : Nat} {v : Value} {xs : List Value}
theorem y5Z (h : w.ownsRow base e sz v n xs) {g : Nat} (hg : v.ownBlock = some g) : base <= g /\ ∃ c,w.heap[g]? = some (.cells c e (0, 0)):=by
  obtain ⟨-, h | ⟨g',cap,cur,rfl,hb,hc, -⟩⟩:=h
  . rw [h.1] at hg; cases hg
  . cases hg;exact ⟨hb,cur,hc⟩
theorem u5E (h : w.ownsRow base e sz v n xs) {g : Nat} (hg : v.ownBlock = some g) : g < w.heap.size:=by
  obtain ⟨-, c,hc⟩:=y5Z h hg;exact (Array.getElem?_eq_some_iff.1 hc).1
theorem owm_at (h : w.ownsRow base e sz v n xs) (hb : ∀ g,v.ownBlock = some g -> w'.heap[g]? = w.heap[g]?) : w'.ownsRow base e sz v n xs:=by
  obtain ⟨hl,h | ⟨g,cap,cur,rfl,hbs,hc,r⟩⟩:=h
  . exact ⟨hl, .inl h⟩
  . exact ⟨hl, .inr ⟨g,cap,cur,rfl,hbs,(hb g rfl).trans hc,r⟩⟩
theorem x8H (h : w.ownsRow base e sz v n xs) (hb : Below w.heap.size w w') : w'.ownsRow base e sz v n xs:=owm_at h fun _ hg=>hb.block _ (u5E h hg)
theorem u5F (h : w.ownsRow base e sz v n xs) (hn : 0 < n) : ∃ g cap,v = .slice (some ⟨g, 0,none⟩) n cap:=by
  obtain ⟨-, h | ⟨g,cap,cur,hv, -⟩⟩:=h
  . exact absurd h.2 (by omega)
  . exact ⟨g,cap,hv⟩
theorem y5Y (h : w.ownsRow base e sz v n xs) : ∃ a cap,v = .slice a n cap:=by
  obtain ⟨-, h | ⟨g,cap,cur,hv, -⟩⟩:=h
  . obtain ⟨rfl,rfl⟩:=h;exact ⟨none, 0,rfl⟩
  . exact ⟨_,cap,hv⟩
theorem x8T {a : World} {k : Nat} (h : w.ownsRow base e sz v n xs) (hk : k <= base) (hb : Below k a w) (hs : k <= w.heap.size) (hg : w.grownBy w' v.ownBlock) : Below k a w' :=
  hb.grown hg hs fun g hgb=>by have:=(y5Z h hgb).1; omega
end
end Go.Proofs
namespace Go.Proofs
open Go.RowKit Go.Yec Go.Shp Go.Deep
open Go.Shelf
def Tryz.laysG106_ren : Go.Shelf.Ren:=⟨fun | 4=> 106 | n=>n,fun | 22=> 22 | 25=> 27 | n=>n,fun | n=>n⟩
theorem Tryz.laysG106 : Go.Proofs.Lays8.n4 Tryz.prog Tryz.laysG106_ren:= {
  mixed:=by kernel_rfl
  f4:=⟨Tryz.f106.name,by decide,Tryz.func106.trans (congrArg some (by kernel_rfl))⟩
  t0:=Tryz.underlying0
  a0:=Tryz.isAgg0
  z0:=Tryz.sizeOf0
  v0:=Tryz.zeroValue0
  t3:=Tryz.underlying3
  a3:=Tryz.isAgg3
  z3:=Tryz.sizeOf3
  v3:=Tryz.zeroValue3
  t4:=Tryz.underlying4
  a4:=Tryz.isAgg4
  z4:=Tryz.sizeOf4
  v4:=Tryz.zeroValue4
  t9:=Tryz.underlying9
  a9:=Tryz.isAgg9
  z9:=Tryz.sizeOf9
  v9:=Tryz.zeroValue9
  t20:=Tryz.underlying20
  a20:=Tryz.isAgg20
  z20:=Tryz.sizeOf20
  v20:=Tryz.zeroValue20
  t22:=Tryz.underlying22
  a22:=Tryz.isAgg22
  z22:=Tryz.sizeOf22
  v22:=Tryz.zeroValue22 }
theorem v4X : (Tryz.prog.info? 27).map (fun i=>(i.zero,i.size,i.bytes)) = some (some (.agg #[.slice none 0 0, .slice none 0 0, .int .i64 0, .int .i64 0, .int .i64 0, .bool false, .string ⟨#[]⟩, .bool false]), 8, 104):=by kernel_rfl
theorem grow_106 (n : Nat) (w : World) (hn : n <= 1000000) :
    Calls Tryz.prog 106 #[.slice none 0 0, .int .i64 n] w fun e w'=>(∃ v,e = .returned v /\ w'.ownsRow w.heap.size 27 8 v 0 []) /\ Below w.heap.size w w':=by
  rcases Nat.eq_zero_or_pos n with rfl | hp
  . refine (Any8.slices_Grow_room Tryz.laysG106 none 0 0 0 w (by omega) (by omega) (by omega) (by omega)).mono ?_
    rintro e w' ⟨rfl,rfl⟩;exact ⟨⟨_,rfl,World.ownsRow_nil _ _ _ _⟩,Below.refl _ _⟩
  . obtain ⟨i,hi,hz,hs,hy⟩:=y2F v4X;refine (Any8.slices_Grow_grow Tryz.laysG106 i _ hi hz (by omega) none 0 0 n [] w (by omega) (by omega) (by rw [hy]; omega) (by omega) (by simp) (fun _=>rfl) (fun a ha=>by cases ha)).mono ?_
    rintro e w' ⟨rfl,rfl⟩;have hc:=grownCap_ge w (0 + n) 0 27;have hm:=grownCap_le_maxLen w (0 + n) 0 27 (by unfold maxLen; omega)
    refine ⟨⟨_,rfl,by simp, .inr ⟨_,_,_,rfl,Nat.le_refl _,blk_alloc_new _ _,Nat.zero_le _,hm, ?_,by simp⟩⟩,(Below.refl _ w).drew.alloc (Nat.le_refl _) _⟩
    simp only [Array.size_append,List.size_toArray,size_zeroCells,List.length_nil,Value.cells];show 0 + (0 + n - 0) * 8 + (grownCap w (0 + n) 0 27 - (0 + n)) * 8 = grownCap w (0 + n) 0 27 * 8;omega
end Go.Proofs
