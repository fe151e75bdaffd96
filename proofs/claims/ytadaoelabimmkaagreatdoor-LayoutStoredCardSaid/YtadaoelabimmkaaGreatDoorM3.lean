/-
  Load and Store of a memory, whatever the type: walked, by what Size, get, set, Encode, Decode do.; LayoutClones: facts of bytes, Load and Store of one bit.; LayoutStored: get of any number of bits.; LayoutStored: set of any number of bits.; LayoutStored: apart, walked.; LayoutStored: Bytes of the whole memory; which bits set turns.
-/
import Derived.Test.YtadaoelabimmkaaGreatDoorM1
import Derived.Test.YtadaoelabimmkaaGreatDoorM2
import Derived.Test.YtadaoelabimmkaaGreatDoorY14
import Derived.Deep.RegionHeld3
import Derived.Handy
import Derived.Laws.ResultCell
import Derived.Laws.OwnMore
set_option linter.all false
namespace Go.Proofs.YtadaoelabimmkaaGreatDoor
open Go.RowKit
open Go.Xec (Glob)
abbrev tyM (k p q : Int) (v : Bool) (s : ByteArray) : Value:= .agg #[.int .i64 k, .int .i64 p, .int .i64 q, .bool v, .string s]
abbrev vaM (n : Int) (s : ByteArray) : Value:= .agg #[.int .i64 n, .string s]
def z4R (k x Z : Int) : Int:=cond (decide (0 <= x) && decide (0 <= Z) && decide (x <= 524288) && decide (Z <= 524288 - x)) (cond (!(decide (k = 4)) && !(decide (x.tmod 8 = 0))) 8095 0) 8091
set_option maxRecDepth 100000 in
set_option maxHeartbeats 400000 in
theorem u9Z (k p q x Z r : Int) (v : Bool) (s : ByteArray) (w : World) (hg : Glob w) (c19 : ∀ w, Glob w -> Calls Tryz.prog 19 #[tyM k p q v s] w fun e w' => e = .returned (.int .i64 Z) /\ Below w.heap.size w w') (hr : z4R k x Z = r) :
    Calls Tryz.prog 84 #[.int .i64 x,tyM k p q v s] w fun e w'=>e = .returned (.int .i64 r) /\ Below w.heap.size w w':=by
  go_enter Tryz.func84,Tryz.ntmps84
  go_wp2_with (go_at_call 19; fail)
  refine (c19 _ (x1R ((Below.refl _ w).alloc (Nat.le_refl _) _) hg)).mono ?_
  rintro e w1 ⟨rfl,hb⟩
  have c0:=(hb.cell (p:=⟨w.heap.size, 0,none⟩) (by simp)).trans (show _ = some (.int .i64 k) by simp)
  have hB : Below w.heap.size w w1:=((Below.refl _ w).alloc (Nat.le_refl _) _).trans (hb.mono (by simp))
  clear hb
  have hF:=fun w=>y5K x Z w
  unfold z4R at hr
  cases hf : (decide (0 <= x) && decide (0 <= Z) && decide (x <= 524288) && decide (Z <= 524288 - x))
  . rw [hf] at hF hr
    obtain rfl : r = 8091:=hr.symm
    clear hf
    go_wp2_with (go_at_call 83; refine (hF _).mono ?_; rintro e w' ⟨rfl,rfl⟩)
    go_ret
    exact ⟨rfl,hB⟩
  . rw [hf] at hF hr
    clear hf
    by_cases h4 : k = 4
    . subst h4
      obtain rfl : r = 0:=hr.symm
      go_wp2_with (go_at_call 83; refine (hF _).mono ?_; rintro e w' ⟨rfl,rfl⟩)
      go_ret
      exact ⟨rfl,hB⟩
    . by_cases h8 : x.tmod 8 = 0
      . rw [decide_eq_false h4, decide_eq_true h8] at hr
        obtain rfl : r = 0:=hr.symm
        go_wp2_with (go_at_call 83; refine (hF _).mono ?_; rintro e w' ⟨rfl,rfl⟩)
        go_ret
        exact ⟨rfl,hB⟩
      . rw [decide_eq_false h4, decide_eq_false h8] at hr
        obtain rfl : r = 8095:=hr.symm
        have b4 : (k != 4) = true:=bne_iff_ne.2 h4
        have b8 : (x.tmod 8 != 0) = true:=bne_iff_ne.2 h8
        go_wp2_with (go_at_call 83; refine (hF _).mono ?_; rintro e w' ⟨rfl,rfl⟩)
        go_ret
        exact ⟨rfl,hB⟩
set_option maxRecDepth 100000 in
set_option maxHeartbeats 400000 in
theorem v5L (k p q n x Z r : Int) (v : Bool) (s u str : ByteArray) (B : Nat) (Mem : World -> Prop) (R : World -> World -> Prop) (hmem : ∀ w w',Mem w -> Below w.heap.size w w' -> Mem w') (w : World) (hg : Glob w) (hM : Mem w) (hr0 : z4R k x Z = r)
    (c19 : ∀ w,Glob w -> Calls Tryz.prog 19 #[tyM k p q v s] w fun e w'=>e = .returned (.int .i64 Z) /\ Below w.heap.size w w')
    (c23 : ∀ w,Glob w -> Calls Tryz.prog 23 #[tyM k p q v s,vaM n u] w fun e w'=>e = .returned (.tuple #[.string str, .int .i64 0]) /\ Below w.heap.size w w')
    (c85 : r = 0 -> ∀ w,Mem w -> Calls Tryz.prog 85 #[.pointer (some ⟨B, 0,none⟩), .int .i64 x, .string str] w fun e w'=>e = .returned (.tuple #[]) /\ R w w') :
    Calls Tryz.prog 32 #[.pointer (some ⟨B, 0,none⟩), .int .i64 x,tyM k p q v s,vaM n u] w fun e w'=>e = .returned (.int .i64 r) /\ (¬ r = 0 -> Below w.heap.size w w') /\ (r = 0 -> ∃ w1,Below w.heap.size w w1 /\ R w1 w'):=by
  go_enter Tryz.func32,Tryz.ntmps32
  go_wp2_with (go_at_call 23; fail)
  have hB0 : Below w.heap.size w ((w.alloc (.cells #[.int .i64 k, .int .i64 p, .int .i64 q, .bool v, .string s] 33)).alloc (.cells #[.int .i64 n, .string u] 35)):=((Below.refl _ w).alloc (Nat.le_refl _) _).alloc (by simp) _
  refine (c23 _ (x1R hB0 hg)).mono ?_
  rintro e w1 ⟨rfl,hb⟩
  have k0:=(hb.cell (p:=⟨w.heap.size, 0,none⟩) (by simp <;> omega)).trans (show _ = some (.int .i64 k) by simp)
  have k1:=(hb.cell (p:=⟨w.heap.size, 1,none⟩) (by simp <;> omega)).trans (show _ = some (.int .i64 p) by simp)
  have k2:=(hb.cell (p:=⟨w.heap.size, 2,none⟩) (by simp <;> omega)).trans (show _ = some (.int .i64 q) by simp)
  have k3:=(hb.cell (p:=⟨w.heap.size, 3,none⟩) (by simp <;> omega)).trans (show _ = some (.bool v) by simp)
  have k4:=(hb.cell (p:=⟨w.heap.size, 4,none⟩) (by simp <;> omega)).trans (show _ = some (.string s) by simp)
  have hB1 : Below w.heap.size w w1:=hB0.trans (hb.mono (by simp <;> omega))
  clear hb hB0
  go_wp2_with (go_at_call 84; fail)
  refine (u9Z k p q x Z r v s _ (x1R hB1 hg) c19 hr0).mono ?_
  rintro e w2 ⟨rfl,hb⟩
  have hB2 : Below w.heap.size w w2:=hB1.trans (hb.mono hB1.size)
  clear hb k0 k1 k2 k3 k4 hB1
  have hM2:=hmem _ _ hM hB2
  clear hr0
  by_cases hr : r = 0
  . have h85 := c85 hr _ hM2
    subst hr
    go_wp2_with (go_at_call 85; refine h85.mono ?_; rintro e w' ⟨rfl,hR⟩)
    go_ret
    exact ⟨rfl,w2,hB2,hR⟩
  . go_wp2
    go_ret
    exact ⟨rfl,fun _=>hB2,fun h=>absurd h hr⟩
theorem load_keep {w2 w w' : World} {A : Nat} {v0 v1 v2 v3 v4 : Value} {Mem : World -> Prop} (hmem : ∀ w w',Mem w -> Below w.heap.size w w' -> Mem w') (hA : A < w2.heap.size)
    (h : w.cell? ⟨A, 0,none⟩ = some v0 /\ w.cell? ⟨A, 1,none⟩ = some v1 /\ w.cell? ⟨A, 2,none⟩ = some v2 /\ w.cell? ⟨A, 3,none⟩ = some v3 /\ w.cell? ⟨A, 4,none⟩ = some v4 /\ Mem w /\ Below w2.heap.size w2 w) (hb : Below w.heap.size w w') :
    w'.cell? ⟨A, 0,none⟩ = some v0 /\ w'.cell? ⟨A, 1,none⟩ = some v1 /\ w'.cell? ⟨A, 2,none⟩ = some v2 /\ w'.cell? ⟨A, 3,none⟩ = some v3 /\ w'.cell? ⟨A, 4,none⟩ = some v4 /\ Mem w' /\ Below w2.heap.size w2 w':=by
  obtain ⟨h0,h1,h2,h3,h4,h6,h7⟩:=h
  have hs:=h7.size
  exact ⟨(hb.cell (p:=⟨A, 0,none⟩) (by simp only; omega)).trans h0,(hb.cell (p:=⟨A, 1,none⟩) (by simp only; omega)).trans h1,(hb.cell (p:=⟨A, 2,none⟩) (by simp only; omega)).trans h2,(hb.cell (p:=⟨A, 3,none⟩) (by simp only; omega)).trans h3,(hb.cell (p:=⟨A, 4,none⟩) (by simp only; omega)).trans h4,hmem _ _ h6 hb,h7.trans (hb.mono hs)⟩
theorem z7Y {w2 w : World} {A : Nat} {v0 v1 v2 v3 v4 : Value} {Mem : World -> Prop} (hg : Glob w2)
    (h : w.cell? ⟨A, 0,none⟩ = some v0 /\ w.cell? ⟨A, 1,none⟩ = some v1 /\ w.cell? ⟨A, 2,none⟩ = some v2 /\ w.cell? ⟨A, 3,none⟩ = some v3 /\ w.cell? ⟨A, 4,none⟩ = some v4 /\ Mem w /\ Below w2.heap.size w2 w) : Glob w:=x1R h.2.2.2.2.2.2 hg
theorem load_mem {w2 w : World} {A : Nat} {v0 v1 v2 v3 v4 : Value} {Mem : World -> Prop}
    (h : w.cell? ⟨A, 0,none⟩ = some v0 /\ w.cell? ⟨A, 1,none⟩ = some v1 /\ w.cell? ⟨A, 2,none⟩ = some v2 /\ w.cell? ⟨A, 3,none⟩ = some v3 /\ w.cell? ⟨A, 4,none⟩ = some v4 /\ Mem w /\ Below w2.heap.size w2 w) : Mem w:=h.2.2.2.2.2.1
theorem v7L {w2 w : World} {A : Nat} {v0 v1 v2 v3 v4 : Value} {Mem : World -> Prop}
    (h : w.cell? ⟨A, 0,none⟩ = some v0 /\ w.cell? ⟨A, 1,none⟩ = some v1 /\ w.cell? ⟨A, 2,none⟩ = some v2 /\ w.cell? ⟨A, 3,none⟩ = some v3 /\ w.cell? ⟨A, 4,none⟩ = some v4 /\ Mem w /\ Below w2.heap.size w2 w) : Below w2.heap.size w2 w:=h.2.2.2.2.2.2
theorem set2 {W : World} {C : Nat} {a b x y : Value} (h0 : W.cell? ⟨C, 0,none⟩ = some a) (h1 : W.cell? ⟨C, 1,none⟩ = some b) : ((W.setCell ⟨C, 0,none⟩ x).setCell ⟨C, 1,none⟩ y).cell? ⟨C, 0,none⟩ = some x /\ ((W.setCell ⟨C, 0,none⟩ x).setCell ⟨C, 1,none⟩ y).cell? ⟨C, 1,none⟩ = some y :=
  ⟨(World.cell?_setCell_other _ _ _ _ (by simp)).trans (World.cell?_setCell_same _ _ _ h0),World.cell?_setCell_same _ _ _ ((World.cell?_setCell_other _ _ _ _ (by simp)).trans h1)⟩
theorem z1H {w w' : World} {b i : Nat} {v : Value} (h : Below w.heap.size w w') (hz : b < w.heap.size) (hc : w.cell? ⟨b,i,none⟩ = some v) : w'.cell? ⟨b,i,none⟩ = some v:=(h.cell (p:=⟨b,i,none⟩) hz).trans hc
theorem z1G {w w' : World} {b i : Nat} {v : Bool} (h : Below w.heap.size w w') (hz : b < w.heap.size) (hc : w.frozen? ⟨b,i,none⟩ = v) : w'.frozen? ⟨b,i,none⟩ = v:=(h.frozen (p:=⟨b,i,none⟩) hz).trans hc
theorem top_z {w w' : World} {o : Obj} (h : Below (w.alloc o).heap.size (w.alloc o) w') : w.heap.size < w'.heap.size:=by
  have:=h.size
  have e : (w.alloc o).heap.size = w.heap.size + 1:=by simp
  omega
theorem top_c {w w' : World} {o : Obj} (h : Below (w.alloc o).heap.size (w.alloc o) w') (i : Nat) : w'.cell? ⟨w.heap.size,i,none⟩ = (w.alloc o).cell? ⟨w.heap.size,i,none⟩:=h.cell (p:=⟨w.heap.size,i,none⟩) (by simp)
theorem top_f {w w' : World} {o : Obj} (h : Below (w.alloc o).heap.size (w.alloc o) w') (i : Nat) : w'.frozen? ⟨w.heap.size,i,none⟩ = (w.alloc o).frozen? ⟨w.heap.size,i,none⟩:=h.frozen (p:=⟨w.heap.size,i,none⟩) (by simp)
theorem top_dz {w w' : World} {o : Obj} (h : Below (w.alloc o).drew.heap.size (w.alloc o).drew w') : w.heap.size < w'.heap.size:=by
  have:=h.size
  have e : (w.alloc o).drew.heap.size = w.heap.size + 1:=by simp
  omega
theorem top_dc {w w' : World} {o : Obj} (h : Below (w.alloc o).drew.heap.size (w.alloc o).drew w') (i : Nat) : w'.cell? ⟨w.heap.size,i,none⟩ = (w.alloc o).drew.cell? ⟨w.heap.size,i,none⟩:=h.cell (p:=⟨w.heap.size,i,none⟩) (by simp)
theorem top_df {w w' : World} {o : Obj} (h : Below (w.alloc o).drew.heap.size (w.alloc o).drew w') (i : Nat) : w'.frozen? ⟨w.heap.size,i,none⟩ = (w.alloc o).drew.frozen? ⟨w.heap.size,i,none⟩:=h.frozen (p:=⟨w.heap.size,i,none⟩) (by simp)
set_option maxRecDepth 100000 in
set_option maxHeartbeats 2000000 in
theorem load_any (k p q n x Z : Int) (v : Bool) (s u str : ByteArray) (B : Nat) (Mem : World -> Prop) (hmem : ∀ w w',Mem w -> Below w.heap.size w w' -> Mem w') (w : World) (hg : Glob w) (hM : Mem w) (hr0 : z4R k x Z = 0)
    (c62 : ∀ w,Glob w -> Calls Tryz.prog 62 #[tyM k p q v s] w fun e w'=>e = .returned (.bool true) /\ Below w.heap.size w w')
    (c19 : ∀ w,Glob w -> Calls Tryz.prog 19 #[tyM k p q v s] w fun e w'=>e = .returned (.int .i64 Z) /\ Below w.heap.size w w')
    (c86 : ∀ w,Mem w -> Calls Tryz.prog 86 #[.pointer (some ⟨B, 0,none⟩), .int .i64 x, .int .i64 Z] w fun e w'=>e = .returned (.string str) /\ Below w.heap.size w w')
    (c25 : ∀ w,Glob w -> Calls Tryz.prog 25 #[tyM k p q v s, .string str] w fun e w'=>e = .returned (.tuple #[vaM n u, .int .i64 0]) /\ Below w.heap.size w w') :
    Calls Tryz.prog 33 #[.pointer (some ⟨B, 0,none⟩), .int .i64 x,tyM k p q v s] w fun e w'=>e = .returned (.tuple #[vaM n u, .int .i64 0]) /\ Below w.heap.size w w':=by
  have hB0 : Below w.heap.size w ((w.alloc (.cells #[.int .i64 k, .int .i64 p, .int .i64 q, .bool v, .string s] 33)).alloc (.cells #[.int .i64 0, .string ⟨#[]⟩] 35)):=((Below.refl _ w).alloc (Nat.le_refl _) _).alloc (by simp) _
  go_enter Tryz.func33,Tryz.ntmps33
  go_wp2_with (go_at_call 62; fail)
  refine (c62 _ (x1R hB0 hg)).mono ?_
  rintro e w1 ⟨rfl,hb⟩
  have k0:=(hb.cell (p:=⟨w.heap.size, 0,none⟩) (by simp <;> omega)).trans (show _ = some (.int .i64 k) by simp)
  have k1:=(hb.cell (p:=⟨w.heap.size, 1,none⟩) (by simp <;> omega)).trans (show _ = some (.int .i64 p) by simp)
  have k2:=(hb.cell (p:=⟨w.heap.size, 2,none⟩) (by simp <;> omega)).trans (show _ = some (.int .i64 q) by simp)
  have k3:=(hb.cell (p:=⟨w.heap.size, 3,none⟩) (by simp <;> omega)).trans (show _ = some (.bool v) by simp)
  have k4:=(hb.cell (p:=⟨w.heap.size, 4,none⟩) (by simp <;> omega)).trans (show _ = some (.string s) by simp)
  have k5:=(hb.cell (p:=⟨w.heap.size + 1, 0,none⟩) (by simp <;> omega)).trans (show _ = some (.int .i64 0) by simp)
  have k6:=(hb.cell (p:=⟨w.heap.size + 1, 1,none⟩) (by simp <;> omega)).trans (show _ = some (.string ⟨#[]⟩) by simp)
  have k7:=(hb.frozen (p:=⟨w.heap.size + 1, 0,none⟩) (by simp <;> omega)).trans (show _ = false by simp)
  have k8:=(hb.frozen (p:=⟨w.heap.size + 1, 1,none⟩) (by simp <;> omega)).trans (show _ = false by simp)
  have hB1 : Below w.heap.size w w1:=hB0.trans (hb.mono (by simp <;> omega))
  have y0 : w.heap.size + 1 < w1.heap.size:=by have:=hb.size; simp at this; omega
  clear hb hB0
  go_wp2_with (go_at_call 84; fail)
  refine (u9Z k p q x Z 0 v s _ (x1R hB1 hg) c19 hr0).mono ?_
  rintro e w2 ⟨rfl,hb2⟩
  have y1 : w.heap.size + 1 < w2.heap.size:=Nat.lt_of_lt_of_le y0 hb2.size
  have y3 : w.heap.size < w2.heap.size:=by omega
  have hB2 : Below w.heap.size w w2:=hB1.trans (hb2.mono hB1.size)
  have m0:=(hb2.cell (p:=⟨w.heap.size, 0,none⟩) (by simp only; omega)).trans k0
  have m1:=(hb2.cell (p:=⟨w.heap.size, 1,none⟩) (by simp only; omega)).trans k1
  have m2:=(hb2.cell (p:=⟨w.heap.size, 2,none⟩) (by simp only; omega)).trans k2
  have m3:=(hb2.cell (p:=⟨w.heap.size, 3,none⟩) (by simp only; omega)).trans k3
  have m4:=(hb2.cell (p:=⟨w.heap.size, 4,none⟩) (by simp only; omega)).trans k4
  have j5:=(hb2.cell (p:=⟨w.heap.size + 1, 0,none⟩) (by simp only; omega)).trans k5
  have j6:=(hb2.cell (p:=⟨w.heap.size + 1, 1,none⟩) (by simp only; omega)).trans k6
  have j7:=(hb2.frozen (p:=⟨w.heap.size + 1, 0,none⟩) (by simp only; omega)).trans k7
  have j8:=(hb2.frozen (p:=⟨w.heap.size + 1, 1,none⟩) (by simp only; omega)).trans k8
  have HM : Hid (Mem w2):=hmem _ _ hM hB2
  have hg2:=x1R hB2 hg
  clear hb2 k0 k1 k2 k3 k4 k5 k6 k7 k8 hr0 hM y0 hB1
  generalize hA : w.heap.size = A at *
  have H0 : w2.cell? ⟨A, 0,none⟩ = some (.int .i64 k) /\ w2.cell? ⟨A, 1,none⟩ = some (.int .i64 p) /\ w2.cell? ⟨A, 2,none⟩ = some (.int .i64 q) /\ w2.cell? ⟨A, 3,none⟩ = some (.bool v) /\ w2.cell? ⟨A, 4,none⟩ = some (.string s) /\ Mem w2 /\ Below w2.heap.size w2 w2:=⟨m0,m1,m2,m3,m4,HM.out,Below.refl _ _⟩
  go_wp2
  go_region_held3 (fun w'=>w'.cell? ⟨A, 0,none⟩ = some (.int .i64 k) /\ w'.cell? ⟨A, 1,none⟩ = some (.int .i64 p) /\ w'.cell? ⟨A, 2,none⟩ = some (.int .i64 q) /\ w'.cell? ⟨A, 3,none⟩ = some (.bool v) /\ w'.cell? ⟨A, 4,none⟩ = some (.string s) /\ Mem w' /\ Below w2.heap.size w2 w')
    (first
      | assumption
      | exact load_keep hmem y3 H0 (hb8.alloc hb8.size _)
      | exact load_keep hmem y3 H0 ((hb8.setCell (p:=⟨_, 0,none⟩) (by first | exact hb7.size | exact hb6.size | exact Nat.le_refl _) _).setCell (p:=⟨_, 1,none⟩) (by first | exact hb7.size | exact hb6.size | exact Nat.le_refl _) _)
      | exact load_keep hmem y3 H0 (Below.refl _ _).drew
      | exact load_keep hmem y3 ‹_› ((Below.refl _ _).alloc (Nat.le_refl _) _)
      | exact load_keep hmem y3 ‹_› ‹_›)
    (first
      | (go_at_call 19; refine (c19 _ (z7Y hg2 (by assumption))).mono ?_; rintro e w' ⟨rfl,hba⟩; (first | (have hb6:=((Below.refl w2.heap.size w2).drew).trans hba) | (have hb6:=(((Below.refl w2.heap.size w2).drew).alloc (Nat.le_refl _) _).trans (hba.mono (by simp)))); try (have z0:=top_dz hba; have q0:=top_dc hba 0; have q1:=top_dc hba 1; have f0:=top_df hba 0; have f1:=top_df hba 1; (try simp at q0); (try simp at q1); (try simp at f0); (try simp at f1)))
      | (go_at_call 86; refine (c86 _ (load_mem (by assumption))).mono ?_; rintro e w' ⟨rfl,hbb⟩; (first | (have hb7:=hb6.trans (hbb.mono hb6.size)) | (have hb7:=(hb6.alloc hb6.size _).trans (hbb.mono (Below.size (hb6.alloc hb6.size _))))); first | (have z1:=top_z hbb; have q2:=top_c hbb 0; have q3:=top_c hbb 1; have f2:=top_f hbb 0; have f3:=top_f hbb 1; (try simp at q2); (try simp at q3); (try simp at f2); (try simp at f3)) | (have z2:=Nat.lt_of_lt_of_le z0 hbb.size; have r0:=z1H hbb z0 q0; have r1:=z1H hbb z0 q1; have r2:=z1G hbb z0 f0; have r3:=z1G hbb z0 f1) | skip)
      | (go_at_call 25; refine (c25 _ (z7Y hg2 (by assumption))).mono ?_; rintro e w' ⟨rfl,hbc⟩; (first | (have hb8:=hb7.trans (hbc.mono hb7.size)) | (have hb8:=(hb7.alloc hb7.size _).trans (hbc.mono (Below.size (hb7.alloc hb7.size _))))); first | (have z3:=top_z hbc; have q4:=top_c hbc 0; have q5:=top_c hbc 1; have f4:=top_f hbc 0; have f5:=top_f hbc 1; (try simp at q4); (try simp at q5); (try simp at f4); (try simp at f5)) | (have s0:=z1H hbc z1 q2; have s1:=z1H hbc z1 q3; have s2:=z1G hbc z1 f2; have s3:=z1G hbc z1 f3) | (have s0:=z1H hbc z2 r0; have s1:=z1H hbc z2 r1; have s2:=z1G hbc z2 r2; have s3:=z1G hbc z2 r3) | skip))
  all_goals
    rename_i hS
    have hL:=v7L hS
    have t5:=(hL.cell (p:=⟨A + 1, 0,none⟩) y1).trans j5
    have t6:=(hL.cell (p:=⟨A + 1, 1,none⟩) y1).trans j6
    have t7:=(hL.frozen (p:=⟨A + 1, 0,none⟩) y1).trans j7
    have t8:=(hL.frozen (p:=⟨A + 1, 1,none⟩) y1).trans j8
    clear hS m0 m1 m2 m3 m4 j5 j6 j7 j8
    go_wp2
    obtain ⟨e0,e1⟩:=set2 (x:= .int .i64 n) (y:= .string u) t5 t6
    (try simp only [Exit.inBlock,Exit.then])
    refine bodyPost_ret (v:= .tuple #[vaM n u, .int .i64 0]) (by rw [results_cell_tmp rfl]; go_simp) rfl ?_
    exact ⟨rfl,by rw [hA]; exact ((hB2.trans (hL.mono (Nat.le_of_lt y3))).setCell (p:=⟨A + 1, 0,none⟩) (Nat.le_succ _) _).setCell (p:=⟨A + 1, 1,none⟩) (Nat.le_succ _) _⟩
end Go.Proofs.YtadaoelabimmkaaGreatDoor
namespace Go.Proofs.YtadaoelabimmkaaGreatDoor
open Go.RowKit
open Go.Xec (Glob)
noncomputable def byteB (n j : Nat) : Bool :=
  let m : Int:= 128 / 2 ^ j
  let t : Int:=(48 + bits .and .u8 ((n : Int) / 2 ^ (7 - j)) 1) % 256
  let o : Int:=bits .or .u8 n m
  let a : Int:=bits .andNot .u8 n m
  decide (0 <= o) && decide (o <= 255) && decide (0 <= a) && decide (a <= 255) &&
    ((decide (t = 48) && decide (bits .xor .u8 n o = m) && decide (bits .xor .u8 o n = m) && decide (bits .xor .u8 n a = 0) && decide (bits .xor .u8 a n = 0)) ||
     (decide (t = 49) && decide (bits .xor .u8 n a = m) && decide (bits .xor .u8 a n = m) && decide (bits .xor .u8 n o = 0) && decide (bits .xor .u8 o n = 0)))
theorem byte_all : ((List.range 256).all fun n=>(List.range 8).all fun j=>byteB n j) = true:=by kernel_rfl
theorem xor_all : ((List.range 256).all fun n=>decide (bits .xor .u8 (n : Int) n = 0)) = true:=by kernel_rfl
theorem xor_self {a : Int} (h0 : 0 <= a) (h1 : a <= 255) : bits .xor .u8 a a = 0:=by
  have:=List.all_eq_true.1 xor_all a.toNat (List.mem_range.2 (by omega))
  rw [show ((a.toNat : Nat) : Int) = a by omega] at this
  exact of_decide_eq_true this
theorem u0P {a x : Int} (h0 : 0 <= a) (h1 : a <= 255) :
    (0 <= bits .or .u8 a (128 / 2 ^ (x % 8).toNat) /\ bits .or .u8 a (128 / 2 ^ (x % 8).toNat) <= 255 /\ 0 <= bits .andNot .u8 a (128 / 2 ^ (x % 8).toNat) /\ bits .andNot .u8 a (128 / 2 ^ (x % 8).toNat) <= 255) /\
    ((chOf a x = 48 /\ bits .xor .u8 a (bits .or .u8 a (128 / 2 ^ (x % 8).toNat)) = 128 / 2 ^ (x % 8).toNat /\ bits .xor .u8 (bits .or .u8 a (128 / 2 ^ (x % 8).toNat)) a = 128 / 2 ^ (x % 8).toNat /\ bits .xor .u8 a (bits .andNot .u8 a (128 / 2 ^ (x % 8).toNat)) = 0 /\ bits .xor .u8 (bits .andNot .u8 a (128 / 2 ^ (x % 8).toNat)) a = 0) \/
     (chOf a x = 49 /\ bits .xor .u8 a (bits .andNot .u8 a (128 / 2 ^ (x % 8).toNat)) = 128 / 2 ^ (x % 8).toNat /\ bits .xor .u8 (bits .andNot .u8 a (128 / 2 ^ (x % 8).toNat)) a = 128 / 2 ^ (x % 8).toNat /\ bits .xor .u8 a (bits .or .u8 a (128 / 2 ^ (x % 8).toNat)) = 0 /\ bits .xor .u8 (bits .or .u8 a (128 / 2 ^ (x % 8).toNat)) a = 0)):=by
  have h:=List.all_eq_true.1 (List.all_eq_true.1 byte_all a.toNat (List.mem_range.2 (by omega))) (x % 8).toNat (List.mem_range.2 (by omega))
  unfold byteB at h
  rw [show ((a.toNat : Nat) : Int) = a by omega] at h
  have hj : (7 - x % 8).toNat = 7 - (x % 8).toNat:=by omega
  unfold chOf
  rw [hj]
  simp only [Bool.and_eq_true,Bool.or_eq_true,decide_eq_true_eq,and_assoc] at h
  exact ⟨⟨h.1,h.2.1,h.2.2.1,h.2.2.2.1⟩,h.2.2.2.2⟩
theorem bs_set {c : Array Value} {f : Nat -> Int} (hc : Bs c f) (k : Nat) {v : Int} (h0 : 0 <= v) (h1 : v <= 255) : Bs (c.setIfInBounds k (.int .u8 v)) (fun j=>if j = k then v else f j):=by
  refine ⟨by rw [Array.size_setIfInBounds]; exact hc.size, ?_, ?_, ?_⟩
  . intro i hi
    rw [Array.getElem?_setIfInBounds]
    by_cases h : k = i
    . subst h
      rw [if_pos rfl,if_pos (by rw [hc.size]; exact hi),if_pos rfl]
    . rw [if_neg h, if_neg (Ne.symm h)]
      exact hc.at' i hi
  . intro i hi
    split
    . exact h0
    . exact hc.lo i hi
  . intro i hi
    split
    . exact h1
    . exact hc.hi i hi
def MemAt (B : Nat) (c : Array Value) (w : World) : Prop:=w.heap[B]? = some (.cells c 130 (0, 0))
theorem MemAt.lt {B : Nat} {c : Array Value} {w : World} (h : MemAt B c w) : B < w.heap.size:=(Array.getElem?_eq_some_iff.1 h).1
theorem MemAt.keep {B : Nat} {c : Array Value} {w w' : World} (h : MemAt B c w) (hb : Below w.heap.size w w') : MemAt B c w':=(hb.block B h.lt).trans h
theorem MemAt.cell {B : Nat} {c : Array Value} {f : Nat -> Int} {w : World} (h : MemAt B c w) (hc : Bs c f) {k : Nat} (hk : k < 65536) : w.cell? ⟨B,k,none⟩ = some (.int .u8 (f k)):=by rw [cell_of_row w B k c 130 (0, 0) h]; exact hc.at' k hk
theorem MemAt.frozen {B : Nat} {c : Array Value} {w : World} (h : MemAt B c w) (k : Nat) : w.frozen? ⟨B,k,none⟩ = false:=by simp [World.frozen?, show w.heap[B]? = _ from h]
def chB (f : Nat -> Int) (x : Int) : UInt8:=UInt8.ofNat (chOf (f (x / 8).toNat) x).toNat
end Go.Proofs.YtadaoelabimmkaaGreatDoor
namespace Go.Proofs.YtadaoelabimmkaaGreatDoor
open Go.RowKit
open Go.Xec (Glob)
def rowG (f : Nat -> Int) (x : Int) (n i : Nat) : Array Value:=((List.range n).map fun j=>Value.int .u8 (if j < i then chOf (f ((x + j) / 8).toNat) (x + j) else 0)).toArray
variable {f : Nat -> Int} {x : Int} {n i j : Nat}
theorem y0Z : (rowG f x n i).size = n:=by simp [rowG]
theorem x9D (h : j < n) : (rowG f x n i)[j]? = some (.int .u8 (if j < i then chOf (f ((x + j) / 8).toNat) (x + j) else 0)):=by
  unfold rowG
  rw [List.getElem?_toArray,List.getElem?_map,List.getElem?_range h]
  rfl
theorem rowG_set (h : i < n) : (rowG f x n i).setIfInBounds i (.int .u8 (chOf (f ((x + i) / 8).toNat) (x + i))) = rowG f x n (i + 1):=by
  apply Array.ext_getElem?
  intro j
  rw [Array.getElem?_setIfInBounds]
  by_cases hj : j < n
  . by_cases e : i = j
    . subst e
      rw [if_pos rfl,if_pos (by rw [y0Z]; exact h),x9D h,if_pos (Nat.lt_succ_self _)]
    . rw [if_neg e, x9D hj, x9D hj]
      by_cases h2 : j < i
      . rw [if_pos h2,if_pos (by omega)]
      . rw [if_neg h2,if_neg (by omega)]
  . rw [Array.getElem?_eq_none (by rw [y0Z]; omega),Array.getElem?_eq_none (by rw [y0Z]; omega),if_neg (by omega)]
theorem v5Y : madeCells #[.int .u8 0] n = rowG f x n 0:=by
  apply Array.ext_getElem?
  intro j
  rw [<- Array.getElem?_toList,toList_madeCells_one]
  by_cases hj : j < n
  . rw [List.getElem?_replicate,if_pos hj,x9D hj,if_neg (by omega)]
  . rw [List.getElem?_replicate,if_neg hj,Array.getElem?_eq_none (by rw [y0Z]; omega)]
theorem make_any (f : Nat -> Int) (x : Int) (n : Nat) (hn : n <= 100000) (w : World) : (Instr.makeSlice 118 (.int .i64 (n : Int)) (.int .i64 (n : Int))).run Tryz.prog w = .ok (.slice (some ⟨w.heap.size, 0,none⟩) n n) (w.alloc (.cells (rowG f x n 0) 5)):=by
  obtain ⟨i0,hi,hz0,hz1,hz2⟩:=info_parts info5
  have:=run_make (P:=Tryz.prog) w 118 5 i0 (.int .u8 0) Tryz.underlying118 hi hz0 .i64 .i64 n n (by omega) (by omega) (by rw [hz2]; omega) (by omega)
  rw [hz1,Nat.mul_one,Int.toNat_natCast,show (Value.int .u8 0).cells = #[.int .u8 0] from rfl,v5Y (f:=f) (x:=x)] at this
  exact this
def getL (f : Nat -> Int) (x : Int) (n : Nat) : List UInt8:=(List.range n).map fun (j : Nat)=>UInt8.ofNat (chOf (f ((x + j) / 8).toNat) (x + j)).toNat
theorem y7S : ∀ (l : List Int) (s : ByteArray),l.foldl (fun r n=>r.push (UInt8.ofNat n.toNat)) s = ⟨s.data ++ (l.map fun n=>UInt8.ofNat n.toNat).toArray⟩
  | [],s=>by simp
  | a :: l, s => by
    rw [List.foldl_cons,y7S l]
    simp [ByteArray.push]
theorem w1H (w : World) (hn : ∀ j, j < n -> w.cell? ⟨i, j, none⟩ = (rowG f x n n)[j]?) : (convert 118 9 (.slice (some ⟨i, 0, none⟩) n n)).run Tryz.prog w = .ok (.string ⟨(getL f x n).toArray⟩) w := by
  rw [run_convert_bytes_string w 118 9 5 (some ⟨i, 0,none⟩) n n Tryz.underlying118 Tryz.underlying5 Tryz.underlying9]
  have:=run_bytesToString (P:=Tryz.prog) w ⟨i, 0,none⟩ n n ((List.range n).map fun (j : Nat)=>chOf (f ((x + j) / 8).toNat) (x + j)) (by
    have:=run_loadCells_list (P:=Tryz.prog) w ⟨i, 0,none⟩ (((List.range n).map fun (j : Nat)=>chOf (f ((x + j) / 8).toNat) (x + j)).map (Value.int .u8)) (fun j v hv=>by
      have hj : j < n:=by
        have:=(List.getElem?_eq_some_iff.1 hv).1
        simpa using this
      have e : (⟨i, 0,none⟩ : Addr).add j = ⟨i,j,none⟩:=by unfold Addr.add; split <;> simp_all
      rw [e,hn j hj,x9D hj,if_pos hj]
      rw [List.getElem?_map,List.getElem?_map,List.getElem?_range hj] at hv
      exact hv)
    simpa using this)
  rw [this,y7S]
  simp [getL,Function.comp_def]
set_option maxRecDepth 100000 in
set_option maxHeartbeats 1000000 in
theorem get_any {B : Nat} {c : Array Value} (hc : Bs c f) (n : Nat) (hn : n <= 100000) (w : World) (hM : MemAt B c w) (h0 : 0 <= x) (h1 : x + n <= 524288) :
    Calls Tryz.prog 86 #[.pointer (some ⟨B, 0,none⟩), .int .i64 x, .int .i64 (n : Int)] w fun e w'=>e = .returned (.string ⟨(getL f x n).toArray⟩) /\ Below w.heap.size w w':=by
  have hmk:=make_any f x n hn
  have hlt:=hM.lt
  have hfin : (convert 118 9 (.slice (some ⟨w.heap.size, 0,none⟩) n n)).run Tryz.prog (w.alloc (.cells (rowG f x n n) 5)) = .ok (.string ⟨(getL f x n).toArray⟩) (w.alloc (.cells (rowG f x n n) 5)):=w1H _ (fun j _=>by simp)
  go_enter Tryz.func86,Tryz.ntmps86
  go_wp2
  go_loopw [14] (fun v wr=> ∃ i : Nat,i <= n /\ v = .int .i64 (i : Int) /\ wr = w.alloc (.cells (rowG f x n i) 5)) (fun v _=>(n - intOf v).toNat)
  case atStart=>exact ⟨0,Nat.zero_le _,rfl,rfl⟩
  case round =>
    obtain ⟨i,hi,rfl,rfl⟩:=hrel
    by_cases hlt2 : i < n
    . have hl3 : (i : Int) < (n : Int) := by omega
      obtain ⟨y,hy⟩ : ∃ y : Int,x + (i : Int) = y:=⟨_,rfl⟩
      have y0 : 0 <= y:=by omega
      have y1 : y < 524288:=by omega
      have hadd : IntKind.i64.wrap (x + (i : Int)) = y:=by rw [hy]; simp [IntKind.wrap,IntKind.bits,IntKind.signed]; omega
      have hk : (y / 8).toNat < 65536:=by omega
      have hcell : (w.alloc (.cells (rowG f x n i) 5)).cell? ⟨B,(y / 8).toNat,none⟩ = some (.int .u8 (f (y / 8).toNat)):=(World.cell?_alloc_past _ _ _ hlt).trans (hM.cell hc hk)
      have hq : (w.alloc (.cells (rowG f x n i) 5)).cell? ⟨w.heap.size,i,none⟩ = some (.int .u8 0):=by
        have:=x9D (f:=f) (x:=x) (i:=i) hlt2
        rw [if_neg (Nat.lt_irrefl _)] at this
        simp [this]
      have hfz : (w.alloc (.cells (rowG f x n i) 5)).frozen? ⟨w.heap.size,i,none⟩ = false:=by simp
      have hst:=rowG_set (f:=f) (x:=x) hlt2
      rw [hy] at hst
      clear hmk hfin hM
      go_wp2
      go_roundw
      case rel=>exact ⟨i + 1,hlt2,by simp,by rw [<- hst]; rfl⟩
      case measure=>simp [intOf]; omega
    . obtain rfl : i = n := by omega
      clear hmk
      go_wp2
      go_ret
      exact ⟨rfl,(Below.refl _ w).alloc (Nat.le_refl _) _⟩
end Go.Proofs.YtadaoelabimmkaaGreatDoor
namespace Go.Proofs.YtadaoelabimmkaaGreatDoor
open Go.RowKit
open Go.Xec (Glob)
structure ButB (B : Nat) (w w' : World) : Prop where
  os : w'.os = w.os
  tape : w'.tape = w.tape
  output : w'.output = w.output
  size : w'.heap.size = w.heap.size
  block : ∀ k, ¬ k = B -> w'.heap[k]? = w.heap[k]?
theorem ButB.refl (B : Nat) (w : World) : ButB B w w:=⟨rfl,rfl,rfl,rfl,fun _ _=>rfl⟩
theorem ButB.drew {B : Nat} {w w' : World} (h : ButB B w w') : ButB B w w'.drew:=⟨h.os,h.tape,h.output,h.size,h.block⟩
theorem ButB.setCell {B i : Nat} {v : Value} {w w' : World} (h : ButB B w w') : ButB B w (w'.setCell ⟨B,i,none⟩ v) :=
  ⟨h.os,h.tape,h.output,by rw [<- h.size]; simp [World.setCell],fun k hk=>(Below.heap_setCell w' ⟨B,i,none⟩ v k hk).trans (h.block k hk)⟩
noncomputable def putB (a x : Int) (b : UInt8) : Int:=cond (decide (b = 49)) (bits .or .u8 a (128 / 2 ^ (x % 8).toNat)) (bits .andNot .u8 a (128 / 2 ^ (x % 8).toNat))
theorem v6G {a x : Int} (h0 : 0 <= a) (h1 : a <= 255) (b : UInt8) : 0 <= putB a x b /\ putB a x b <= 255:=by
  obtain ⟨⟨o0,o1,a0,a1⟩,_⟩:=u0P (x:=x) h0 h1
  unfold putB
  cases decide (b = 49)
  . exact ⟨a0,a1⟩
  . exact ⟨o0,o1⟩
noncomputable def setF (f : Nat -> Int) (x : Int) (l : List UInt8) : Nat -> Nat -> Int :=
  Nat.rec f (fun i g j=>if j = ((x + i) / 8).toNat then putB (g ((x + i) / 8).toNat) (x + i) (l.getD i 0) else g j)
variable {f : Nat -> Int} {x : Int} {n i j : Nat}
theorem y6B {l : List UInt8} : setF f x l (i + 1) = fun j=>if j = ((x + i) / 8).toNat then putB (setF f x l i ((x + i) / 8).toNat) (x + i) (l.getD i 0) else setF f x l i j:=rfl
set_option maxRecDepth 100000 in
set_option maxHeartbeats 1000000 in
theorem set_any {B : Nat} {c : Array Value} (hc : Bs c f) (l : List UInt8) (hb : ∀ b ∈ l, b = 48 \/ b = 49) (w : World) (hM : MemAt B c w) (h0 : 0 <= x) (h1 : x + l.length <= 524288) :
    Calls Tryz.prog 85 #[.pointer (some ⟨B, 0,none⟩), .int .i64 x, .string ⟨l.toArray⟩] w fun e w'=>e = .returned (.tuple #[]) /\ ∃ c',Bs c' (setF f x l l.length) /\ MemAt B c' w' /\ ButB B w w':=by
  have hsz : (⟨l.toArray⟩ : ByteArray).size = l.length:=by simp [ByteArray.size]
  have hidx : ∀ (k : Nat) (h : k < (⟨l.toArray⟩ : ByteArray).size),(⟨l.toArray⟩ : ByteArray)[k]'h = l.getD k 0:=fun k h=>by
    have h2 : k < l.length:=by rw [<- hsz]; exact h
    rw [List.getD_eq_getElem?_getD,List.getElem?_eq_getElem h2]
    rfl
  generalize hs : (⟨l.toArray⟩ : ByteArray) = s at hsz hidx
  clear hs
  go_enter Tryz.func85,Tryz.ntmps85
  go_wp2
  go_loopw [11] (fun v wr=> ∃ i : Nat,i <= l.length /\ v = .int .i64 (i : Int) /\ ∃ c',Bs c' (setF f x l i) /\ MemAt B c' wr /\ ButB B w wr) (fun v _=>(l.length - intOf v).toNat)
  case atStart=>exact ⟨0,Nat.zero_le _,rfl,c,hc,hM,ButB.refl _ _⟩
  case round =>
    obtain ⟨i,hi,rfl,c',hc',hM',hB'⟩:=hrel
    by_cases hlt2 : i < l.length
    . have hl3 : (i : Int) < (s.size : Int) := by omega
      obtain ⟨y,hy⟩ : ∃ y : Int,x + (i : Int) = y:=⟨_,rfl⟩
      have y0 : 0 <= y:=by omega
      have y1 : y < 524288:=by omega
      have hadd : IntKind.i64.wrap (x + (i : Int)) = y:=by rw [hy]; simp [IntKind.wrap,IntKind.bits,IntKind.signed]; omega
      have hk : (y / 8).toNat < 65536:=by omega
      have hcell:=hM'.cell hc' hk
      have hfz:=hM'.frozen (y / 8).toNat
      have hin:=fun b=>v6G (x:=y) (hc'.lo _ hk) (hc'.hi _ hk) b
      have hx1 : s[i]'(by omega) = l.getD i 0:=hidx i (by omega)
      have hs2:=y6B (f:=f) (x:=x) (i:=i) (l:=l)
      rw [hy] at hs2
      have hbi : l.getD i 0 = 48 \/ l.getD i 0 = 49:=hb _ (by rw [List.getD_eq_getElem?_getD,List.getElem?_eq_getElem hlt2]; exact List.getElem_mem _)
      generalize l.getD i 0 = b at hx1 hs2 hbi
      have fin : ∀ v,v = putB (setF f x l i (y / 8).toNat) y b -> ∃ c'',Bs c'' (setF f x l (i + 1)) /\ MemAt B c'' (wr.setCell ⟨B,(y / 8).toNat,none⟩ (.int .u8 v)).drew /\ ButB B w (wr.setCell ⟨B,(y / 8).toNat,none⟩ (.int .u8 v)).drew:=by
        rintro v rfl
        refine ⟨c'.setIfInBounds (y / 8).toNat (.int .u8 _), ?_,heap_setCell_same wr B _ c' 130 _ hM',hB'.setCell.drew⟩
        rw [hs2]
        exact bs_set hc' _ (hin b).1 (hin b).2
      clear hM hM' hc hidx hb hs2 hin
      rcases hbi with rfl | rfl
      . go_wp2
        go_region
        go_wp2
        go_roundw
        case rel=>exact ⟨i + 1,hlt2,by simp,fin _ rfl⟩
        case measure=>simp [intOf]; omega
      . go_wp2
        go_region
        go_wp2
        go_roundw
        case rel=>exact ⟨i + 1,hlt2,by simp,fin _ rfl⟩
        case measure=>simp [intOf]; omega
    . obtain rfl : i = l.length := by omega
      go_wp2
      go_end0
      exact ⟨rfl,c',hc',hM',hB'⟩
end Go.Proofs.YtadaoelabimmkaaGreatDoor
namespace Go.Proofs.YtadaoelabimmkaaGreatDoor
open Go.RowKit
open Go.Xec (Glob)
set_option maxRecDepth 100000 in
set_option maxHeartbeats 3000000 in
theorem w1Y (a b : ByteArray) (S : Nat) (fa fb : Nat -> Int) (x n : Int) (ha : a.size = S) (hb : b.size = S) (hS : (S : Int) <= 100000) (ia : ∀ (k : Nat) (h : k < a.size), ((a[k]'h).toNat : Int) = fa k) (ib : ∀ (k : Nat) (h : k < b.size), ((b[k]'h).toNat : Int) = fb k)
    (x0 : 0 <= x) (n0 : 0 <= n) (xn : x + n <= 524288)
    (hout : ∀ i k : Int, 0 <= i -> i < S -> 0 <= k -> k < 8 -> (8 * i + k < x \/ x + n <= 8 * i + k) -> bits .and .u8 (bits .xor .u8 (fa i.toNat) (fb i.toNat) / 2 ^ (7 - k).toNat) 1 = 0) (w : World) :
    Calls Tryz.prog 34 #[.string a, .string b, .int .i64 x, .int .i64 n] w fun e w'=>e = .returned (.bool true) /\ Below w.heap.size w w':=by
  go_enter Tryz.func34,Tryz.ntmps34
  go_wp2
  go_loopg [19] S (fun g v wr=> ∃ i : Int, 0 <= i /\ i <= S /\ g = (S - i).toNat /\ v = .int .i64 i /\ Below w.heap.size w wr)
  case atStart=>exact ⟨0,Int.le_refl _,by omega,by omega,rfl,Below.refl _ _⟩
  case round =>
    obtain ⟨i,i0,i1,rfl,rfl,hB⟩:=hrel
    by_cases hlt : i < (S : Int)
    . have hia : i < (a.size : Int) := by omega
      have hib : i < (b.size : Int):=by omega
      have ia2:=ia i.toNat (by omega)
      have ib2:=ib i.toNat (by omega)
      have hout2:=fun k=>hout i k i0 hlt
      clear hout ia ib
      go_wp2
      go_loopg [22] 8 (fun g v wr=> ∃ k : Int, 0 <= k /\ k <= 8 /\ g = (8 - k).toNat /\ v = .int .i64 k /\ Below w.heap.size w wr)
      case atStart=>exact ⟨0,Int.le_refl _,by omega,by omega,rfl,hB⟩
      case round =>
        obtain ⟨k,k0,k1,rfl,rfl,hB2⟩:=hrel
        by_cases hk : k < 8
        . have hz := fun h => hout2 k k0 hk h
          clear hout2 hB
          have hw1 : IntKind.i64.wrap (8 * i + k) = 8 * i + k:=by simp [IntKind.wrap,IntKind.bits,IntKind.signed]; omega
          have hw2 : IntKind.i64.wrap (8 * i) = 8 * i:=by simp [IntKind.wrap,IntKind.bits,IntKind.signed]; omega
          have hw3 : IntKind.i64.wrap (x + n) = x + n:=by simp [IntKind.wrap,IntKind.bits,IntKind.signed]; omega
          generalize fa i.toNat = p at ia2 hz
          generalize fb i.toNat = q at ib2 hz
          by_cases he : p = q
          . have hb1 : (p != q) = false := by rw [he]; exact bne_self_eq_false q
            go_wp2
            go_region
            all_goals go_wp2
            all_goals go_roundg (8 - (k + 1)).toNat
            all_goals first | omega | exact ⟨k + 1,by omega,by omega,rfl,rfl,hB2.drew⟩
          . have hb1 : (p != q) = true := bne_iff_ne.2 he
            by_cases h1 : 8 * i + k < x
            . have hz := hz (.inl h1)
              have hd1 : decide (8 * i + k < x) = true:=decide_eq_true h1
              go_wp2
              go_region
              all_goals go_wp2
              all_goals go_roundg (8 - (k + 1)).toNat
              all_goals first | omega | exact ⟨k + 1,by omega,by omega,rfl,rfl,hB2.drew⟩
            . have hd1 : decide (8 * i + k < x) = false := decide_eq_false h1
              by_cases h2 : x + n <= 8 * i + k
              . have hz := hz (.inr h2)
                have hd2 : decide (x + n <= 8 * i + k) = true:=decide_eq_true h2
                go_wp2
                go_region
                all_goals go_wp2
                all_goals go_roundg (8 - (k + 1)).toNat
                all_goals first | omega | exact ⟨k + 1,by omega,by omega,rfl,rfl,hB2.drew⟩
              . have hd2 : decide (x + n <= 8 * i + k) = false := decide_eq_false h2
                clear hz
                go_wp2
                go_region
                all_goals go_wp2
                all_goals go_roundg (8 - (k + 1)).toNat
                all_goals first | omega | exact ⟨k + 1,by omega,by omega,rfl,rfl,hB2.drew⟩
        . obtain rfl : k = 8 := by omega
          clear hout2 ia2 ib2
          go_wp2
          go_roundg (S - (i + 1)).toNat
          case measure=>omega
          case rel=>exact ⟨i + 1,by omega,by omega,rfl,rfl,hB2⟩
    . obtain rfl : i = S := by omega
      go_wp2
      go_ret
      exact ⟨rfl,hB⟩
end Go.Proofs.YtadaoelabimmkaaGreatDoor
namespace Go.Proofs.YtadaoelabimmkaaGreatDoor
open Go.RowKit
open Go.Xec (Glob)
variable {f : Nat -> Int} {x : Int} {n i j : Nat}
def strF (f : Nat -> Int) (n : Nat) : ByteArray:=⟨((List.range n).map fun (j : Nat)=>UInt8.ofNat (f j).toNat).toArray⟩
theorem x3K : (strF f n).size = n:=by simp [strF,ByteArray.size]
theorem u7C (h : j < (strF f n).size) (h0 : 0 <= f j) (h1 : f j <= 255) : (((strF f n)[j]'h).toNat : Int) = f j:=by
  have e : (strF f n)[j]'h = UInt8.ofNat (f j).toNat:=by
    have h2 : j < n:=by have:=x3K (f:=f) (n:=n); omega
    have h3 : (strF f n).data[j]? = some (UInt8.ofNat (f j).toNat):=by
      unfold strF
      rw [List.getElem?_toArray,List.getElem?_map,List.getElem?_range h2]
      rfl
    exact Option.some.inj ((Array.getElem?_eq_getElem (xs:=(strF f n).data) h).symm.trans h3)
  rw [e,UInt8.toNat_ofNat']
  omega
theorem w1G (w : World) (hn : ∀ j, j < n -> w.cell? ⟨i, j, none⟩ = some (.int .u8 (f j))) : (convert 118 9 (.slice (some ⟨i, 0, none⟩) n n)).run Tryz.prog w = .ok (.string (strF f n)) w := by
  rw [run_convert_bytes_string w 118 9 5 (some ⟨i, 0,none⟩) n n Tryz.underlying118 Tryz.underlying5 Tryz.underlying9]
  have:=run_bytesToString (P:=Tryz.prog) w ⟨i, 0,none⟩ n n ((List.range n).map fun (j : Nat)=>f j) (by
    have:=run_loadCells_list (P:=Tryz.prog) w ⟨i, 0,none⟩ (((List.range n).map fun (j : Nat)=>f j).map (Value.int .u8)) (fun j v hv=>by
      have hj : j < n:=by
        have:=(List.getElem?_eq_some_iff.1 hv).1
        simpa using this
      have e : (⟨i, 0,none⟩ : Addr).add j = ⟨i,j,none⟩:=by unfold Addr.add; split <;> simp_all
      rw [e,hn j hj]
      rw [List.getElem?_map,List.getElem?_map,List.getElem?_range hj] at hv
      exact hv)
    simpa using this)
  rw [this,y7S]
  simp [strF,Function.comp_def]
theorem y0U {P : Program} {ops : Array Oper} {rest : List Oper} {o : Oper} {a : Act} {w : World} {Q : Exit -> Act -> World -> Prop} (hgd : o.guard = none) (s d : TypeId) (x : Operand) (ho : o.op = .convert s d x)
    {v v' : Value} (hx : a.eval x = v) (hr : (convert s d v).run P w = .ok v' w) (hk : wpList P ops Q rest (a.put o.dst v') w) : wpList P ops Q (o :: rest) a w :=
  wpList_plain hgd fun _ hK=>by
    unfold Oper.wp execOp
    simp only [ho,hx,Sem.run_bind,hr,Result.andThen_ok,Sem.run_pure]
    exact hK _ _ hk
set_option maxRecDepth 100000 in
theorem u5D (B : Nat) (w : World) : (Instr.sliceAt 128 (.pointer (some ⟨B, 0,none⟩)) (some (.int .i64 0)) (some (.int .i64 65536)) none).run Tryz.prog w = .ok (.slice (some ⟨B, 0,none⟩) 65536 65536) w:=by
  have hu : Tryz.prog.underlying 128 = some (.array (Tryz.prog.arrayLen 128) (Tryz.prog.elem 128)):=by rw [z2L,z4K]; exact Tryz.underlying128
  have hsl:=run_sliceAt_array_lh (P:=Tryz.prog) w 128 ⟨B, 0,none⟩ hu .i64 .i64 0 65536 (by decide) (by decide) (by rw [z2L]; decide)
  rw [z4K,Tryz.sizeOf5,z2L] at hsl
  rw [hsl]
  rfl
set_option maxRecDepth 100000 in
set_option maxHeartbeats 1000000 in
theorem y8X {B : Nat} {c : Array Value} (hc : Bs c f) (w : World) (hM : MemAt B c w) :
    Calls Tryz.prog 31 #[.pointer (some ⟨B, 0,none⟩), .int .i64 0, .int .i64 65536] w fun e w'=>e = .returned (.tuple #[.string (strF f 65536), .int .i64 0]) /\ w' = w:=by
  have r1:=u5D B w
  have r2:=w1G (f:=f) (n:= 65536) w (fun j hj=>hM.cell hc hj)
  have hF:=fun w=>y5K 0 524288 w
  generalize strF f 65536 = t at r2
  go_enter Tryz.func31,Tryz.ntmps31
  go_wp2_with (first
    | (go_at_call 83; refine (hF _).mono ?_; rintro e w' ⟨rfl,rfl⟩)
    | (refine x7U rfl 128 _ _ _ _ rfl rfl rfl rfl rfl r1 ?_)
    | (refine y0U rfl 118 9 _ rfl rfl r2 ?_))
  go_ret2
  exact ⟨rfl,rfl⟩
end Go.Proofs.YtadaoelabimmkaaGreatDoor
