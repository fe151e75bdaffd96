/-
  Closures over shapes; ContainsFunc over a list of shapes, walked.; LayoutVariables, walked.
-/
import Derived.Test.YtadehgdfijjikaaGreatDoorS9
import Derived.Test.YtadehgdfijjikaaGreatDoorY17
set_option linter.all false
namespace Go.Proofs
open Go.RowKit Go.Yec Go.Shp Go.Deep
open Go.Xec (Glob)
set_option maxRecDepth 100000 in
set_option maxHeartbeats 4000000 in
theorem clo_17 (s : Sh) (W w : World) (dv pv : Value) (hG : Glob W) (hs : ShAt W dv pv s) (hB : Below W.heap.size W w) :
    Calls Tryz.prog 17 #[shV dv pv s.t s.g] w fun e w'=>(∃ c : Bool,e = .returned (.bool c) /\ (c = false -> okS s /\ scnt s <= 30)) /\ Below w.heap.size w w':=by
  have hf:=fun w1 (hB : Below W.heap.size W w1)=>z2Y s w1 _ _ 30 (x8M hB hs) (by omega) (by omega)
  obtain ⟨a1,c1,a2,c2,rfl,rfl⟩:=hs.slices
  have hB1 : Below w.heap.size w (w.alloc (.cells #[.slice a1 s.D.length c1, .slice a2 s.P.length c2, .int .i64 s.t.k, .int .i64 s.t.p, .int .i64 s.t.q, .bool s.t.v, .string s.t.pic, .bool s.g] 27)):=(Below.refl _ w).alloc (Nat.le_refl _) _
  go_enter Tryz.func17,Tryz.ntmps17
  go_wp2_with (go_at_call 15; fail)
  refine (hf _ (hB.trans (hB1.mono hB.size))).mono ?_
  rintro e w2 ⟨⟨fw,rfl,hfw⟩,hb⟩
  have hB2:=hB1.trans (hb.mono hB1.size)
  have hfH : Hid (fw = true -> okS s /\ scnt s <= 30):=hfw
  clear hb hf hfw
  go_wp2
  go_ret
  exact ⟨⟨_,rfl,fun h=>hfH.out (by simpa using h)⟩,hB2⟩
set_option maxRecDepth 100000 in
set_option maxHeartbeats 4000000 in
theorem clo_29 (s : Sh) (W w : World) (dv pv : Value) (hG : Glob W) (hs : ShAt W dv pv s) (hB : Below W.heap.size W w) :
    Calls Tryz.prog 29 #[shV dv pv s.t s.g] w fun e w'=>(∃ c : Bool,e = .returned (.bool c) /\ (c = false -> (okS s /\ scnt s <= 30) /\ chk s = 0)) /\ Below w.heap.size w w':=by
  have hf:=fun w1 (hB : Below W.heap.size W w1)=>z2Y s w1 _ _ 30 (x8M hB hs) (by omega) (by omega)
  obtain ⟨a1,c1,a2,c2,rfl,rfl⟩:=hs.slices
  have hx:=ShBox.here w (.slice a1 s.D.length c1) (.slice a2 s.P.length c2) s.t s.g
  have hB1 : Below w.heap.size w (w.alloc (.cells #[.slice a1 s.D.length c1, .slice a2 s.P.length c2, .int .i64 s.t.k, .int .i64 s.t.p, .int .i64 s.t.q, .bool s.t.v, .string s.t.pic, .bool s.g] 27)):=(Below.refl _ w).alloc (Nat.le_refl _) _
  go_enter Tryz.func29,Tryz.ntmps29
  go_wp2_with (go_at_call 15; fail)
  refine (hf _ (hB.trans (hB1.mono hB.size))).mono ?_
  rintro e w2 ⟨⟨fw,rfl,hfw⟩,hb⟩
  have hx2:=hx.below hb
  have hB2:=hB1.trans (hb.mono hB1.size)
  clear hb hf hx
  obtain ⟨l0,k0,k1,k2,k3,k4,k5,k6,k7⟩:=id hx2
  cases fw
  . clear hfw
    go_wp2
    go_ret
    exact ⟨⟨_,rfl,fun h=>by cases h⟩,hB2⟩
  . obtain ⟨hok,hct⟩:=hfw rfl
    have hc:=fun w1 (hB : Below W.heap.size W w1)=>x5M s W w1 _ _ hG hs hB hok (by omega)
    have hokH : Hid (okS s /\ scnt s <= 30):=⟨hok,hct⟩
    obtain ⟨C,hcc⟩ : ∃ C,chk s = C:=⟨_,rfl⟩
    rw [hcc] at hc
    have hcH : Hid (chk s = C):=hcc
    clear hfw hcc
    go_wp2_with (go_at_call 23; fail)
    refine (hc _ (hB.trans (hB2.mono hB.size))).mono ?_
    rintro e w3 ⟨rfl,hb⟩
    have hB3:=hB2.trans (hb.mono hB2.size)
    clear hb hc k0 k1 k2 k3 k4 k5 k6 k7 l0 hx2
    go_wp2
    go_ret
    exact ⟨⟨_,rfl,fun h=>⟨hokH.out,hcH.out.trans (by simpa using h)⟩⟩,hB3⟩
set_option maxRecDepth 100000 in
set_option maxHeartbeats 4000000 in
theorem idx_17 (l : List Sh) (W w : World) (lv : Value) (hG : Glob W) (hl : LsAt W lv l) (hB : Below W.heap.size W w) (hlen : l.length <= 1000) :
    Calls Tryz.prog 92 #[lv, .func (.func 17) #[] #[]] w fun e w'=>(∃ k : Int,e = .returned (.int .i64 k) /\ -1 <= k /\ k <= l.length /\ (k < 0 -> ∀ s ∈ l,okS s /\ scnt s <= 30)) /\ Below w.heap.size w w':=by
  obtain ⟨la,lcap,rfl,hp0,hpc⟩:=hl
  go_enter Tryz.func92,Tryz.ntmps92
  go_wp2
  go_loopw [8] (fun v8 wr=> ∃ x : Int,v8 = .int .i64 x /\ 0 <= x /\ x <= l.length /\ Hid (∀ s ∈ l.take x.toNat,okS s /\ scnt s <= 30) /\ Below w.heap.size w wr) (fun vx _=>(l.length - intOf vx).toNat)
  case atStart=>exact ⟨0,rfl,by omega,by omega,(show Hid _ from fun s hs=>by simp at hs),Below.refl _ _⟩
  case round =>
    obtain ⟨x,rfl,x0,x1,haH,hbr⟩:=hrel
    have hBw : Below W.heap.size W wr:=hB.trans (hbr.mono hB.size)
    by_cases hlt : x < (l.length : Int)
    . obtain ⟨b,o,rfl,hbl⟩:=hp0 (by intro h; subst h; simp at hlt; omega)
      obtain ⟨a1,c1',a2,c2',s',hss,hs2,d0,d1,d2,d3,d4,d5,d6,d7⟩:=part_at (i:=x.toNat) hBw hbl (hpc b o rfl) (by omega)
      have hmp:=fun w hB=>clo_17 s' W w _ _ hG hs2 hB
      have hnx : Hid ((okS s' /\ scnt s' <= 30) -> ∀ s ∈ l.take (x.toNat + 1),okS s /\ scnt s <= 30):=fun h0 t ht=>by
        rw [List.take_add_one,hss] at ht
        rcases List.mem_append.1 ht with h | h
        . exact haH.out t h
        . simp at h
          subst h
          exact h0
      clear haH hss hpc hp0
      go_wp2_with (go_at_call 17; fail)
      refine (hmp _ hBw).mono ?_
      rintro ee w2 ⟨⟨c,rfl,hcq⟩,hb⟩
      have hbr2 : Below w.heap.size w w2:=hbr.trans (hb.mono hbr.size)
      clear hmp hb d0 d1 d2 d3 d4 d5 d6 d7
      cases c
      . have hq : Hid (okS s' /\ scnt s' <= 30):=hcq rfl
        clear hcq
        go_wp2
        go_roundw
        case rel=>exact ⟨_,rfl,by omega,by omega,by rw [show (x + 1).toNat = x.toNat + 1 by omega]; exact hnx.out hq.out,hbr2⟩
        case measure=>simp [intOf]; omega
      . clear hcq hnx
        go_wp2
        go_ret
        exact ⟨⟨_,rfl,by omega,by omega,fun h=>by omega⟩,hbr2⟩
    . have hxe : x = l.length:=by omega
      subst hxe
      have ha2:=haH.out
      rw [show ((l.length : Int)).toNat = l.length by omega,List.take_length] at ha2
      have ha2H : Hid (∀ s ∈ l,okS s /\ scnt s <= 30):=ha2
      clear ha2 haH
      go_wp2
      go_ret
      exact ⟨⟨_,rfl,by omega,by omega,fun _=>ha2H.out⟩,hbr⟩
set_option maxRecDepth 100000 in
set_option maxHeartbeats 4000000 in
theorem cont_17 (l : List Sh) (W w : World) (lv : Value) (hG : Glob W) (hl : LsAt W lv l) (hB : Below W.heap.size W w) (hlen : l.length <= 1000) :
    Calls Tryz.prog 16 #[lv, .func (.func 17) #[] #[]] w fun e w'=>(∃ c : Bool,e = .returned (.bool c) /\ (c = false -> ∀ s ∈ l,okS s /\ scnt s <= 30)) /\ Below w.heap.size w w':=by
  have hi:=fun w hB=>idx_17 l W w lv hG hl hB hlen
  obtain ⟨la,lcap,rfl,hp0,hpc⟩:=hl
  go_enter Tryz.func16,Tryz.ntmps16
  go_wp2_with (go_at_call 92; fail)
  refine (hi _ hB).mono ?_
  rintro ee w2 ⟨⟨k,rfl,k0,k1,hk⟩,hb⟩
  have hkH : Hid (k < 0 -> ∀ s ∈ l,okS s /\ scnt s <= 30):=hk
  clear hi hk
  go_wp2
  go_ret
  exact ⟨⟨_,rfl,fun h=>hkH.out (by simpa using h)⟩,hb⟩
set_option maxRecDepth 100000 in
set_option maxHeartbeats 4000000 in
theorem idx_29 (l : List Sh) (W w : World) (lv : Value) (hG : Glob W) (hl : LsAt W lv l) (hB : Below W.heap.size W w) (hlen : l.length <= 1000) :
    Calls Tryz.prog 92 #[lv, .func (.func 29) #[] #[]] w fun e w'=>(∃ k : Int,e = .returned (.int .i64 k) /\ -1 <= k /\ k <= l.length /\ (k < 0 -> ∀ s ∈ l,(okS s /\ scnt s <= 30) /\ chk s = 0)) /\ Below w.heap.size w w':=by
  obtain ⟨la,lcap,rfl,hp0,hpc⟩:=hl
  go_enter Tryz.func92,Tryz.ntmps92
  go_wp2
  go_loopw [8] (fun v8 wr=> ∃ x : Int,v8 = .int .i64 x /\ 0 <= x /\ x <= l.length /\ Hid (∀ s ∈ l.take x.toNat,(okS s /\ scnt s <= 30) /\ chk s = 0) /\ Below w.heap.size w wr) (fun vx _=>(l.length - intOf vx).toNat)
  case atStart=>exact ⟨0,rfl,by omega,by omega,(show Hid _ from fun s hs=>by simp at hs),Below.refl _ _⟩
  case round =>
    obtain ⟨x,rfl,x0,x1,haH,hbr⟩:=hrel
    have hBw : Below W.heap.size W wr:=hB.trans (hbr.mono hB.size)
    by_cases hlt : x < (l.length : Int)
    . obtain ⟨b,o,rfl,hbl⟩:=hp0 (by intro h; subst h; simp at hlt; omega)
      obtain ⟨a1,c1',a2,c2',s',hss,hs2,d0,d1,d2,d3,d4,d5,d6,d7⟩:=part_at (i:=x.toNat) hBw hbl (hpc b o rfl) (by omega)
      have hmp:=fun w hB=>clo_29 s' W w _ _ hG hs2 hB
      have hnx : Hid (((okS s' /\ scnt s' <= 30) /\ chk s' = 0) -> ∀ s ∈ l.take (x.toNat + 1),(okS s /\ scnt s <= 30) /\ chk s = 0):=fun h0 t ht=>by
        rw [List.take_add_one,hss] at ht
        rcases List.mem_append.1 ht with h | h
        . exact haH.out t h
        . simp at h
          subst h
          exact h0
      clear haH hss hpc hp0
      go_wp2_with (go_at_call 29; fail)
      refine (hmp _ hBw).mono ?_
      rintro ee w2 ⟨⟨c,rfl,hcq⟩,hb⟩
      have hbr2 : Below w.heap.size w w2:=hbr.trans (hb.mono hbr.size)
      clear hmp hb d0 d1 d2 d3 d4 d5 d6 d7
      cases c
      . have hq : Hid ((okS s' /\ scnt s' <= 30) /\ chk s' = 0):=hcq rfl
        clear hcq
        go_wp2
        go_roundw
        case rel=>exact ⟨_,rfl,by omega,by omega,by rw [show (x + 1).toNat = x.toNat + 1 by omega]; exact hnx.out hq.out,hbr2⟩
        case measure=>simp [intOf]; omega
      . clear hcq hnx
        go_wp2
        go_ret
        exact ⟨⟨_,rfl,by omega,by omega,fun h=>by omega⟩,hbr2⟩
    . have hxe : x = l.length:=by omega
      subst hxe
      have ha2:=haH.out
      rw [show ((l.length : Int)).toNat = l.length by omega,List.take_length] at ha2
      have ha2H : Hid (∀ s ∈ l,(okS s /\ scnt s <= 30) /\ chk s = 0):=ha2
      clear ha2 haH
      go_wp2
      go_ret
      exact ⟨⟨_,rfl,by omega,by omega,fun _=>ha2H.out⟩,hbr⟩
set_option maxRecDepth 100000 in
set_option maxHeartbeats 4000000 in
theorem cont_29 (l : List Sh) (W w : World) (lv : Value) (hG : Glob W) (hl : LsAt W lv l) (hB : Below W.heap.size W w) (hlen : l.length <= 1000) :
    Calls Tryz.prog 16 #[lv, .func (.func 29) #[] #[]] w fun e w'=>(∃ c : Bool,e = .returned (.bool c) /\ (c = false -> ∀ s ∈ l,(okS s /\ scnt s <= 30) /\ chk s = 0)) /\ Below w.heap.size w w':=by
  have hi:=fun w hB=>idx_29 l W w lv hG hl hB hlen
  obtain ⟨la,lcap,rfl,hp0,hpc⟩:=hl
  go_enter Tryz.func16,Tryz.ntmps16
  go_wp2_with (go_at_call 92; fail)
  refine (hi _ hB).mono ?_
  rintro ee w2 ⟨⟨k,rfl,k0,k1,hk⟩,hb⟩
  have hkH : Hid (k < 0 -> ∀ s ∈ l,(okS s /\ scnt s <= 30) /\ chk s = 0):=hk
  clear hi hk
  go_wp2
  go_ret
  exact ⟨⟨_,rfl,fun h=>hkH.out (by simpa using h)⟩,hb⟩
end Go.Proofs
namespace Go.Proofs
open Go.RowKit Go.Yec Go.Shp Go.Deep
open Go.Xec (Glob)
set_option maxRecDepth 100000 in
set_option maxHeartbeats 8000000 in
theorem z1N (fr : Int) (l : List Sh) (s : Sh) (lv dv pv : Value) (w : World) (hg : Glob w) (hl : LsAt w lv l) (hs : ShAt w dv pv s) :
    Calls Tryz.prog 3 #[.int .i64 fr,lv,shV dv pv s.t s.g] w fun e w'=>e = .returned (.bool true) /\ Below w.heap.size w w':=by
  have hcn:=fun hlen w1 hB=>cont_17 l w w1 lv hg hl hB hlen
  have hf1:=fun hlen hok w1 hB=>y2H l fr w w1 lv hg hl hB hlen hok
  have hf2:=fun hlen hok w1 hB=>z5V l fr w w1 lv hg hl hB hlen hok
  obtain ⟨la,lcap,rfl,hp0,hpc⟩:=hl
  obtain ⟨a1,c1,a2,c2,rfl,rfl⟩:=hs.slices
  have hRl:=v5F fr l
  generalize frR fr l = R at hf1 hf2 hRl
  obtain ⟨os,en,er⟩:=R
  simp only at hRl
  go_enter Tryz.func3,Tryz.ntmps3
  go_wp2_with (go_at_call 14; fail)
  have hx1:=ShBox.here w (.slice a1 s.D.length c1) (.slice a2 s.P.length c2) s.t s.g
  generalize hw1 : w.alloc (.cells #[.slice a1 s.D.length c1, .slice a2 s.P.length c2, .int .i64 s.t.k, .int .i64 s.t.p, .int .i64 s.t.q, .bool s.t.v, .string s.t.pic, .bool s.g] 27) = w1 at hx1 |-
  have hB1 : Below w.heap.size w w1:=by
    rw [<- hw1]
    exact (Below.refl _ w).alloc (Nat.le_refl _) _
  have hsz1 : w1.heap.size = w.heap.size + 1:=by rw [<- hw1]; simp
  clear hw1
  refine (z1Z _ (x0X hB1 hg)).mono ?_
  rintro e w2 ⟨rfl,hb⟩
  have hx2:=hx1.below hb
  have hB2:=hB1.trans (hb.mono hB1.size)
  have hsz2:=hB2.size
  clear hb hx1 hB1
  obtain ⟨x0,k0,k1,k2,k3,k4,k5,k6,k7⟩:=id hx2
  by_cases hlen : 20 < (l.length : Int)
  . clear hcn hf1 hf2
    go_wp2
    go_ret
    exact ⟨rfl,hB2⟩
  have hf:=fun w1 (hB : Below w.heap.size w w1)=>z2Y s w1 _ _ 30 (x8M hB hs) (by omega) (by omega)
  go_wp2_with (go_at_call 15; fail)
  refine (hf _ hB2).mono ?_
  rintro e w3 ⟨⟨fw,rfl,hfw⟩,hb⟩
  have hx3:=hx2.below hb
  have hB3:=hB2.trans (hb.mono hB2.size)
  have hsz3:=hB3.size
  clear hb hx2 hB2 hf k0 k1 k2 k3 k4 k5 k6 k7 x0
  obtain ⟨x0,k0,k1,k2,k3,k4,k5,k6,k7⟩:=id hx3
  cases fw
  . clear hfw hcn hf1 hf2
    go_wp2
    go_ret
    exact ⟨rfl,hB3⟩
  obtain ⟨hok,hct⟩:=hfw rfl
  clear hfw
  go_wp2_with (go_at_call 16; fail)
  refine (hcn (by omega) _ hB3).mono ?_
  rintro e w4 ⟨⟨cc,rfl,hcc⟩,hb⟩
  have hx4:=hx3.below hb
  have hB4:=hB3.trans (hb.mono hB3.size)
  have hsz4:=hB4.size
  clear hb hx3 hB3 hcn k0 k1 k2 k3 k4 k5 k6 k7 x0
  obtain ⟨x0,k0,k1,k2,k3,k4,k5,k6,k7⟩:=id hx4
  cases cc
  case true =>
    clear hcc hf1 hf2
    go_wp2
    go_ret
    exact ⟨rfl,hB4⟩
  have hokl : Hid (∀ s ∈ l,okS s /\ scnt s <= 30):=hcc rfl
  clear hcc
  have hf1:=hf1 (by omega) (fun s hs=>⟨(hokl.out s hs).1,by have:=(hokl.out s hs).2; omega⟩)
  have hf2:=hf2 (by omega) (fun s hs=>⟨(hokl.out s hs).1,by have:=(hokl.out s hs).2; omega⟩)
  go_wp2_with (go_at_call 18; fail)
  refine (hf1 _ hB4).mono ?_
  rintro e w5 ⟨⟨ov,rfl,hov⟩,hb⟩
  have hx5:=hx4.below hb
  have hB5:=hB4.trans (hb.mono hB4.size)
  have hsz5:=hB5.size
  clear hb hx4 hB4 hf1 k0 k1 k2 k3 k4 k5 k6 k7 x0
  obtain ⟨x0,k0,k1,k2,k3,k4,k5,k6,k7⟩:=id hx5
  go_wp2_with (go_at_call 19; fail)
  refine (hf2 _ hB5).mono ?_
  rintro e w6 ⟨⟨rv,rfl,hrv⟩,hb⟩
  have hov6:=hov.below hb
  have hx6:=hx5.below hb
  have hB6:=hB5.trans (hb.mono hB5.size)
  have hsz6:=hB6.size
  clear hb hx5 hB5 hf2 k0 k1 k2 k3 k4 k5 k6 k7 x0 hov
  obtain ⟨x0,k0,k1,k2,k3,k4,k5,k6,k7⟩:=id hx6
  have hq:=u8Y os w6 ov rv hov6 hrv (by omega)
  clear hov6 hrv
  go_wp2_with (go_at_call 20; fail)
  refine hq.mono ?_
  rintro e w7 ⟨rfl,hb⟩
  have hx7:=hx6.below hb
  have hB7:=hB6.trans (hb.mono hB6.size)
  have hsz7:=hB7.size
  clear hb hx6 hB6 hq k0 k1 k2 k3 k4 k5 k6 k7 x0
  obtain ⟨x0,k0,k1,k2,k3,k4,k5,k6,k7⟩:=id hx7
  go_wp2
  go_loopw [63] (fun v63 wr=> ∃ x : Int,v63 = .int .i64 x /\ 0 <= x /\ x <= l.length /\ ShBox wr w.heap.size (.slice a1 s.D.length c1) (.slice a2 s.P.length c2) s.t s.g /\ Below w.heap.size w wr) (fun vx _=>(l.length - intOf vx).toNat)
  case atStart=>exact ⟨0,rfl,by omega,by omega,hx7,hB7⟩
  case round =>
    clear k0 k1 k2 k3 k4 k5 k6 k7 x0 hx7 hB7
    obtain ⟨x,rfl,x0,x1,hxr,hbr⟩:=hrel
    have hszr:=hbr.size
    by_cases hlt : x < (l.length : Int)
    . obtain ⟨b,o,rfl,hbl⟩:=hp0 (by intro h; subst h; simp at hlt; omega)
      obtain ⟨a3,c3,a4,c4,s',hss,hs2,d0,d1,d2,d3,d4,d5,d6,d7⟩:=part_at (i:=x.toNat) hbr hbl (hpc b o rfl) (by omega)
      obtain ⟨hk1,hk2⟩:=hokl.out s' (List.mem_of_getElem? hss)
      have hd1:=fun w1 hB=>x9J s s' w w1 _ _ _ _ hg hs hs2 hB ⟨hok,by omega⟩ ⟨hk1,by omega⟩
      have hd2:=fun w1 hB=>y8L s s' w w1 _ _ _ _ hg hs hs2 hB ⟨hok,by omega⟩ ⟨hk1,by omega⟩
      generalize dfR s s' = D at hd1 hd2
      obtain ⟨dn,de⟩:=D
      have hxa:=hxr.alloc (.cells #[.slice a3 s'.D.length c3, .slice a4 s'.P.length c4, .int .i64 s'.t.k, .int .i64 s'.t.p, .int .i64 s'.t.q, .bool s'.t.v, .string s'.t.pic, .bool s'.g] 27)
      have hya:=ShBox.here wr (.slice a3 s'.D.length c3) (.slice a4 s'.P.length c4) s'.t s'.g
      have hBa : Below w.heap.size w (wr.alloc (.cells #[.slice a3 s'.D.length c3, .slice a4 s'.P.length c4, .int .i64 s'.t.k, .int .i64 s'.t.p, .int .i64 s'.t.q, .bool s'.t.v, .string s'.t.pic, .bool s'.g] 27)):=hbr.alloc hszr _
      obtain ⟨y0,m0,m1,m2,m3,m4,m5,m6,m7⟩:=id hxr
      clear hss hk1 hk2 hpc hp0
      go_wp2_with (go_at_call 21; fail)
      generalize wr.alloc (.cells #[.slice a3 s'.D.length c3, .slice a4 s'.P.length c4, .int .i64 s'.t.k, .int .i64 s'.t.p, .int .i64 s'.t.q, .bool s'.t.v, .string s'.t.pic, .bool s'.g] 27) = wa at hxa hya hBa |-
      refine (hd1 _ hBa).mono ?_
      rintro e w8 ⟨rfl,hb⟩
      have hx8:=hxa.below hb
      have hy8:=hya.below hb
      have hB8:=hBa.trans (hb.mono hBa.size)
      have hsz8:=hB8.size
      clear hb hxa hya hBa hd1 d0 d1 d2 d3 d4 d5 d6 d7 y0 m0 m1 m2 m3 m4 m5 m6 m7
      obtain ⟨x0',k0,k1,k2,k3,k4,k5,k6,k7⟩:=id hx8
      obtain ⟨y0,m0,m1,m2,m3,m4,m5,m6,m7⟩:=id hy8
      go_wp2_with (go_at_call 22; fail)
      refine (hd2 _ hB8).mono ?_
      rintro e w9 ⟨rfl,hb⟩
      have hx9:=hx8.below hb
      have hB9:=hB8.trans (hb.mono hB8.size)
      have hsz9:=hB9.size
      clear hb hx8 hy8 hB8 hd2 k0 k1 k2 k3 k4 k5 k6 k7 x0' y0 m0 m1 m2 m3 m4 m5 m6 m7
      go_wp2
      go_roundw
      case rel=>exact ⟨_,rfl,by omega,by omega,hx9,hB9⟩
      case measure=>simp [intOf]; omega
    . have hxe : x = l.length:=by omega
      subst hxe
      clear hpc hp0
      go_wp2
      go_ret
      exact ⟨rfl,hbr⟩
end Go.Proofs
