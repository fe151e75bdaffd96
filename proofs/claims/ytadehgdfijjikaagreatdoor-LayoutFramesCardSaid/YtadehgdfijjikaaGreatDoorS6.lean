/-
  counted of the layout, walked: how many nodes a valid shape has, and whether it is valid.; Check and Map of the reference; valid of the layout, walked.
-/
import Derived.Test.YtadehgdfijjikaaGreatDoorS4
import Derived.Test.YtadehgdfijjikaaGreatDoorS5
set_option linter.all false
namespace Go.Proofs
open Go.RowKit Go.Yec Go.Shp
open Go.Xec (Glob)
theorem u2G {w2 w w' : World} {A : Nat} {v2 v3 v4 v5 v6 v7 : Value} (hA : A < w2.heap.size)
    (h : w.cell? ⟨A, 2,none⟩ = some v2 /\ w.cell? ⟨A, 3,none⟩ = some v3 /\ w.cell? ⟨A, 4,none⟩ = some v4 /\ w.cell? ⟨A, 5,none⟩ = some v5 /\ w.cell? ⟨A, 6,none⟩ = some v6 /\ w.cell? ⟨A, 7,none⟩ = some v7 /\ Below w2.heap.size w2 w) (hb : Below w.heap.size w w') :
    w'.cell? ⟨A, 2,none⟩ = some v2 /\ w'.cell? ⟨A, 3,none⟩ = some v3 /\ w'.cell? ⟨A, 4,none⟩ = some v4 /\ w'.cell? ⟨A, 5,none⟩ = some v5 /\ w'.cell? ⟨A, 6,none⟩ = some v6 /\ w'.cell? ⟨A, 7,none⟩ = some v7 /\ Below w2.heap.size w2 w':=by
  obtain ⟨h2,h3,h4,h5,h6,h7,h8⟩:=h
  have hs:=h8.size
  exact ⟨(hb.cell (p:=⟨A, 2,none⟩) (by simp only; omega)).trans h2,(hb.cell (p:=⟨A, 3,none⟩) (by simp only; omega)).trans h3,(hb.cell (p:=⟨A, 4,none⟩) (by simp only; omega)).trans h4,(hb.cell (p:=⟨A, 5,none⟩) (by simp only; omega)).trans h5,(hb.cell (p:=⟨A, 6,none⟩) (by simp only; omega)).trans h6,(hb.cell (p:=⟨A, 7,none⟩) (by simp only; omega)).trans h7,h8.trans (hb.mono hs)⟩
set_option maxRecDepth 100000 in
set_option maxHeartbeats 8000000 in
theorem u2H : ∀ (s : Sh) (W w : World) (dv pv : Value) (dm lv : Int),Glob W -> ShAt W dv pv s -> Below W.heap.size W w -> okS s -> scnt s <= 100 -> 0 <= dm -> dm <= 3 -> 0 <= lv -> lv <= 101 ->
    Calls Tryz.prog 179 #[shV dv pv s.t s.g, .int .i64 dm, .int .i64 lv] w fun e w'=>(∃ n l : Int,e = .returned (.tuple #[.int .i64 n, .int .i64 l, .bool (valS s dm lv)]) /\ 1 <= n /\ n <= scnt s /\ 0 <= l /\ l <= 101 /\ (valS s dm lv = true -> n = scnt s /\ l <= 100)) /\ Below w.heap.size w w':=by
  intro s
  induction s using Sh.ind with
  | h D P t g ih =>
  intro W w dv pv dm lv hG hs hB hok hct d0 d1 l0 l1
  unfold ShAt at hs
  obtain ⟨hD,pa,pcap,rfl,hp0,hpc⟩:=hs
  obtain ⟨da,dcap,rfl,hd0,hdc⟩:=id hD
  obtain ⟨k,p,q,v,pic⟩:=t
  simp only [Sh.t,Sh.g]
  obtain ⟨hl10,hP100,hpic,hokP⟩:=hok
  have hx:=ShBox.here w (.slice da D.length dcap) (.slice pa P.length pcap) ⟨k,p,q,v,pic⟩ g
  have hcp : 1 <= scnt (.node D P ⟨k,p,q,v,pic⟩ g):=x8P _
  generalize hC : scnt (.node D P ⟨k,p,q,v,pic⟩ g) = C at hct hcp
  generalize hV : valS (.node D P ⟨k,p,q,v,pic⟩ g) dm lv = V
  have hS : ∀ b : Bool,b = (decide (dm + (D.length : Int) <= 3) && decide (lv <= 100)) -> (b = true -> dm + (D.length : Int) <= 3 /\ lv <= 100 /\ x3R (D.take (0 : Int).toNat) = true) /\ (b = false -> V = false):=by
    intro b hb
    refine ⟨fun h=> ?_,fun h=> ?_⟩
    . rw [hb,Bool.and_eq_true,decide_eq_true_eq,decide_eq_true_eq] at h
      exact ⟨h.1,h.2,rfl⟩
    . rw [hb,Bool.and_eq_false_iff,decide_eq_false_iff_not,decide_eq_false_iff_not] at h
      rw [<- hV]
      rcases h with h | h
      . cases P <;> (unfold valS; rw [decide_eq_false h]; rfl)
      . cases P <;> (unfold valS; rw [decide_eq_false h]; simp)
  have hbadd : ∀ {i : Nat} {d : Int × Int}, D[i]? = some d -> dimB d = false -> V = false:=fun hd h=>by
    have:=z8E hd h
    rw [<- hV]
    cases P <;> (unfold valS; rw [this]; simp)
  have hCH : Hid (scnt (.node D P ⟨k,p,q,v,pic⟩ g) = C):=hC
  have hVH : Hid (valS (.node D P ⟨k,p,q,v,pic⟩ g) dm lv = V):=hV
  have hbH : Hid (∀ {i : Nat} {d : Int × Int}, D[i]? = some d -> dimB d = false -> V = false):=hbadd
  have hSH : Hid (∀ b : Bool,b = (decide (dm + (D.length : Int) <= 3) && decide (lv <= 100)) -> (b = true -> dm + (D.length : Int) <= 3 /\ lv <= 100 /\ x3R (D.take (0 : Int).toNat) = true) /\ (b = false -> V = false)):=hS
  clear hC hV hbadd hS
  rcases Int.lt_or_le 3 (dm + (D.length : Int)) with h3 | h3
  . obtain rfl : V = false:=(hSH.out false (by rw [decide_eq_false (show ¬ dm + (D.length : Int) <= 3 by omega)]; rfl)).2 rfl
    go_enter Tryz.func179,Tryz.ntmps179
    go_wp2
    go_loopw [9, 33] (fun vo vx wr=> ∃ (x : Int),vo = .bool false /\ vx = .int .i64 x /\ 0 <= x /\ x <= D.length /\ Below (w.heap.size + 1) (w.alloc (.cells #[.slice da D.length dcap, .slice pa P.length pcap, .int .i64 k, .int .i64 p, .int .i64 q, .bool v, .string pic, .bool g] 27)) wr) (fun _ vx _=>(D.length - intOf vx).toNat)
    case atStart=>exact ⟨0,rfl,rfl,by omega,by omega,Below.refl _ _⟩
    case round =>
      obtain ⟨x,rfl,rfl,x0,x1,hBr⟩:=hrel
      have hxr:=hx.keep hBr (Nat.lt_succ_self _)
      obtain ⟨hlt0,c0,c1,c2,c3,c4,c5,c6,c7⟩:=hxr
      have hBw0 : Below w.heap.size w wr:=((Below.refl _ w).alloc (Nat.le_refl _) _).trans (hBr.mono (by omega))
      have hBw : Below W.heap.size W wr:=hB.trans (hBw0.mono hB.size)
      clear hbH hSH
      by_cases hlt : x < (D.length : Int)
      . obtain ⟨b,o,cap,d,hv,hb,hd,e0,e1⟩:=z8F (i:=x.toNat) hBw hD (by omega)
        obtain ⟨lo,hi⟩:=d
        cases hv
        clear hd ih hp0 hpc hd0 hdc
        go_wp2
        go_roundw
        case rel=>exact ⟨_,rfl,rfl,by omega,by omega,hBr.alloc (by omega) _⟩
        case measure=>simp [intOf]; omega
      . have hxe : x = D.length:=by omega
        subst hxe
        cases P with
        | nil =>
          clear ih hp0 hpc hd0 hdc hD hx hVH hCH hokP
          go_wp2
          go_region
          go_wp2
          go_ret3
          exact ⟨⟨_,_,rfl,by omega,by omega,by omega,by omega,fun h=>by cases h⟩,hBw0.drew⟩
        | cons p0 P0 =>
          obtain ⟨b,o,rfl,hbl⟩:=hp0 (by simp)
          obtain ⟨a1,c1',a2,c2',s',hs1,hs2,e0,e1,e2,e3,e4,e5,e6,e7⟩:=part_at (i:= 0) hBw hbl (hpc b o rfl) (by simp)
          clear ih hp0 hpc hd0 hdc hokP hx hD hVH hCH
          simp only [Nat.zero_mul,Nat.add_zero] at e0 e1 e2 e3 e4 e5 e6 e7
          have hpl : (0 : Int) < ((p0 :: P0).length : Int):=by simp only [List.length_cons]; omega
          generalize hPP : p0 :: P0 = P at *
          clear hPP hs1
          go_wp2
          (go_loopw [9, 12, 13, 95] (fun v9 v12 v13 vx wr2=>v9 = .bool false /\ v12 = .int .i64 1 /\ v13 = .int .i64 lv /\ vx = .int .i64 0 /\ wr2 = wr) (fun _ _ _ _ _=> 0)
           case atStart=>exact ⟨rfl,rfl,rfl,rfl,rfl⟩
           case round =>
             obtain ⟨rfl,rfl,rfl,rfl,rfl⟩:=hrel
             go_wp2
             go_ret3
             exact ⟨⟨_,_,rfl,by omega,by omega,by omega,by omega,fun h=>by cases h⟩,hBw0.alloc hBw0.size _⟩)
  all_goals
    go_enter Tryz.func179,Tryz.ntmps179
    go_wp2
    go_loopw [9, 33] (fun vo vx wr=> ∃ (ok : Bool) (x : Int),vo = .bool ok /\ vx = .int .i64 x /\ 0 <= x /\ x <= D.length /\ (ok = true -> dm + (D.length : Int) <= 3 /\ lv <= 100 /\ x3R (D.take x.toNat) = true) /\ (ok = false -> V = false) /\ Below (w.heap.size + 1) (w.alloc (.cells #[.slice da D.length dcap, .slice pa P.length pcap, .int .i64 k, .int .i64 p, .int .i64 q, .bool v, .string pic, .bool g] 27)) wr) (fun _ vx _=>(D.length - intOf vx).toNat)
    case atStart =>
      first
        | exact ⟨false, 0,rfl,rfl,by omega,by omega,(hSH.out _ (by rw [decide_eq_false (show ¬ dm + (D.length : Int) <= 3 by omega)]; rfl)).1,(hSH.out _ (by rw [decide_eq_false (show ¬ dm + (D.length : Int) <= 3 by omega)]; rfl)).2,Below.refl _ _⟩
        | exact ⟨_, 0,rfl,rfl,by omega,by omega,(hSH.out _ (by rw [decide_eq_true h3]; rfl)).1,(hSH.out _ (by rw [decide_eq_true h3]; rfl)).2,Below.refl _ _⟩
    case round =>
      obtain ⟨ok,x,rfl,rfl,x0,x1,hok1,hok0,hBr⟩:=hrel
      have hxr:=hx.keep hBr (Nat.lt_succ_self _)
      obtain ⟨hlt0,c0,c1,c2,c3,c4,c5,c6,c7⟩:=hxr
      have hBw0 : Below w.heap.size w wr:=((Below.refl _ w).alloc (Nat.le_refl _) _).trans (hBr.mono (by omega))
      have hBw : Below W.heap.size W wr:=hB.trans (hBw0.mono hB.size)
      have h1H : Hid (ok = true -> dm + (D.length : Int) <= 3 /\ lv <= 100 /\ x3R (D.take x.toNat) = true):=hok1
      have h0H : Hid (ok = false -> V = false):=hok0
      clear hok1 hok0
      by_cases hlt : x < (D.length : Int)
      . obtain ⟨b,o,cap,d,hv,hb,hd,e0,e1⟩:=z8F (i:=x.toNat) hBw hD (by omega)
        obtain ⟨lo,hi⟩:=d
        cases hv
        have hdH : Hid (D[x.toNat]? = some (lo,hi)):=hd
        clear hd ih hp0 hpc hd0 hdc
        have hgd : Hid (∀ b : Bool,(b = (ok && dimB (lo,hi))) -> (b = true -> dm + (D.length : Int) <= 3 /\ lv <= 100 /\ x3R (D.take (x + 1).toNat) = true) /\ (b = false -> V = false)):=by
          intro b hb
          refine ⟨fun h=> ?_,fun h=> ?_⟩
          . subst hb
            rw [Bool.and_eq_true] at h
            obtain ⟨u1,u2,u3⟩:=h1H.out h.1
            exact ⟨u1,u2,by rw [show (x + 1).toNat = x.toNat + 1 by omega]; exact (z0E hdH.out u3).trans h.2⟩
          . subst hb
            cases ok
            . exact h0H.out rfl
            . exact hbH.out hdH.out h
        cases ok
        . clear hbH
          go_wp2
          go_roundw
          case rel=>exact ⟨false,_,rfl,rfl,by omega,by omega,(hgd.out false rfl).1,(hgd.out false rfl).2,hBr.alloc (by omega) _⟩
          case measure=>simp [intOf]; omega
        . by_cases q0 : lo < -32768
          . have hz : Hid (dimB (lo,hi) = false):=by show dimB (lo,hi) = false; unfold dimB; rw [decide_eq_false (by simp; omega)]; rfl
            clear hbH
            go_wp2
            go_roundw
            case rel=>exact ⟨false,_,rfl,rfl,by omega,by omega,(hgd.out false (by rw [hz.out]; rfl)).1,(hgd.out false (by rw [hz.out]; rfl)).2,hBr.alloc (by omega) _⟩
            case measure=>simp [intOf]; omega
          by_cases q1 : hi < lo
          . have hz : Hid (dimB (lo,hi) = false):=by show dimB (lo,hi) = false; unfold dimB; rw [decide_eq_false (show ¬ lo <= hi by omega)]; simp
            clear hbH
            go_wp2
            go_roundw
            case rel=>exact ⟨false,_,rfl,rfl,by omega,by omega,(hgd.out false (by rw [hz.out]; rfl)).1,(hgd.out false (by rw [hz.out]; rfl)).2,hBr.alloc (by omega) _⟩
            case measure=>simp [intOf]; omega
          have hz : Hid (dimB (lo,hi) = decide (hi <= 32767)):=by show dimB (lo,hi) = _; unfold dimB; rw [decide_eq_true (show -32768 <= lo by omega),decide_eq_true (show lo <= hi by omega)]; rfl
          clear hbH
          go_wp2
          go_roundw
          case rel=>exact ⟨_,_,rfl,rfl,by omega,by omega,(hgd.out _ (by rw [hz.out]; rfl)).1,(hgd.out _ (by rw [hz.out]; rfl)).2,hBr.alloc (by omega) _⟩
          case measure=>simp [intOf]; omega
      . have hxe : x = D.length:=by omega
        subst hxe
        clear hbH hSH
        cases ok
        . obtain rfl : V = false:=h0H.out rfl
          cases P with
          | nil =>
            clear ih hp0 hpc hd0 hdc hD hx h1H h0H hVH hCH hokP
            go_wp2
            go_region
            go_wp2
            go_ret3
            exact ⟨⟨_,_,rfl,by omega,by omega,by omega,by omega,fun h=>by cases h⟩,hBw0.drew⟩
          | cons p0 P0 =>
            obtain ⟨b,o,rfl,hbl⟩:=hp0 (by simp)
            obtain ⟨a1,c1',a2,c2',s',hs1,hs2,e0,e1,e2,e3,e4,e5,e6,e7⟩:=part_at (i:= 0) hBw hbl (hpc b o rfl) (by simp)
            clear ih hp0 hpc hd0 hdc hokP hx h1H h0H hD hVH hCH
            simp only [Nat.zero_mul,Nat.add_zero] at e0 e1 e2 e3 e4 e5 e6 e7
            have hpl : (0 : Int) < ((p0 :: P0).length : Int):=by simp only [List.length_cons]; omega
            generalize hPP : p0 :: P0 = P at *
            clear hPP hs1
            go_wp2
            (go_loopw [9, 12, 13, 95] (fun v9 v12 v13 vx wr2=>v9 = .bool false /\ v12 = .int .i64 1 /\ v13 = .int .i64 lv /\ vx = .int .i64 0 /\ wr2 = wr) (fun _ _ _ _ _=> 0)
             case atStart=>exact ⟨rfl,rfl,rfl,rfl,rfl⟩
             case round =>
               obtain ⟨rfl,rfl,rfl,rfl,rfl⟩:=hrel
               go_wp2
               go_ret3
               exact ⟨⟨_,_,rfl,by omega,by omega,by omega,by omega,fun h=>by cases h⟩,hBw0.alloc hBw0.size _⟩)
        . obtain ⟨h3',hlv,hdm⟩:=h1H.out rfl
          rcases Int.lt_or_le 3 (dm + (D.length : Int)) with hcon | -
          . exfalso; omega
          rw [show ((D.length : Int)).toNat = D.length by omega,List.take_length] at hdm
          cases P with
          | nil =>
            have hVe : V = (tyS k p q v pic.data.toList && (!g || decide (k = 4))):=by
              rw [<- hVH.out]
              unfold valS tyB
              rw [decide_eq_true h3',decide_eq_true hlv,hdm]
              rfl
            have hCe : C = 1:=by rw [<- hCH.out]; simp [scnt,x1L]
            have hVeH : Hid (V = (tyS k p q v pic.data.toList && (!g || decide (k = 4)))):=hVe
            have hGw:=x0X hBw hG
            clear ih hp0 hpc hd0 hdc hD hx h1H h0H hVe hVH hCH hdm hokP
            have hc84:=fun w hg=>c15 (k:=k) (p:=p) (q:=q) (v:=v) hpic w hg
            cases hT : tyS k p q v pic.data.toList
            . rw [hT] at hc84
              simp only [cond_false] at hc84
              obtain rfl : V = false:=by rw [hVeH.out,hT]; rfl
              clear hT hVeH
              go_wp2
              have hun : (undef : Value) = .tuple #[]:=rfl
              first
                | (go_region_with (first
                | (go_at_call 84; refine (hc84 _ (x0X ((Below.refl wr.heap.size wr).drew) hGw)).mono ?_; rintro e w' ⟨rfl,hbb⟩; have hlst2 : Below wr.heap.size wr w':=((Below.refl wr.heap.size wr).drew).trans hbb; obtain ⟨z2,z3,z4,z5,z6,z7, -⟩:=u2G hlt0 ⟨c2,c3,c4,c5,c6,c7,(Below.refl wr.heap.size wr)⟩ hlst2)))
                | fail "x"
              clear hun
              go_wp2
              go_ret3
              exact ⟨⟨_,_,rfl,by omega,by omega,by omega,by omega,fun h=>by cases h⟩,hBw0.trans (hlst2.mono hBw0.size)⟩
            . rw [hT] at hc84
              simp only [cond_true] at hc84
              have hVe2 : V = (!g || decide (k = 4)):=by rw [hVeH.out,hT]; rfl
              have hVeH2 : Hid (V = (!g || decide (k = 4))):=hVe2
              clear hT hVeH hVe2
              go_wp2
              have hun : (undef : Value) = .tuple #[]:=rfl
              cases g
              . obtain rfl : V = true:=hVeH2.out
                clear hVeH2
                first
                  | (go_region_with (first
                  | (go_at_call 84; refine (hc84 _ (x0X ((Below.refl wr.heap.size wr).drew) hGw)).mono ?_; rintro e w' ⟨rfl,hbb⟩; have hlst2 : Below wr.heap.size wr w':=((Below.refl wr.heap.size wr).drew).trans hbb; obtain ⟨z2,z3,z4,z5,z6,z7, -⟩:=u2G hlt0 ⟨c2,c3,c4,c5,c6,c7,(Below.refl wr.heap.size wr)⟩ hlst2)))
                  | fail "x"
                clear hun
                go_wp2
                go_ret3
                exact ⟨⟨_,_,rfl,by omega,by omega,by omega,by omega,by first | exact fun _=>⟨by omega,by omega⟩ | exact ⟨by omega,by omega⟩⟩,hBw0.trans (hlst2.mono hBw0.size)⟩
              . have hVeH3 : V = (k == 4):=hVeH2.out
                clear hVeH2
                first
                  | (go_region_with (first
                  | (go_at_call 84; refine (hc84 _ (x0X ((Below.refl wr.heap.size wr).drew) hGw)).mono ?_; rintro e w' ⟨rfl,hbb⟩; have hlst2 : Below wr.heap.size wr w':=((Below.refl wr.heap.size wr).drew).trans hbb; obtain ⟨z2,z3,z4,z5,z6,z7, -⟩:=u2G hlt0 ⟨c2,c3,c4,c5,c6,c7,(Below.refl wr.heap.size wr)⟩ hlst2)))
                  | fail "x"
                clear hun
                go_wp2
                go_ret3
                subst hVeH3
                exact ⟨⟨_,_,rfl,by omega,by omega,by omega,by omega,by first | exact fun _=>⟨by omega,by omega⟩ | exact ⟨by omega,by omega⟩⟩,hBw0.trans (hlst2.mono hBw0.size)⟩
          | cons p0 P0 =>
            have hVe : V = ((ty0 ⟨k,p,q,v,pic⟩ && !g) && (valS p0 (dm + D.length) (lv + 1) && valL P0 (dm + D.length) (lv + 1))):=by
              rw [<- hVH.out]
              show valS (.node D (p0 :: P0) ⟨k,p,q,v,pic⟩ g) dm lv = _
              rw [valS,decide_eq_true h3',decide_eq_true hlv,hdm]
              rfl
            by_cases h0 : k = 0 /\ p = 0 /\ q = 0 /\ v = false /\ pic = ⟨#[]⟩ /\ g = false
            . obtain ⟨rfl,rfl,rfl,rfl,rfl,rfl⟩:=h0
              have hVl : V = valL (p0 :: P0) (dm + D.length) (lv + 1):=by
                rw [hVe,ty0_iff.2 ⟨rfl,rfl,rfl,rfl,rfl⟩,valL]
                rfl
              have hlast : Hid (valL (p0 :: P0) (dm + D.length) (lv + 1) = true -> V = true):=fun h=>hVl.trans h
              have hbad : ∀ s' ∈ p0 :: P0,valS s' (dm + D.length) (lv + 1) = false -> V = false:=fun s' hm h=>hVl.trans (u3P hm h)
              have hpl : (0 : Int) < ((p0 :: P0).length : Int):=by simp only [List.length_cons]; omega
              have hCe : C = 1 + x1L (p0 :: P0):=by rw [<- hCH.out,scnt]
              clear hVe hVl hVH hCH h1H h0H
              generalize hPP : p0 :: P0 = P at *
              clear hPP
              have hCeH : Hid (C = 1 + x1L P):=hCe
              clear hCe
              go_wp2
              go_loopw [9, 12, 13, 95] (fun v9 v12 v13 vx wr2=> ∃ (ok : Bool) (nn ll x : Int),v9 = .bool ok /\ v12 = .int .i64 nn /\ v13 = .int .i64 ll /\ vx = .int .i64 x /\ 0 <= x /\ x <= P.length /\ 1 <= nn /\ nn <= 1 + x1L (P.take x.toNat) /\ 0 <= ll /\ ll <= 101 /\ (ok = false -> V = false /\ nn <= C) /\ (ok = true -> valL (P.take x.toNat) (dm + D.length) (lv + 1) = true /\ nn = 1 + x1L (P.take x.toNat) /\ ll <= 100) /\ Below w.heap.size w wr2) (fun _ _ _ vx _=>(P.length - intOf vx).toNat)
              case atStart=>exact ⟨_, 1,lv, 0,rfl,rfl,rfl,rfl,by omega,by omega,by omega,by simp [x1L],by omega,by omega,(fun h=>by cases h),(fun _=>⟨rfl,by simp [x1L],by omega⟩),hBw0⟩
              case round =>
                clear hBr hBw0 hBw
                obtain ⟨ok,nn,ll,x,rfl,rfl,rfl,rfl,x0,x1,n1,n2,ll0,ll1,hof,hot,hBr⟩:=hrel
                have hBw : Below W.heap.size W wr:=hB.trans (hBr.mono hB.size)
                have hofH : Hid (ok = false -> V = false /\ nn <= C):=hof
                have hotH : Hid (ok = true -> valL (P.take x.toNat) (dm + D.length) (lv + 1) = true /\ nn = 1 + x1L (P.take x.toNat) /\ ll <= 100):=hot
                have hn2H : Hid (nn <= 1 + x1L (P.take x.toNat)):=n2
                clear hof hot n2
                have hsub : x1L (P.take x.toNat) <= x1L P:=by
                  have h1:=x5L (P.take x.toNat) (P.drop x.toNat)
                  rw [List.take_append_drop] at h1
                  have:=x8Q (P.drop x.toNat)
                  omega
                have hnC : nn <= C:=by have:=hn2H.out; have:=hCeH.out; omega
                clear hsub
                by_cases hlt : x < (P.length : Int)
                . obtain ⟨b,o,rfl,hbl⟩:=hp0 (by intro h; subst h; simp at hlt; omega)
                  obtain ⟨a1,c1',a2,c2',s',hs1,hs2,e0,e1,e2,e3,e4,e5,e6,e7⟩:=part_at (i:=x.toNat) hBw hbl (hpc b o rfl) (by omega)
                  have hmem : s' ∈ P:=List.mem_of_getElem? hs1
                  have hbd:=hbad s' hmem
                  cases ok
                  . obtain ⟨hVf, -⟩:=hofH.out rfl
                    subst hVf
                    clear ih hbad hbd hotH hofH hn2H hlast hp0 hpc hd0 hdc hokP hD hx hs1 hs2 hmem
                    go_wp2
                    go_ret3
                    exact ⟨⟨_,_,rfl,by omega,by omega,by omega,by omega,fun h=>by cases h⟩,hBr.alloc hBr.size _⟩
                  . obtain ⟨hv1,hn1,hl1⟩:=hotH.out rfl
                    have hcs:=z5R s' hmem
                    have hcp':=x8P s'
                    have hCP:=hCeH.out
                    have hih:=fun w hB=>ih s' hmem W w _ _ (dm + D.length) (lv + 1) hG hs2 hB (y3J hokP s' hmem) (by omega) (by omega) (by omega) (by omega) (by omega)
                    have hst:=y1C hs1
                    have hsum : x1L (P.take (x.toNat + 1)) <= x1L P:=by
                      have h1:=x5L (P.take (x.toNat + 1)) (P.drop (x.toNat + 1))
                      rw [List.take_append_drop] at h1
                      have:=x8Q (P.drop (x.toNat + 1))
                      omega
                    have hsH : Hid (x1L (P.take (x.toNat + 1)) <= x1L P /\ x1L (P.take (x.toNat + 1)) = x1L (P.take x.toNat) + scnt s'):=⟨hsum,hst⟩
                    have hvH : Hid (valL (P.take x.toNat) (dm + D.length) (lv + 1) = true):=hv1
                    have hnH : Hid (nn = 1 + x1L (P.take x.toNat)):=hn1
                    have hs1H : Hid (P[x.toNat]? = some s'):=hs1
                    have hnn : nn <= 100:=by omega
                    have hP9 : scnt s' <= 99:=by omega
                    clear ih hmem hbad hsum hst hokP hd0 hdc hD hp0 hpc hv1 hn1 hs1 hs2 hCP hofH hotH
                    go_wp2_with (go_at_call 179; fail)
                    refine (hih _ (hBw.alloc hBw.size _)).mono ?_
                    rintro e w2 ⟨⟨m,l,rfl,m1,m2,l2,l3,hvt⟩,hb⟩
                    have hm9 : m <= 99:=by omega
                    have hB2:=(hBr.alloc hBr.size _).trans (hb.mono (by have:=hBr.size; simp; omega))
                    clear hb hih e0 e1 e2 e3 e4 e5 e6 e7
                    have hm : Hid (valS s' (dm + D.length) (lv + 1) = true -> m = scnt s' /\ l <= 100):=hvt
                    clear hvt
                    cases hvs : valS s' (dm + D.length) (lv + 1)
                    . have hVf:=hbd hvs
                      subst hVf
                      clear hbd hvs
                      go_wp2
                      go_roundw
                      case rel =>
                        have:=hsH.out
                        have:=hnH.out
                        have:=hCeH.out
                        refine ⟨false,_,_,_,rfl,rfl,rfl,rfl,by omega,by omega,by omega, ?_,by omega,by omega,(fun _=>⟨by simp,by omega⟩),(fun h=>by cases h),hB2⟩
                        rw [show (x + 1).toNat = x.toNat + 1 by omega]
                        omega
                      case measure=>simp [intOf]; omega
                    . have hmm:=hm.out hvs
                      have hvtH : Hid (valL (P.take (x.toNat + 1)) (dm + D.length) (lv + 1) = true):=(z5G hs1H.out hvH.out).trans hvs
                      have hmH : Hid (m = scnt s'):=hmm.1
                      have hl9:=hmm.2
                      clear hbd hvs hmm
                      go_wp2
                      go_roundw
                      case rel =>
                        have:=hsH.out
                        have:=hnH.out
                        have:=hCeH.out
                        have:=hmH.out
                        refine ⟨true,_,_,_,rfl,rfl,rfl,rfl,by omega,by omega,by omega, ?_,by omega,by omega,(fun h=>by cases h),(fun _=>⟨?_, ?_,by omega⟩),hB2⟩
                        . rw [show (x + 1).toNat = x.toNat + 1 by omega]
                          omega
                        . rw [show (x + 1).toNat = x.toNat + 1 by omega]
                          exact hvtH.out
                        . rw [show (x + 1).toNat = x.toNat + 1 by omega]
                          omega
                      case measure=>simp [intOf]; omega
                . have hxe : x = P.length:=by omega
                  subst hxe
                  clear ih hbad hp0 hpc hd0 hdc hokP hD hx
                  have hVe3 : ok = true -> V = true /\ nn = C /\ ll <= 100:=fun h=>by
                    obtain ⟨u1,u2,u3⟩:=hotH.out h
                    rw [show ((P.length : Int)).toNat = P.length by omega,List.take_length] at u1 u2
                    have:=hCeH.out
                    exact ⟨hlast.out u1,by omega,u3⟩
                  have hVeq : V = ok:=by
                    cases ok
                    . exact (hofH.out rfl).1
                    . exact (hVe3 rfl).1
                  have hV3H : Hid (ok = true -> V = true /\ nn = C /\ ll <= 100):=hVe3
                  subst hVeq
                  clear hofH hotH hVe3 hlast
                  go_wp2
                  go_ret3
                  exact ⟨⟨_,_,rfl,by omega,by omega,by omega,by omega,fun h=>(hV3H.out h).2⟩,hBr⟩
            . obtain rfl : V = false := by
                rw [hVe]
                cases e : ty0 ⟨k,p,q,v,pic⟩ with
                | false=>rfl
                | true =>
                  cases g
                  . have:=ty0_iff.1 e
                    exact absurd ⟨this.1,this.2.1,this.2.2.1,this.2.2.2.1,this.2.2.2.2,rfl⟩ h0
                  . rfl
              obtain ⟨b,o,rfl,hbl⟩:=hp0 (by simp)
              obtain ⟨a1,c1',a2,c2',s',hs1,hs2,e0,e1,e2,e3,e4,e5,e6,e7⟩:=part_at (i:= 0) hBw hbl (hpc b o rfl) (by simp)
              have hH : Hid (¬ (k = 0 /\ p = 0 /\ q = 0 /\ v = false /\ pic = ⟨#[]⟩ /\ g = false)):=h0
              clear ih hp0 hpc hd0 hdc hokP hx h1H h0H hD hVH hCH hVe h0
              simp only [Nat.zero_mul,Nat.add_zero] at e0 e1 e2 e3 e4 e5 e6 e7
              have hpl : (0 : Int) < ((p0 :: P0).length : Int):=by simp only [List.length_cons]; omega
              generalize hPP : p0 :: P0 = P at *
              clear hPP hs1
              cases g
              all_goals
                go_wp2
                all_goals first
                  | (exfalso
                     refine hH.out ⟨by assumption,by assumption,by assumption,Bool.eq_false_iff.2 (by assumption),z8N (by assumption),by first | rfl | trivial⟩)
                  | (go_loopw [9, 12, 13, 95] (fun v9 v12 v13 vx wr2=>v9 = .bool false /\ v12 = .int .i64 1 /\ v13 = .int .i64 lv /\ vx = .int .i64 0 /\ wr2 = wr) (fun _ _ _ _ _=> 0)
                     case atStart=>exact ⟨rfl,rfl,rfl,rfl,rfl⟩
                     case round =>
                       obtain ⟨rfl,rfl,rfl,rfl,rfl⟩:=hrel
                       go_wp2
                       go_ret3
                       exact ⟨⟨_,_,rfl,by omega,by omega,by omega,by omega,fun h=>by cases h⟩,hBw0.alloc hBw0.size _⟩)
end Go.Proofs
namespace Go.Proofs
open Go.RowKit Go.Yec Go.Shp Go.Deep
open Go.Xec (Glob)
noncomputable def chk (s : Sh) : Int:=cond (valS s 0 1) (match mpS s with | some _=> 0 | none=> 2) 90
noncomputable def mapR (s : Sh) : Un × Int:=cond (valS s 0 1) (match mpS s with | some n=>(n.u, 0) | none=>(⟨0, 0, 0⟩, 2)) (⟨0, 0, 0⟩, 90)
set_option maxRecDepth 100000 in
set_option maxHeartbeats 4000000 in
theorem x5M (s : Sh) (W w : World) (dv pv : Value) (hG : Glob W) (hs : ShAt W dv pv s) (hB : Below W.heap.size W w) (hok : okS s) (hct : scnt s <= 100) :
    Calls Tryz.prog 23 #[shV dv pv s.t s.g] w fun e w'=>e = .returned (.int .i64 (chk s)) /\ Below w.heap.size w w':=by
  have hn:=fun w hB=>v3J s W w dv pv 0 1 hG hs hB hok hct (by omega) (by omega) (by omega) (by omega)
  have hu:=fun hv w hB=>(y6M s W 0 1 hG hok (by omega) hv w dv pv hs hB).2
  have hcp:=x8P s
  obtain ⟨a1,c1,a2,c2,rfl,rfl⟩:=hs.slices
  have hx:=ShBox.here w (.slice a1 s.D.length c1) (.slice a2 s.P.length c2) s.t s.g
  have hB1 : Below w.heap.size w (w.alloc (.cells #[.slice a1 s.D.length c1, .slice a2 s.P.length c2, .int .i64 s.t.k, .int .i64 s.t.p, .int .i64 s.t.q, .bool s.t.v, .string s.t.pic, .bool s.g] 27)):=(Below.refl _ w).alloc (Nat.le_refl _) _
  generalize hC : chk s = C
  have hCH : Hid (chk s = C):=hC
  clear hC
  go_enter Tryz.func23,Tryz.ntmps23
  go_wp2_with (go_at_call 96; fail)
  refine (hn _ (hB.trans (hB1.mono hB.size))).mono ?_
  rintro e w2 ⟨rfl,hb⟩
  have hx2:=hx.below hb
  have hB2:=hB1.trans (hb.mono hB1.size)
  clear hb hn hx
  obtain ⟨l0,k0,k1,k2,k3,k4,k5,k6,k7⟩:=id hx2
  cases hv : valS s 0 1
  . obtain rfl : C = 90:=by rw [<- hCH.out,chk,hv]; rfl
    clear hv hu hCH
    go_wp2
    go_ret
    exact ⟨rfl,hB2⟩
  . have hu':=fun w hB=>hu hv w hB
    have hCH2 : Hid ((match mpS s with | some _=> 0 | none=> 2) = C):=by
      show _ = C
      rw [<- hCH.out,chk,hv]
      rfl
    clear hu hv hCH
    go_wp2_with (go_at_call 94; fail)
    refine (hu' _ (hB.trans (hB2.mono hB.size))).mono ?_
    rintro e w3 ⟨huo,hb⟩
    have hB3:=hB2.trans (hb.mono hB2.size)
    clear hb hu' k0 k1 k2 k3 k4 k5 k6 k7
    cases hm : mpS s with
    | none =>
      rw [hm] at huo
      obtain ⟨u,rfl⟩:=huo
      obtain rfl : C = 2:=by rw [<- hCH2.out,hm]
      clear hm hCH2
      go_wp2
      go_ret
      exact ⟨rfl,hB3.alloc hB3.size _⟩
    | some n =>
      rw [hm] at huo
      obtain rfl:=huo
      obtain rfl : C = 0:=by rw [<- hCH2.out,hm]
      clear hm hCH2
      go_wp2
      go_ret
      exact ⟨rfl,hB3.alloc hB3.size _⟩
set_option maxRecDepth 100000 in
set_option maxHeartbeats 4000000 in
theorem y9C (s : Sh) (W w : World) (dv pv : Value) (hG : Glob W) (hs : ShAt W dv pv s) (hB : Below W.heap.size W w) (hok : okS s) (hct : scnt s <= 100) :
    Calls Tryz.prog 33 #[shV dv pv s.t s.g] w fun e w'=>e = .returned (.tuple #[unV (mapR s).1, .int .i64 (mapR s).2]) /\ Below w.heap.size w w':=by
  have hn:=fun w hB=>x5M s W w dv pv hG hs hB hok hct
  have hu:=fun hv w hB=>(y6M s W 0 1 hG hok (by omega) hv w dv pv hs hB).2
  obtain ⟨a1,c1,a2,c2,rfl,rfl⟩:=hs.slices
  have hx:=(ShBox.here w (.slice a1 s.D.length c1) (.slice a2 s.P.length c2) s.t s.g).alloc (.cells #[.int .i64 0, .int .i64 0, .int .i64 0] 42)
  have hub : UBox ((w.alloc (.cells #[.slice a1 s.D.length c1, .slice a2 s.P.length c2, .int .i64 s.t.k, .int .i64 s.t.p, .int .i64 s.t.q, .bool s.t.v, .string s.t.pic, .bool s.g] 27)).alloc (.cells #[.int .i64 0, .int .i64 0, .int .i64 0] 42)) (w.heap.size + 1) (.int .i64 0) (.int .i64 0) (.int .i64 0):=by
    simpa using UBox.here (w.alloc (.cells #[.slice a1 s.D.length c1, .slice a2 s.P.length c2, .int .i64 s.t.k, .int .i64 s.t.p, .int .i64 s.t.q, .bool s.t.v, .string s.t.pic, .bool s.g] 27)) (.int .i64 0) (.int .i64 0) (.int .i64 0) 42
  have hB1 : Below w.heap.size w ((w.alloc (.cells #[.slice a1 s.D.length c1, .slice a2 s.P.length c2, .int .i64 s.t.k, .int .i64 s.t.p, .int .i64 s.t.q, .bool s.t.v, .string s.t.pic, .bool s.g] 27)).alloc (.cells #[.int .i64 0, .int .i64 0, .int .i64 0] 42)):=((Below.refl _ w).alloc (Nat.le_refl _) _).alloc (by simp) _
  have hfin : ∃ (u : Un) (er : Int),mapR s = (u,er) /\ chk s = er /\ (er ≠ 0 -> u = ⟨0, 0, 0⟩) /\ (er = 0 -> valS s 0 1 = true /\ ∃ n,mpS s = some n /\ n.u = u):=by
    unfold mapR chk
    cases hv : valS s 0 1
    . exact ⟨_,_,rfl,rfl,fun _=>rfl,fun h=>by cases h⟩
    . cases hm : mpS s with
      | none=>exact ⟨_,_,rfl,rfl,fun _=>rfl,fun h=>by cases h⟩
      | some n=>exact ⟨_,_,rfl,rfl,fun h=>absurd rfl h,fun _=>⟨rfl,n,rfl,rfl⟩⟩
  obtain ⟨⟨us,ub,ua⟩,er,hmr,hch,he0,he1⟩:=hfin
  rw [hmr]
  rw [hch] at hn
  clear hmr hch
  go_enter Tryz.func33,Tryz.ntmps33
  go_wp2_with (go_at_call 23; fail)
  refine (hn _ (hB.trans (hB1.mono hB.size))).mono ?_
  rintro e w2 ⟨rfl,hb⟩
  have hx2:=hx.below hb
  have hub2:=hub.below hb
  have hB2:=hB1.trans (hb.mono hB1.size)
  have hsz:=hB2.size
  clear hb hn hx hub hB1
  obtain ⟨l0,k0,k1,k2,k3,k4,k5,k6,k7⟩:=id hx2
  obtain ⟨l1,m0,m1,m2,m3,m4,m5⟩:=id hub2
  by_cases her : er = 0
  . obtain ⟨hv,n,hm,hnu⟩:=he1 her
    have hu':=fun w hB=>hu hv w hB
    subst her
    clear he0 he1 hu hv
    go_wp2_with (go_at_call 94; fail)
    refine (hu' _ (hB.trans (hB2.mono hB.size))).mono ?_
    rintro e w3 ⟨huo,hb⟩
    rw [hm] at huo
    obtain rfl:=huo
    rw [hnu]
    have hub3:=hub2.below hb
    have hB3:=hB2.trans (hb.mono hB2.size)
    have hsz3:=hB3.size
    clear hb hu' hm hnu k0 k1 k2 k3 k4 k5 k6 k7 m0 m1 m2 m3 m4 m5 l0 l1
    obtain ⟨l1,m0,m1,m2,m3,m4,m5⟩:=id hub3
    go_wp2
    refine bodyPost_ret (v:= .tuple #[.agg #[.int .i64 us, .int .i64 ub, .int .i64 ua], .int .i64 0]) (by rw [results_cell_tmp rfl]; go_simp) rfl ⟨rfl,(x1H hB3 (by omega)).alloc (by simp; omega) _⟩
  . have hue:=he0 her
    cases hue
    clear he0 he1 hu
    go_wp2
    refine bodyPost_ret (v:= .tuple #[.agg #[.int .i64 0, .int .i64 0, .int .i64 0], .int .i64 er]) (by rw [results_cell_tmp rfl]; go_simp) rfl ⟨rfl,x1H hB2 (by omega)⟩
set_option maxRecDepth 100000 in
set_option maxHeartbeats 4000000 in
theorem v1M (s : Sh) (W w : World) (dv pv : Value) (hG : Glob W) (hs : ShAt W dv pv s) (hB : Below W.heap.size W w) (hok : okS s) (hct : scnt s <= 100) :
    Calls Tryz.prog 148 #[shV dv pv s.t s.g] w fun e w'=>e = .returned (.bool (valS s 0 1)) /\ Below w.heap.size w w':=by
  have hn:=fun w hB=>u2H s W w dv pv 0 1 hG hs hB hok hct (by omega) (by omega) (by omega) (by omega)
  obtain ⟨a1,c1,a2,c2,rfl,rfl⟩:=hs.slices
  have hB1 : Below w.heap.size w (w.alloc (.cells #[.slice a1 s.D.length c1, .slice a2 s.P.length c2, .int .i64 s.t.k, .int .i64 s.t.p, .int .i64 s.t.q, .bool s.t.v, .string s.t.pic, .bool s.g] 27)):=(Below.refl _ w).alloc (Nat.le_refl _) _
  generalize valS s 0 1 = V at *
  go_enter Tryz.func148,Tryz.ntmps148
  go_wp2_with (go_at_call 179; fail)
  refine (hn _ (hB.trans (hB1.mono hB.size))).mono ?_
  rintro e w2 ⟨⟨n,l,rfl,n1,n2,l1,l2,hv⟩,hb⟩
  have hB2:=hB1.trans (hb.mono hB1.size)
  clear hb hn
  have hn4 : n <= 400:=by omega
  cases V
  . clear hv
    go_wp2
    go_ret
    exact ⟨rfl,hB2⟩
  . have hl:=(hv rfl).2
    clear hv
    go_wp2
    go_ret
    exact ⟨rfl,hB2⟩
end Go.Proofs
