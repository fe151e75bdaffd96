/-
  element and unit of the reference, walked.; element and unit of the reference, walked: all shapes.; element of a structure, unit: all shapes.
-/
import Derived.Test.YtadehgdfijjikaaGreatDoorS4
set_option linter.all false
namespace Go.Proofs
open Go.RowKit Go.Yec Go.Shp Go.Deep
open Go.Xec (Glob)
set_option maxRecDepth 100000 in
set_option maxHeartbeats 4000000 in
theorem v5W (D : List (Int × Int)) (t : Ty) (g : Bool) (da : Option Addr) (dcap : Nat) (pa : Option Addr) (pcap : Nat) (w : World) (hG : Glob w) (hpic : t.pic.data.toList.length <= 200) :
    Calls Tryz.prog 115 #[shV (.slice da D.length dcap) (.slice pa 0 pcap) t g] w fun e w'=>e = .returned (.tuple #[unV (y3G t g), .bool true]) /\ Below w.heap.size w w':=by
  obtain ⟨k,p,q,v,pic⟩:=t
  simp only at hpic
  have hx:=(ShBox.here w (.slice da D.length dcap) (.slice pa 0 pcap) ⟨k,p,q,v,pic⟩ g).alloc (.cells #[.int .i64 0, .int .i64 0, .int .i64 0] 42)
  have hlf : y3G ⟨k,p,q,v,pic⟩ g = ⟨0,szS k p q v pic.data.toList,cond (decide (k = 4) && !g) 8 (alS k p q v pic.data.toList)⟩:=rfl
  have h20:=fun w hg=>c20 (k:=k) (p:=p) (q:=q) (v:=v) hpic w hg
  have h22:=fun w hg=>c22 (k:=k) (p:=p) (q:=q) (v:=v) hpic w hg
  generalize szS k p q v pic.data.toList = sz at *
  generalize alS k p q v pic.data.toList = al0 at *
  go_enter Tryz.func115,Tryz.ntmps115
  go_wp2
  generalize hw1 : (w.alloc (.cells #[.slice da D.length dcap, .slice pa 0 pcap, .int .i64 k, .int .i64 p, .int .i64 q, .bool v, .string pic, .bool g] 27)).alloc (.cells #[.int .i64 0, .int .i64 0, .int .i64 0] 42) = w1 at *
  have hub : UBox w1 (w.heap.size + 1) (.int .i64 0) (.int .i64 0) (.int .i64 0):=by
    rw [<- hw1]
    have:=UBox.here (w.alloc (.cells #[.slice da D.length dcap, .slice pa 0 pcap, .int .i64 k, .int .i64 p, .int .i64 q, .bool v, .string pic, .bool g] 27)) (.int .i64 0) (.int .i64 0) (.int .i64 0) 42
    simpa using this
  have hB1 : Below w.heap.size w w1:=by
    rw [<- hw1]
    exact ((Below.refl _ w).alloc (Nat.le_refl _) _).alloc (by simp) _
  have hG1:=x0X hB1 hG
  have hd1 : Below w1.heap.size w1 w1.drew:=(Below.refl _ _).drew
  clear hw1
  go_cut [4] (fun v4 wc=> ∃ B,v4 = .pointer (some ⟨B, 0,none⟩) /\ UBox wc B (.int .i64 0) (.int .i64 sz) (.int .i64 al0) /\ w.heap.size + 1 < B /\ ShBox wc w.heap.size (.slice da D.length dcap) (.slice pa 0 pcap) ⟨k,p,q,v,pic⟩ g /\ UBox wc (w.heap.size + 1) (.int .i64 0) (.int .i64 0) (.int .i64 0) /\ Below w.heap.size w wc)
  case first =>
    obtain ⟨hlt,c0,c1,c2,c3,c4,c5,c6,c7⟩:=id hx
    go_region_with (first
      | (go_at_call 156; refine (h20 w1.drew (x0X hd1 hG1)).mono ?_; rintro e w2 ⟨rfl,hbb⟩; have hb2 : Below w1.heap.size w1 w2:=hd1.trans hbb; have hb2':=hb2.size; obtain ⟨hl2,d0,d1,d2,d3,d4,d5,d6,d7⟩:=hx.below hb2; have hub2:=hub.below hb2)
      | (go_at_call 156; refine (h20 (w1.alloc _).drew (x0X ((Below.refl _ w1).alloc (Nat.le_refl _) _).drew hG1)).mono ?_; rintro e w2 ⟨rfl,hbb⟩; have hb2 : Below w1.heap.size w1 w2:=z8S (Below.refl _ w1) (Nat.le_refl _) hbb; have hb2':=hb2.size; have hgu : UBox w2 w1.heap.size _ _ _:=UBox.topd hbb; obtain ⟨hl2,d0,d1,d2,d3,d4,d5,d6,d7⟩:=hx.below hb2; have hub2:=hub.below hb2)
      | (go_at_call 157; refine (h22 w2 (x0X hb2 hG1)).mono ?_; rintro e w3 ⟨rfl,hbb3⟩; have hgu3:=hgu.below hbb3; have hb3 : Below w1.heap.size w1 w3:=hb2.trans (hbb3.mono hb2'); have hb3':=hb3.size; have hx3:=hx.below hb3; have hub3:=hub.below hb3; obtain ⟨i0,i1,i2,i3,i4,i5,i6⟩:=id hgu3)
      | (go_at_call 157; refine (h22 w2 (x0X hb2 hG1)).mono ?_; rintro e w3 ⟨rfl,hbb3⟩; have hb3 : Below w1.heap.size w1 w3:=hb2.trans (hbb3.mono hb2'); have hb3':=hb3.size; have hx3:=hx.below hb3; have hub3:=hub.below hb3)
      | (go_at_call 157; refine (h22 (w2.alloc _) (x0X (hb2.alloc hb2' _) hG1)).mono ?_; rintro e w3 ⟨rfl,hbb3⟩; have hgu3 : UBox w3 w2.heap.size _ _ _:=UBox.top hbb3; have hb3 : Below w1.heap.size w1 w3:=x5V hb2 hb2' hbb3; have hb3':=hb3.size; have hx3:=hx.below hb3; have hub3:=hub.below hb3; obtain ⟨i0,i1,i2,i3,i4,i5,i6⟩:=id hgu3))
    all_goals
      have hlw:=hx.lt
      have hlw1:=hub.lt
      go_wp2_with fail
      go_meet
      case rel =>
        first
          | exact ⟨_,rfl,UBox.here w3 _ _ _ 42,by omega,hx3.alloc _,hub3.below ((Below.refl _ w3).alloc (Nat.le_refl _) _),hB1.trans ((hb3.mono hB1.size).alloc (by omega) _)⟩
          | exact ⟨_,rfl,hgu3.set3 _ _ _,by omega,hx3.other3 (by omega),hub3.other3 (by omega),x1H (hB1.trans (hb3.mono hB1.size)) (by omega)⟩
  case rest =>
    obtain ⟨B,rfl,hB4,hlt4,hs4,hu4,hbl⟩:=hcut
    obtain ⟨l0,c0,c1,c2,c3,c4,c5,c6,c7⟩:=hs4
    obtain ⟨l1,m0,m1,m2,m3,m4,m5⟩:=hu4
    obtain ⟨l2,n0,n1,n2,n3,n4,n5⟩:=id hB4
    have ne1 : ¬ w.heap.size = B:=by omega
    have ne2 : ¬ w.heap.size + 1 = B:=by omega
    have ne3 : ¬ B = w.heap.size + 1:=by omega
    have hlfH : Hid (y3G ⟨k,p,q,v,pic⟩ g = ⟨0,sz,cond (decide (k = 4) && !g) 8 al0⟩):=hlf
    clear hlf
    have hset : ∀ (x y z : Value) (w4 : World),Below w.heap.size w w4 -> Below w.heap.size w (((w4.setCell ⟨w.heap.size + 1, 0,none⟩ x).setCell ⟨w.heap.size + 1, 1,none⟩ y).setCell ⟨w.heap.size + 1, 2,none⟩ z):=fun x y z w4 h =>
      ((h.setCell (by show w.heap.size <= w.heap.size + 1; omega) _).setCell (by show w.heap.size <= w.heap.size + 1; omega) _).setCell (by show w.heap.size <= w.heap.size + 1; omega) _
    by_cases hk : k = 4
    . subst hk
      cases g
      . go_wp2
        refine bodyPost_ret (v:= .tuple #[.agg #[.int .i64 0, .int .i64 sz, .int .i64 8], .bool true]) (by rw [results_cell_tmp rfl]; go_simp) rfl ⟨by rw [hlfH.out]; rfl,hset _ _ _ _ (hbl.setCell (by show w.heap.size <= B; omega) _)⟩
      . go_wp2
        refine bodyPost_ret (v:= .tuple #[.agg #[.int .i64 0, .int .i64 sz, .int .i64 al0], .bool true]) (by rw [results_cell_tmp rfl]; go_simp) rfl ⟨by rw [hlfH.out]; rfl,hset _ _ _ _ hbl⟩
    . go_wp2
      refine bodyPost_ret (v:= .tuple #[.agg #[.int .i64 0, .int .i64 sz, .int .i64 al0], .bool true]) (by rw [results_cell_tmp rfl]; go_simp) rfl ⟨by rw [hlfH.out]; first | rfl | (rw [decide_eq_false hk]; rfl),hset _ _ _ _ hbl⟩
end Go.Proofs
namespace Go.Proofs
open Go.RowKit Go.Yec Go.Shp Go.Deep
open Go.Xec (Glob)
set_option maxRecDepth 100000 in
set_option maxHeartbeats 4000000 in
theorem unit_of (D : List (Int × Int)) (P : List Sh) (t : Ty) (g : Bool) (W w : World) (dv pv : Value) (hs : ShAt W dv pv (.node D P t g)) (hB : Below W.heap.size W w) (hd : x3R D = true) (h3 : D.length <= 3) (hge : ∀ u a ns,elL P t g = some (u,a,ns) -> x3C u)
    (hel : ∀ w,Below W.heap.size W w -> Calls Tryz.prog 115 #[shV dv pv t g] w fun e w'=>ElOk e (elL P t g) /\ Below w.heap.size w w') :
    Calls Tryz.prog 94 #[shV dv pv t g] w fun e w'=>UnOk e (mpS (.node D P t g)) /\ Below w.heap.size w w':=by
  obtain ⟨a1,c1,a2,c2,rfl,rfl⟩:=hs.slices
  have hD : DmAt W (.slice a1 D.length c1) D:=by unfold ShAt at hs; exact hs.1
  simp only [Sh.D,Sh.P] at hel hD |-
  obtain ⟨k,p,q,v,pic⟩:=t
  have hx:=(ShBox.here w (.slice a1 D.length c1) (.slice a2 P.length c2) ⟨k,p,q,v,pic⟩ g).alloc (.cells #[.int .i64 0, .int .i64 0, .int .i64 0] 42)
  have hub : UBox ((w.alloc (.cells #[.slice a1 D.length c1, .slice a2 P.length c2, .int .i64 k, .int .i64 p, .int .i64 q, .bool v, .string pic, .bool g] 27)).alloc (.cells #[.int .i64 0, .int .i64 0, .int .i64 0] 42)) (w.heap.size + 1) (.int .i64 0) (.int .i64 0) (.int .i64 0):=by
    simpa using UBox.here (w.alloc (.cells #[.slice a1 D.length c1, .slice a2 P.length c2, .int .i64 k, .int .i64 p, .int .i64 q, .bool v, .string pic, .bool g] 27)) (.int .i64 0) (.int .i64 0) (.int .i64 0) 42
  have hB1 : Below w.heap.size w ((w.alloc (.cells #[.slice a1 D.length c1, .slice a2 P.length c2, .int .i64 k, .int .i64 p, .int .i64 q, .bool v, .string pic, .bool g] 27)).alloc (.cells #[.int .i64 0, .int .i64 0, .int .i64 0] 42)):=((Below.refl _ w).alloc (Nat.le_refl _) _).alloc (by simp) _
  have hmp : mpS (.node D P ⟨k,p,q,v,pic⟩ g) = (elL P ⟨k,p,q,v,pic⟩ g).bind fun x=>(Shp.stR D.reverse (str0 x.1) x.1.b []).map fun y=> .mk ⟨x.1.s,y.1,x.1.a⟩ x.1 y.2 x.2.1 x.2.2:=rfl
  rw [hmp]
  clear hmp
  generalize hE : elL P ⟨k,p,q,v,pic⟩ g = E at *
  go_enter Tryz.func94,Tryz.ntmps94
  go_wp2_with (go_at_call 115; fail)
  refine (hel _ (hB.trans (hB1.mono hB.size))).mono ?_
  rintro e w2 ⟨heo,hb⟩
  have hx2:=hx.below hb
  have hub2:=hub.below hb
  have hB2:=hB1.trans (hb.mono hB1.size)
  clear hb hx hub hB1 hel hE
  have hsz:=hB2.size
  cases E with
  | none =>
    obtain ⟨u,rfl⟩:=heo
    obtain ⟨l0,c0,c1',c2',c3,c4,c5,c6,c7⟩:=hx2
    obtain ⟨l1,m0,m1,m2,m3,m4,m5⟩:=hub2
    clear hge
    go_wp2
    refine bodyPost_ret (v:= .tuple #[.agg #[.int .i64 0, .int .i64 0, .int .i64 0], .bool false]) (by rw [results_cell_tmp rfl]; go_simp) rfl ⟨⟨⟨0, 0, 0⟩,rfl⟩,(x1H hB2 (by omega)).alloc (by simp; omega) _⟩
  | some x =>
    obtain ⟨⟨us,ub,ua⟩,at0,ns⟩:=x
    have hgu:=hge _ _ _ rfl
    have ha1:=x1V hgu.1
    have hb1:=hgu.2.2.2
    simp only at ha1 hb1
    obtain rfl:=heo
    obtain ⟨l0,c0,c1',c2',c3,c4,c5,c6,c7⟩:=id hx2
    obtain ⟨l1,m0,m1,m2,m3,m4,m5⟩:=id hub2
    have hstr:=fun w hB=>z9L D a2 P.length c2 ⟨k,p,q,v,pic⟩ g ⟨us,ub,ua⟩ W w _ hD hB hd h3 ha1 hb1
    generalize hR : Shp.stR D.reverse (str0 ⟨us,ub,ua⟩) ub [] = R at hstr
    have hRH : Hid (Shp.stR D.reverse (str0 ⟨us,ub,ua⟩) ub [] = R):=hR
    clear hge hR
    go_wp2_with (go_at_call 145; fail)
    refine (hstr _ ((hB.trans (hB2.mono hB.size)).alloc (by have:=hB.size; omega) _)).mono ?_
    rintro e w3 ⟨hso,hb⟩
    have hx3:=(hx2.alloc (.cells #[.int .i64 us, .int .i64 ub, .int .i64 ua] 42)).below hb
    have hub3:=(hub2.below ((Below.refl _ w2).alloc (Nat.le_refl _) (.cells #[.int .i64 us, .int .i64 ub, .int .i64 ua] 42))).below hb
    have hun3:=UBox.top hb
    have hB3 : Below w.heap.size w w3:=x5V hB2 hsz hb
    clear hstr c0 c1' c2' c3 c4 c5 c6 c7 m0 m1 m2 m3 m4 m5 hx2 hub2 hb
    obtain ⟨k0,c0,c1',c2',c3,c4,c5,c6,c7⟩:=hx3
    obtain ⟨k1,m0,m1,m2,m3,m4,m5⟩:=hub3
    obtain ⟨k2,n0,n1,n2,n3,n4,n5⟩:=hun3
    have ne1 : ¬ w.heap.size + 1 = w2.heap.size:=by omega
    have ne2 : ¬ w2.heap.size = w.heap.size + 1:=by omega
    cases R with
    | none =>
      obtain rfl:=hso
      go_wp2
      refine bodyPost_ret (v:= .tuple #[.agg #[.int .i64 us, .int .i64 0, .int .i64 ua], .bool false]) (by rw [results_cell_tmp rfl]; go_simp) rfl ⟨by show UnOk _ (Option.map _ (Shp.stR D.reverse (str0 ⟨us,ub,ua⟩) ub [])); rw [hRH.out]; exact ⟨⟨us, 0,ua⟩,rfl⟩,x1H (hB3.setCell (p:=⟨w2.heap.size, 1,none⟩) hsz _) (by omega)⟩
    | some y =>
      obtain ⟨all,l⟩:=y
      obtain ⟨-, -, -, b, -, rfl, -⟩:=hso
      go_wp2
      refine bodyPost_ret (v:= .tuple #[.agg #[.int .i64 us, .int .i64 all, .int .i64 ua], .bool true]) (by rw [results_cell_tmp rfl]; go_simp) rfl ⟨by show UnOk _ (Option.map _ (Shp.stR D.reverse (str0 ⟨us,ub,ua⟩) ub [])); rw [hRH.out]; rfl,x1H (hB3.setCell (p:=⟨w2.heap.size, 1,none⟩) hsz _) (by omega)⟩
end Go.Proofs
namespace Go.Proofs
open Go.RowKit Go.Yec Go.Shp Go.Deep
open Go.Xec (Glob)
set_option maxRecDepth 100000 in
set_option maxHeartbeats 4000000 in
theorem elem_str (D : List (Int × Int)) (P : List Sh) (t : Ty) (g : Bool) (W w : World) (dv pv : Value) (hs : ShAt W dv pv (.node D P t g)) (hB : Below W.heap.size W w) (hne : P ≠ []) (hlen : P.length <= 100)
    (hih : ∀ s ∈ P, ∀ w dv pv,ShAt W dv pv s -> Below W.heap.size W w -> Calls Tryz.prog 94 #[shV dv pv s.t s.g] w fun e w'=>UnOk e (mpS s) /\ Below w.heap.size w w')
    (hgd : ∀ s ∈ P, ∀ n,mpS s = some n -> x3C n.u) :
    Calls Tryz.prog 115 #[shV dv pv t g] w fun e w'=>ElOk e (elL P t g) /\ Below w.heap.size w w':=by
  unfold ShAt at hs
  obtain ⟨hD,pa,pcap,rfl,hp0,hpc⟩:=hs
  obtain ⟨da,dcap,rfl,hd0,hdc⟩:=id hD
  obtain ⟨k,p,q,v,pic⟩:=t
  obtain ⟨b,o,rfl,hbl⟩:=hp0 hne
  have hpl:=hpc b o rfl
  have hl0 : 0 < P.length:=List.length_pos_iff.2 hne
  have hl1 : (0 : Int) < (P.length : Int):=by omega
  have hel : elL P ⟨k,p,q,v,pic⟩ g = (mpS P[0]).bind fun n=>goL (P.drop 1) n.u [0] [n]:=by
    cases P with
    | nil=>exact absurd rfl hne
    | cons p0 P0=>rfl
  generalize hR : elL P ⟨k,p,q,v,pic⟩ g = R
  rw [hR] at hel
  have helH : Hid (R = (mpS P[0]).bind fun n=>goL (P.drop 1) n.u [0] [n]):=hel
  have hx:=(ShBox.here w (.slice da D.length dcap) (.slice (some ⟨b,o,none⟩) P.length pcap) ⟨k,p,q,v,pic⟩ g).alloc (.cells #[.int .i64 0, .int .i64 0, .int .i64 0] 42)
  have hub : UBox ((w.alloc (.cells #[.slice da D.length dcap, .slice (some ⟨b,o,none⟩) P.length pcap, .int .i64 k, .int .i64 p, .int .i64 q, .bool v, .string pic, .bool g] 27)).alloc (.cells #[.int .i64 0, .int .i64 0, .int .i64 0] 42)) (w.heap.size + 1) (.int .i64 0) (.int .i64 0) (.int .i64 0):=by
    simpa using UBox.here (w.alloc (.cells #[.slice da D.length dcap, .slice (some ⟨b,o,none⟩) P.length pcap, .int .i64 k, .int .i64 p, .int .i64 q, .bool v, .string pic, .bool g] 27)) (.int .i64 0) (.int .i64 0) (.int .i64 0) 42
  have hB1 : Below w.heap.size w ((w.alloc (.cells #[.slice da D.length dcap, .slice (some ⟨b,o,none⟩) P.length pcap, .int .i64 k, .int .i64 p, .int .i64 q, .bool v, .string pic, .bool g] 27)).alloc (.cells #[.int .i64 0, .int .i64 0, .int .i64 0] 42)):=((Below.refl _ w).alloc (Nat.le_refl _) _).alloc (by simp) _
  obtain ⟨a1,c1',a2,c2',s0,hs1,hs2,e0,e1,e2,e3,e4,e5,e6,e7⟩:=part_at (i:= 0) (hB.trans (hB1.mono hB.size)) hbl hpl hl0
  have hs0 : P[0] = s0:=by
    rw [List.getElem?_eq_getElem hl0] at hs1
    exact Option.some.inj hs1
  have hm0 : s0 ∈ P:=List.mem_of_getElem? hs1
  have hih0:=fun w hB=>hih s0 hm0 w _ _ hs2 hB
  have hgd0:=hgd s0 hm0
  simp only [Nat.zero_mul,Nat.add_zero] at e0 e1 e2 e3 e4 e5 e6 e7
  clear hR hel hs1 hs2 hd0 hdc hp0 hpc
  go_enter Tryz.func115,Tryz.ntmps115
  go_wp2_with (go_at_call 94; fail)
  refine (hih0 _ (hB.trans (hB1.mono hB.size))).mono ?_
  rintro e w2 ⟨huo,hb⟩
  have hx2:=hx.below hb
  have hub2:=hub.below hb
  have hB2:=hB1.trans (hb.mono hB1.size)
  have hsz:=hB2.size
  clear hb hx hub hB1 e0 e1 e2 e3 e4 e5 e6 e7 hih0
  rw [hs0] at helH
  have key : ∃ (u : Un) (fine : Bool),e = .returned (.tuple #[unV u, .bool fine]) /\ (fine = true -> x3C u /\ ∃ at0 ns,goL (P.drop 1) u at0 ns = R) /\ (fine = false -> R = none):=by
    have:=helH.out
    cases hm : mpS s0 with
    | none =>
      rw [hm] at huo this
      obtain ⟨u,rfl⟩:=huo
      exact ⟨u,false,rfl,(fun h=>by cases h),fun _=>this⟩
    | some n =>
      rw [hm] at huo this
      obtain rfl:=huo
      exact ⟨n.u,true,rfl,(fun _=>⟨hgd0 n hm,_,_,this.symm⟩),fun h=>by cases h⟩
  obtain ⟨⟨us,ub,ua⟩,fine,rfl,hf1,hf0⟩:=key
  have hfH : Hid ((fine = true -> x3C ⟨us,ub,ua⟩ /\ ∃ at0 ns,goL (P.drop 1) ⟨us,ub,ua⟩ at0 ns = R) /\ (fine = false -> R = none)):=⟨hf1,hf0⟩
  clear hf1 hf0 huo helH hgd0 hm0 hs0
  obtain ⟨l0,c0,c1,c2,c3,c4,c5,c6,c7⟩:=id hx2
  obtain ⟨l1,m0,m1,m2,m3,m4,m5⟩:=id hub2
  go_wp2
  go_loopw [6, 7] (fun v6 v7 wr=> ∃ (fine : Bool) (x : Int) (u : Un),v6 = .bool fine /\ v7 = .int .i64 x /\ 1 <= x /\ x <= P.length /\ UBox wr w2.heap.size (.int .i64 u.s) (.int .i64 u.b) (.int .i64 u.a) /\ (fine = true -> x3C u /\ ∃ at0 ns,goL (P.drop x.toNat) u at0 ns = R) /\ (fine = false -> R = none) /\ Below w2.heap.size w2 wr) (fun _ v7 _=>(P.length - intOf v7).toNat)
  case atStart=>exact ⟨fine, 1,⟨us,ub,ua⟩,rfl,rfl,by omega,by omega,UBox.here w2 _ _ _ 42,hfH.out.1,hfH.out.2,(Below.refl _ w2).alloc (Nat.le_refl _) _⟩
  case round =>
    clear c0 c1 c2 c3 c4 c5 c6 c7 m0 m1 m2 m3 m4 m5 hfH
    obtain ⟨fine,x,⟨us,ub,ua⟩,rfl,rfl,x0,x1,hbx,hf1,hf0,hBr⟩:=hrel
    have hx3:=hx2.below hBr
    have hub3:=hub2.below hBr
    obtain ⟨l0,c0,c1,c2,c3,c4,c5,c6,c7⟩:=id hx3
    obtain ⟨l1,m0,m1,m2,m3,m4,m5⟩:=id hub3
    obtain ⟨l2,n0,n1,n2,n3,n4,n5⟩:=id hbx
    have hBw0 : Below w.heap.size w wr:=hB2.trans (hBr.mono hsz)
    have hBw : Below W.heap.size W wr:=hB.trans (hBw0.mono hB.size)
    have hf1H : Hid (fine = true -> x3C ⟨us,ub,ua⟩ /\ ∃ at0 ns,goL (P.drop x.toNat) ⟨us,ub,ua⟩ at0 ns = R):=hf1
    have hf0H : Hid (fine = false -> R = none):=hf0
    clear hf1 hf0
    by_cases hlt : x < (P.length : Int)
    . cases fine
      . obtain rfl : R = none:=hf0H.out rfl
        clear hf0H hf1H hih hgd
        go_wp2
        refine bodyPost_ret (v:= .tuple #[.agg #[.int .i64 us, .int .i64 ub, .int .i64 ua], .bool false]) (by rw [results_cell_tmp rfl]; go_simp) rfl ⟨⟨⟨us,ub,ua⟩,rfl⟩,x1H hBw0 (by omega)⟩
      . obtain ⟨hgu,at0,ns,hgo⟩:=hf1H.out rfl
        obtain ⟨a1,c1',a2,c2',s',hs1,hs2,e0,e1,e2,e3,e4,e5,e6,e7⟩:=part_at (i:=x.toNat) hBw hbl hpl (by omega)
        have hm' : s' ∈ P:=List.mem_of_getElem? hs1
        have hih':=fun w hB=>hih s' hm' w _ _ hs2 hB
        have hgd':=hgd s' hm'
        have hgo2 : R = (mpS s').bind fun n=>if 524288 < (x3P ⟨us,ub,ua⟩ n.u).b then none else goL (P.drop (x.toNat + 1)) (x3P ⟨us,ub,ua⟩ n.u) (at0 ++ [ub + gapU ⟨us,ub,ua⟩ n.u]) (ns ++ [n]):=by
          rw [<- hgo]
          obtain ⟨hi,he⟩:=List.getElem?_eq_some_iff.1 hs1
          rw [List.drop_eq_getElem_cons hi,he,goL]
        have hgoH : Hid (R = (mpS s').bind fun n=>if 524288 < (x3P ⟨us,ub,ua⟩ n.u).b then none else goL (P.drop (x.toNat + 1)) (x3P ⟨us,ub,ua⟩ n.u) (at0 ++ [ub + gapU ⟨us,ub,ua⟩ n.u]) (ns ++ [n])):=hgo2
        clear hgo hgo2 hs1 hs2 hm' hf0H hf1H
        go_wp2_with (go_at_call 94; fail)
        refine (hih' _ hBw).mono ?_
        rintro e w3 ⟨huo,hb⟩
        have hx4:=hx3.below hb
        have hub4:=hub3.below hb
        have hbx4:=hbx.below hb
        have hB4 : Below w2.heap.size w2 w3:=hBr.trans (hb.mono hBr.size)
        have hBz:=hB4.size
        clear hb hih' c0 c1 c2 c3 c4 c5 c6 c7 m0 m1 m2 m3 m4 m5 n0 n1 n2 n3 n4 n5 l0 l1 l2 e0 e1 e2 e3 e4 e5 e6 e7
        obtain ⟨l0,c0,c1,c2,c3,c4,c5,c6,c7⟩:=id hx4
        obtain ⟨l1,m0,m1,m2,m3,m4,m5⟩:=id hub4
        obtain ⟨l2,n0,n1,n2,n3,n4,n5⟩:=id hbx4
        cases hm : mpS s' with
        | none =>
          rw [hm] at huo
          obtain ⟨v',rfl⟩:=huo
          obtain rfl : R = none:=by rw [hgoH.out,hm]; rfl
          clear hgoH hm hih hgd hgd'
          go_wp2
          refine bodyPost_ret (v:= .tuple #[.agg #[.int .i64 v'.s, .int .i64 v'.b, .int .i64 v'.a], .bool false]) (by rw [results_cell_tmp rfl]; go_simp) rfl ⟨⟨v',rfl⟩,(x1H (hB2.trans (hB4.mono hsz)) (by omega)).alloc (by simp; omega) _⟩
        | some n =>
          rw [hm] at huo
          obtain rfl:=huo
          have hgn:=hgd' n hm
          have hR2:=hgoH.out
          rw [hm] at hR2
          simp only [Option.bind_some] at hR2
          have hbo:=fun w=>Both_un ⟨us,ub,ua⟩ n.u w hgu hgn
          have hgp:=gap_in hgu hgn
          have hb1:=hgu.2.2.2
          have hb2:=hgn.2.2.2
          simp only at hb1
          have hjb : (x3P ⟨us,ub,ua⟩ n.u).b = ub + gapU ⟨us,ub,ua⟩ n.u + n.u.b:=rfl
          have hjg : (x3P ⟨us,ub,ua⟩ n.u).b <= 524288 -> x3C (x3P ⟨us,ub,ua⟩ n.u):=y5U hgu hgn
          generalize x3P ⟨us,ub,ua⟩ n.u = J at *
          obtain ⟨js0,jb,ja0⟩:=J
          generalize gapU ⟨us,ub,ua⟩ n.u = G at *
          simp only at hjb hR2 hjg
          have hRH : Hid (R = if 524288 < jb then none else goL (P.drop (x.toNat + 1)) ⟨js0,jb,ja0⟩ (at0 ++ [ub + G]) (ns ++ [n])):=hR2
          have hjgH : Hid (jb <= 524288 -> x3C ⟨js0,jb,ja0⟩):=hjg
          have hjb2 : 0 <= jb /\ jb <= 2000000:=by omega
          clear hR2 hjg hgoH hm hgd' hjb
          go_wp2_with (go_at_call 103; fail)
          refine (hbo _).mono ?_
          rintro e w4 ⟨rfl,hb⟩
          have hx5:=(hx4.alloc (.cells #[.int .i64 n.u.s, .int .i64 n.u.b, .int .i64 n.u.a] 42)).below hb
          have hub5:=(hub4.below ((Below.refl _ w3).alloc (Nat.le_refl _) (.cells #[.int .i64 n.u.s, .int .i64 n.u.b, .int .i64 n.u.a] 42))).below hb
          have hbx5:=(hbx4.below ((Below.refl _ w3).alloc (Nat.le_refl _) (.cells #[.int .i64 n.u.s, .int .i64 n.u.b, .int .i64 n.u.a] 42))).below hb
          have hB5 : Below w2.heap.size w2 w4:=x5V hB4 hBz hb
          clear hb hbo c0 c1 c2 c3 c4 c5 c6 c7 m0 m1 m2 m3 m4 m5 n0 n1 n2 n3 n4 n5 l0 l1 l2
          obtain ⟨l0,c0,c1,c2,c3,c4,c5,c6,c7⟩:=id hx5
          obtain ⟨l1,m0,m1,m2,m3,m4,m5⟩:=id hub5
          obtain ⟨l2,n0,n1,n2,n3,n4,n5⟩:=id hbx5
          go_wp2
          go_roundw
          case rel =>
            refine ⟨_,_,⟨js0,jb,ja0⟩,rfl,rfl,by omega,by omega,hbx5.set3 _ _ _,fun h=> ?_,fun h=> ?_,x1H hB5 (Nat.le_refl _)⟩
            . have hle:=of_decide_eq_true h
              refine ⟨hjgH.out hle,at0 ++ [ub + G],ns ++ [n], ?_⟩
              rw [show (x + 1).toNat = x.toNat + 1 by omega,hRH.out,if_neg (by omega)]
            . have hle:=of_decide_eq_false h
              rw [hRH.out,if_pos (by omega)]
          case measure=>simp [intOf]; omega
    . have hxe : x = P.length:=by omega
      subst hxe
      have hdr : P.drop ((P.length : Int)).toNat = []:=by rw [show ((P.length : Int)).toNat = P.length by omega,List.drop_length]
      cases fine
      . obtain rfl : R = none:=hf0H.out rfl
        clear hf0H hf1H hih hgd hdr
        go_wp2
        refine bodyPost_ret (v:= .tuple #[.agg #[.int .i64 us, .int .i64 ub, .int .i64 ua], .bool false]) (by rw [results_cell_tmp rfl]; go_simp) rfl ⟨⟨⟨us,ub,ua⟩,rfl⟩,x1H hBw0 (by omega)⟩
      . obtain ⟨-, at0,ns,hgo⟩:=hf1H.out rfl
        rw [hdr] at hgo
        have hRe : R = some (⟨us,ub,ua⟩,at0,ns):=by rw [<- hgo,goL]
        subst hRe
        clear hf0H hf1H hih hgd hdr hgo
        go_wp2
        refine bodyPost_ret (v:= .tuple #[.agg #[.int .i64 us, .int .i64 ub, .int .i64 ua], .bool true]) (by rw [results_cell_tmp rfl]; go_simp) rfl ⟨rfl,x1H hBw0 (by omega)⟩
theorem y6M : ∀ (s : Sh) (W : World) (dm lv : Int),Glob W -> okS s -> 0 <= dm -> valS s dm lv = true -> ∀ (w : World) (dv pv : Value),ShAt W dv pv s -> Below W.heap.size W w ->
    (Calls Tryz.prog 115 #[shV dv pv s.t s.g] w fun e w'=>ElOk e (elS s) /\ Below w.heap.size w w') /\ (Calls Tryz.prog 94 #[shV dv pv s.t s.g] w fun e w'=>UnOk e (mpS s) /\ Below w.heap.size w w'):=by
  intro s
  induction s using Sh.ind with
  | h D P t g ih =>
    intro W dm lv hG hok hd0 hv
    obtain ⟨h3,hlv,hd,ht,hP⟩:=z1R hv
    obtain ⟨hl10,hP100,hpic,hokP⟩:=hok
    have hdm0 : (D.length : Int) <= 3 - dm:=by omega
    have hel : ∀ (w : World) (dv pv : Value),ShAt W dv pv (.node D P t g) -> Below W.heap.size W w -> Calls Tryz.prog 115 #[shV dv pv t g] w fun e w'=>ElOk e (elL P t g) /\ Below w.heap.size w w':=by
      intro w dv pv hs hB
      by_cases hne : P = []
      . subst hne
        unfold ShAt at hs
        obtain ⟨⟨da,dcap,rfl, -, -⟩,pa,pcap,rfl, -, -⟩:=hs
        exact (v5W D t g da dcap pa pcap w (x0X hB hG) hpic).mono fun e w' h=>⟨h.1,h.2⟩
      . exact elem_str D P t g W w dv pv hs hB hne hP100 (fun s hs' w dv pv hsh hBw=>(ih s hs' W _ _ hG (y3J hokP s hs') (by omega) (hP s hs') w dv pv hsh hBw).2) (fun s hs' n hn=>z2N s _ _ (hP s hs') n hn)
    intro w dv pv hs hB
    refine ⟨hel w dv pv hs hB, ?_⟩
    exact unit_of D P t g W w dv pv hs hB hd (by omega) (fun u a ns he=>z3H (fun s hs' n hn=>z2N s _ _ (hP s hs') n hn) (fun h=>(ht h).1) he) (fun w' hB'=>hel w' dv pv hs hB')
end Go.Proofs
