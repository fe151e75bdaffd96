/-
  LayoutFrames, walked.
-/
import Derived.Test.YtadehgdfijjikaaGreatDoorS10
import Derived.Test.YtadehgdfijjikaaGreatDoorZ8
import Derived.Test.YtadehgdfijjikaaGreatDoorY17
set_option linter.all false
namespace Go.Proofs
open Go.RowKit Go.Yec Go.Shp Go.Deep
open Go.Xec (Glob)
set_option maxRecDepth 100000 in
set_option maxHeartbeats 8000000 in
theorem u8U (fr : Int) (l : List Sh) (s : Sh) (lv dv pv : Value) (w : World) (hg : Glob w) (hl : LsAt w lv l) (hs : ShAt w dv pv s) :
    Calls Tryz.prog 5 #[.int .i64 fr,lv,shV dv pv s.t s.g] w fun e w'=>e = .returned (.bool true) /\ Below w.heap.size w w':=by
  have hcn:=fun hlen w1 hB=>cont_29 l w w1 lv hg hl hB hlen
  have hf1:=fun hlen hok w1 hB=>y2H l fr w w1 lv hg hl hB hlen hok
  have hfe:=fun er os en hs h=>frR_err (fr:=fr) (l:=l) (os:=os) (en:=en) (er:=er) hs h
  have hfo:=fun os en h=>frR_ok (fr:=fr) (l:=l) (os:=os) (en:=en) h
  have hRl:=v5F fr l
  obtain ⟨la,lcap,rfl,hp0,hpc⟩:=hl
  obtain ⟨a1,c1,a2,c2,rfl,rfl⟩:=hs.slices
  obtain ⟨R,hR⟩ : ∃ R,frR fr l = R:=⟨_,rfl⟩
  rw [hR] at hf1 hRl
  obtain ⟨os,en,er⟩:=R
  have hfe:=fun hs=>hfe er os en hs hR
  have hfo : er = 0 -> _:=fun h=>hfo os en (by rw [hR,h])
  simp only at hRl
  clear hR
  go_enter Tryz.func5,Tryz.ntmps5
  go_wp2_with (go_at_call 14; fail)
  have hx1:=ShBox.here w (.slice a1 s.D.length c1) (.slice a2 s.P.length c2) s.t s.g
  generalize hw1 : w.alloc (.cells #[.slice a1 s.D.length c1, .slice a2 s.P.length c2, .int .i64 s.t.k, .int .i64 s.t.p, .int .i64 s.t.q, .bool s.t.v, .string s.t.pic, .bool s.g] 27) = w1 at hx1 |-
  have hB1 : Below w.heap.size w w1:=by
    rw [<- hw1]
    exact (Below.refl _ w).alloc (Nat.le_refl _) _
  clear hw1
  refine (z1Z _ (x0X hB1 hg)).mono ?_
  rintro e w2 ⟨rfl,hb⟩
  have hx2:=hx1.below hb
  have hB2:=hB1.trans (hb.mono hB1.size)
  have hsz2:=hB2.size
  clear hb hx1 hB1
  obtain ⟨x0,k0,k1,k2,k3,k4,k5,k6,k7⟩:=id hx2
  by_cases hlen : 20 < (l.length : Int)
  . clear hcn hf1 hfe hfo
    go_wp2
    go_ret
    exact ⟨rfl,hB2⟩
  have hf:=fun w1 (hB : Below w.heap.size w w1)=>z2Y s w1 _ _ 30 (x8M hB hs) (by omega) (by omega)
  go_wp2_with (go_at_call 15; fail)
  refine (hf _ hB2).mono ?_
  rintro e w3 ⟨⟨fw,rfl,hfw⟩,hb⟩
  have hx3:=hx2.below hb
  have hB3:=hB2.trans (hb.mono hB2.size)
  have hsz3:=hB3.size
  clear hb hx2 hB2 hf k0 k1 k2 k3 k4 k5 k6 k7 x0
  obtain ⟨x0,k0,k1,k2,k3,k4,k5,k6,k7⟩:=id hx3
  cases fw
  . clear hfw hcn hf1 hfe hfo
    go_wp2
    go_ret
    exact ⟨rfl,hB3⟩
  obtain ⟨hok,hct⟩:=hfw rfl
  have hrc:=fun w1 hB=>x5M s w w1 _ _ hg hs hB hok (by omega)
  have hmp:=fun w1 hB=>x6H s w w1 _ _ hg hs hB hok (by omega)
  have hmc:=z2Q s
  have hmg:=x4D (s:=s)
  clear hfw
  obtain ⟨C,hC⟩ : ∃ C,chk s = C:=⟨_,rfl⟩
  rw [hC] at hrc hmc
  clear hC
  go_wp2_with (go_at_call 23; fail)
  refine (hrc _ hB3).mono ?_
  rintro e w4 ⟨rfl,hb⟩
  have hx4:=hx3.below hb
  have hB4:=hB3.trans (hb.mono hB3.size)
  have hsz4:=hB4.size
  clear hb hx3 hB3 hrc k0 k1 k2 k3 k4 k5 k6 k7 x0
  obtain ⟨x0,k0,k1,k2,k3,k4,k5,k6,k7⟩:=id hx4
  by_cases hC0 : C = 0
  case neg =>
    clear hcn hf1 hfe hfo hmc hmg hmp
    go_wp2
    go_ret
    exact ⟨rfl,hB4⟩
  rw [hC0] at hmc
  have hMg:=hmg hmc
  subst hC0
  go_wp2_with (go_at_call 16; fail)
  refine (hcn (by omega) _ hB4).mono ?_
  rintro e w5 ⟨⟨cc,rfl,hcc⟩,hb⟩
  have hx5:=hx4.below hb
  have hB5:=hB4.trans (hb.mono hB4.size)
  have hsz5:=hB5.size
  clear hb hx4 hB4 hcn k0 k1 k2 k3 k4 k5 k6 k7 x0
  obtain ⟨x0,k0,k1,k2,k3,k4,k5,k6,k7⟩:=id hx5
  cases cc
  case true =>
    clear hcc hf1 hfe hfo hmc hmg hmp
    go_wp2
    go_ret
    exact ⟨rfl,hB5⟩
  have hokl : Hid (∀ s ∈ l,(okS s /\ scnt s <= 30) /\ chk s = 0):=hcc rfl
  clear hcc
  have hf1:=hf1 (by omega) (fun s hs=>⟨(hokl.out s hs).1.1,by have:=(hokl.out s hs).1.2; omega⟩)
  have hmall : ∀ s ∈ l,(mapR s).2 = 0:=fun s hs=>(z2Q s).trans (hokl.out s hs).2
  have hfeH : Hid (er ≠ 0 -> os = [] /\ en = 0 /\ (er = 1 \/ er = 2)):=hfe hmall
  have hfoH : Hid (er = 0 -> 0 <= fr /\ fr <= 524288 /\ frL l fr [] = (os,en, 0) /\ os.length = l.length):=hfo
  have hdf : Hid (∀ t,(mapR s).1.a <= 64 /\ ∀ n,dfR s t = (n, 0) -> n = (mapR s).1.s - (mapR t).1.s /\ 0 <= n /\ n.tmod (mapR t).1.a = 0 /\ (mapR t).1.a <= (mapR s).1.a /\ (mapR t).1.b <= (mapR s).1.b):=fun t=>⟨(x1V hMg.1).2,fun n h=>(dfR_ok h).2.2⟩
  have hmpe : ∀ w1,Below w.heap.size w w1 -> Calls Tryz.prog 24 #[shV (.slice a1 s.D.length c1) (.slice a2 s.P.length c2) s.t s.g] w1 fun e w'=>e = .returned (.tuple #[unV (mapR s).1, .int .i64 0]) /\ Below w1.heap.size w1 w':=fun w1 hB=>by
    have:=hmp w1 hB
    rwa [hmc] at this
  clear hfe hfo hmp hmc hmg
  generalize (mapR s).1 = M at hMg hdf hmpe
  obtain ⟨us,ub,ua⟩:=M
  have hau:=x1V hMg.1
  obtain ⟨-, u1,u2,u3,u4⟩:=hMg
  simp only at hau u1 u2 u3 u4
  go_wp2_with (go_at_call 24; fail)
  refine (hmpe _ hB5).mono ?_
  rintro e w6 ⟨rfl,hb⟩
  have hx6:=hx5.below hb
  have hB6:=hB5.trans (hb.mono hB5.size)
  have hsz6:=hB6.size
  clear hb hx5 hB5 hmpe k0 k1 k2 k3 k4 k5 k6 k7 x0
  obtain ⟨x0,k0,k1,k2,k3,k4,k5,k6,k7⟩:=id hx6
  go_wp2_with (go_at_call 18; fail)
  refine (hf1 _ (hB6.alloc hsz6 _)).mono ?_
  rintro e w7 ⟨⟨ov,rfl,hov⟩,hb⟩
  have hx7:=(hx6.alloc (.cells #[.int .i64 us, .int .i64 ub, .int .i64 ua] 42)).below hb
  have hq7:=UBox.top hb
  have hB7:=x5V hB6 hsz6 hb
  have hsz7:=hB7.size
  have hw67 : w6.heap.size < w7.heap.size:=hq7.lt
  clear hb hx6 hf1 k0 k1 k2 k3 k4 k5 k6 k7 x0
  obtain ⟨oa,ocap,rfl⟩:=hov.form
  go_wp2
  go_loopw [12, 55] (fun v12 v55 wr=> ∃ x last : Int,v12 = .int .i64 last /\ v55 = .int .i64 x /\ 0 <= x /\ x <= l.length /\ Hid (er = 0 -> 0 <= last /\ last <= 524288 + x * 1000000 /\ frL (l.drop x.toNat) last (os.take x.toNat) = (os,en, 0)) /\ ShBox wr w.heap.size (.slice a1 s.D.length c1) (.slice a2 s.P.length c2) s.t s.g /\ UBox wr w6.heap.size (.int .i64 us) (.int .i64 ub) (.int .i64 ua) /\ IntsAt wr (.slice oa os.length ocap) os /\ Below w.heap.size w wr) (fun _ vx _=>(l.length - intOf vx).toNat)
  case atStart=>exact ⟨0,fr,rfl,rfl,by omega,by omega,(show Hid _ from fun h=>by obtain ⟨h1,h2,h3, -⟩:=hfoH.out h; exact ⟨h1,by omega,by simpa using h3⟩),hx7,hq7,hov,hB7⟩
  case round =>
    clear hx7 hq7 hov hB7
    obtain ⟨x,last,rfl,rfl,x0,x1,hst,hxr,hqr,hor,hbr⟩:=hrel
    have hszr:=hbr.size
    by_cases hlt : x < (l.length : Int)
    . obtain ⟨b,o,rfl,hbl⟩:=hp0 (by intro h; subst h; simp at hlt; omega)
      obtain ⟨a3,c3,a4,c4,s',hss,hs2,d0,d1,d2,d3,d4,d5,d6,d7⟩:=part_at (i:=x.toNat) hbr hbl (hpc b o rfl) (by omega)
      obtain ⟨⟨hk1,hk2⟩,hk3⟩:=hokl.out s' (List.mem_of_getElem? hss)
      have hd1:=fun w1 hB=>x9J s s' w w1 _ _ _ _ hg hs hs2 hB ⟨hok,by omega⟩ ⟨hk1,by omega⟩
      have hm0 : (mapR s').2 = 0:=(z2Q s').trans hk3
      have hmp : ∀ w1,Below w.heap.size w w1 -> Calls Tryz.prog 24 #[shV (.slice a3 s'.D.length c3) (.slice a4 s'.P.length c4) s'.t s'.g] w1 fun e w'=>e = .returned (.tuple #[unV (mapR s').1, .int .i64 0]) /\ Below w1.heap.size w1 w':=fun w1 hB=>by
        have:=x6H s' w w1 _ _ hg hs2 hB hk1 (by omega)
        rwa [hm0] at this
      have hgv:=x4D hm0
      have hdd:=fun n=>(hdf.out s').2 n
      have hstep : er = 0 -> os[x.toNat]? = some (upS last (mapR s').1.a) /\ frL (l.drop (x.toNat + 1)) (upS last (mapR s').1.a + (mapR s').1.s + (mapR s').1.b) (os.take (x.toNat + 1)) = (os,en, 0):=fun h=>by
        obtain ⟨h1,h2,h3⟩:=hst.out h
        obtain ⟨hi,hse⟩:=List.getElem?_eq_some_iff.1 hss
        rw [List.drop_eq_getElem_cons hi,hse] at h3
        obtain ⟨-, -, -, hol⟩:=hfoH.out h
        have h4:=frL_step hm0 h3
        rw [List.length_take,Nat.min_eq_left (by omega)] at h4
        refine ⟨h4.1, ?_⟩
        rw [List.take_add_one,h4.1]
        exact h4.2
      have hlast:=fun h=>(hst.out h).1
      have hlast2:=fun h=>(hst.out h).2.1
      generalize (mapR s').1 = V at hmp hgv hdd hstep
      obtain ⟨vs,vb,va⟩:=V
      have hav:=x1V hgv.1
      have halv:=hgv.1
      obtain ⟨-, q1,q2,q3,q4⟩:=hgv
      simp only at hav halv q1 q2 q3 q4 hdd hstep
      have hstepH : Hid (er = 0 -> os[x.toNat]? = some (upS last va) /\ frL (l.drop (x.toNat + 1)) (upS last va + vs + vb) (os.take (x.toNat + 1)) = (os,en, 0)):=hstep
      have hlastH : Hid (er = 0 -> 0 <= last /\ last <= 524288 + x * 1000000):=fun h=>⟨hlast h,hlast2 h⟩
      obtain ⟨De,hDe⟩ : ∃ De,dfR s s' = De:=⟨_,rfl⟩
      rw [hDe] at hd1 hdd
      obtain ⟨dn,de⟩:=De
      have hddH : Hid (de = 0 -> dn = us - vs /\ 0 <= dn /\ dn.tmod va = 0 /\ va <= ua /\ vb <= ub):=fun h=>hdd dn (by rw [h])
      clear hstep hst hlast hlast2 hdd hDe hss hk1 hk2 hk3 hm0 hpc hp0
      have hxa:=hxr.alloc (.cells #[.slice a3 s'.D.length c3, .slice a4 s'.P.length c4, .int .i64 s'.t.k, .int .i64 s'.t.p, .int .i64 s'.t.q, .bool s'.t.v, .string s'.t.pic, .bool s'.g] 27)
      have hya:=ShBox.here wr (.slice a3 s'.D.length c3) (.slice a4 s'.P.length c4) s'.t s'.g
      have hBr : Below wr.heap.size wr (wr.alloc (.cells #[.slice a3 s'.D.length c3, .slice a4 s'.P.length c4, .int .i64 s'.t.k, .int .i64 s'.t.p, .int .i64 s'.t.q, .bool s'.t.v, .string s'.t.pic, .bool s'.g] 27)):=(Below.refl _ wr).alloc (Nat.le_refl _) _
      have hqa:=hqr.below hBr
      have hoa:=hor.below hBr
      have hBa:=hbr.trans (hBr.mono hszr)
      go_wp2_with (go_at_call 24; fail)
      generalize wr.alloc (.cells #[.slice a3 s'.D.length c3, .slice a4 s'.P.length c4, .int .i64 s'.t.k, .int .i64 s'.t.p, .int .i64 s'.t.q, .bool s'.t.v, .string s'.t.pic, .bool s'.g] 27) = wa at hxa hya hBa hqa hoa hBr |-
      refine (hmp _ hBa).mono ?_
      rintro e w8 ⟨rfl,hb⟩
      have hx8:=hxa.below hb
      have hy8:=hya.below hb
      have hq8:=hqa.below hb
      have ho8:=hoa.below hb
      have hB8:=hBa.trans (hb.mono hBa.size)
      have hsz8:=hB8.size
      clear hb hxa hya hBa hmp hqa hoa hBr d0 d1 d2 d3 d4 d5 d6 d7
      have hv8:=UBox.here w8 (.int .i64 vs) (.int .i64 vb) (.int .i64 va) 42
      have hal8 : Below w8.heap.size w8 (w8.alloc (.cells #[.int .i64 vs, .int .i64 vb, .int .i64 va] 42)):=(Below.refl _ w8).alloc (Nat.le_refl _) _
      have hx8:=hx8.below hal8
      have hy8:=hy8.below hal8
      have hq8:=hq8.below hal8
      have ho8:=ho8.below hal8
      have hB8':=hB8.trans (hal8.mono hsz8)
      obtain ⟨x0',k0,k1,k2,k3,k4,k5,k6,k7⟩:=id hx8
      obtain ⟨y0,m0,m1,m2,m3,m4,m5,m6,m7⟩:=id hy8
      obtain ⟨v0,n0,n1,n2,n3,n4,n5⟩:=id hv8
      have hva1 : ¬ va < 1:=by omega
      go_upto_region 14 with fail
      generalize w8.alloc (.cells #[.int .i64 vs, .int .i64 vb, .int .i64 va] 42) = w9 at *
      go_wp2_with (go_at_call 21; fail)
      refine (hd1 _ hB8').mono ?_
      rintro e wd ⟨rfl,hb⟩
      have hxd:=hx8.below hb
      have hqd:=hq8.below hb
      have hvd:=hv8.below hb
      have hod:=ho8.below hb
      have hBd:=hB8'.trans (hb.mono hB8'.size)
      have hszd:=hBd.size
      clear hb hx8 hy8 hB8 hB8' hq8 hv8 ho8 hal8 hd1 k0 k1 k2 k3 k4 k5 k6 k7 x0' y0 m0 m1 m2 m3 m4 m5 m6 m7 v0 n0 n1 n2 n3 n4 n5
      obtain ⟨l1,m0,m1,m2,m3,m4,m5⟩:=id hqd
      obtain ⟨v0,n0,n1,n2,n3,n4,n5⟩:=id hvd
      go_upto_region 17 with fail
      go_cut [113] (fun v113 wc=>v113 = .bool false /\ wc = wd)
      case first =>
        by_cases hde : de = 0
        . obtain ⟨t1,t2,t3,t4,t5⟩:=hddH.out hde
          subst hde
          have hme : dn % va = 0:=by
            rw [Int.tmod_eq_emod_of_nonneg t2] at t3
            exact t3
          have ht6 : dn + vs = us:=by omega
          clear hddH t3 t1
          go_wp2_with (go_at_call 30; refine (v4L _ _ _ halv).mono ?_; rintro ee w' ⟨rfl,rfl⟩)
          go_meet
          case rel=>exact ⟨by rw [decide_eq_false (show ¬ dn < 0 by omega),decide_eq_false (show ¬ ua < va by omega),decide_eq_false (show ¬ ub < vb by omega)]; rfl,rfl⟩
        . clear hddH
          go_wp2_with fail
          go_meet
          case rel=>exact ⟨rfl,rfl⟩
      case rest =>
        obtain ⟨rfl,rfl⟩:=hcut
        by_cases her : er = 0
        . obtain ⟨g0,g1⟩:=hlastH.out her
          obtain ⟨g2,g3⟩:=hstepH.out her
          obtain ⟨-, -, -, hol⟩:=hfoH.out her
          have hup:=x7T (n:=last) hav.1
          have hum : (upS last va).tmod va = 0:=Int.tmod_eq_zero_of_dvd (z9G last va)
          obtain ⟨b2,o2,cap2,hv2,hbl2,hc2⟩:=hod.at (i:=x.toNat) (by omega)
          have hgd : os.getD x.toNat 0 = upS last va:=by rw [List.getD_eq_getElem?_getD,g2]; rfl
          rw [hgd] at hc2
          cases hv2
          generalize hU : upS last va = U at *
          have hstn : Hid (0 <= U + vs + vb /\ U + vs + vb <= 524288 + (x + 1) * 1000000 /\ frL (l.drop (x + 1).toNat) (U + vs + vb) (os.take (x + 1).toNat) = (os,en, 0)):=⟨by omega,by omega,by rw [show (x + 1).toNat = x.toNat + 1 by omega]; exact g3⟩
          have e1 : ((os.length : Int) != (l.length : Int)) = false:=by rw [hol]; simp
          have e2 : ¬ U < last:=by omega
          have e3 : ¬ va <= U - last:=by omega
          have e4 : ¬ va = 0:=by omega
          have hix : x < (os.length : Int):=by omega
          subst her
          clear hstepH hlastH hU g2 g3 hgd hol
          go_upto_region 20 with fail
          go_quiet (fail)
          go_wp2
          go_quiet (fail)
          go_wp2
          go_roundw
          case rel=>exact ⟨_,U + vs + vb,rfl,rfl,by omega,by omega,(show Hid _ from fun _=>hstn.out),hxd.below (x3N (Below.refl _ _) _),hqd.below (x3N (Below.refl _ _) _),hod.below (x3N (Below.refl _ _) _),x3N hBd _⟩
          case measure=>simp [intOf]; omega
        . have hstn : Hid (er = 0 -> 0 <= last /\ last <= 524288 + (x + 1) * 1000000 /\ frL (l.drop (x + 1).toNat) last (os.take (x + 1).toNat) = (os,en, 0)):=fun h=>absurd h her
          clear hstepH hlastH
          go_wp2
          go_roundw
          case rel=>exact ⟨_,_,rfl,rfl,by omega,by omega,hstn,hxd,hqd,hod,hBd⟩
          case measure=>simp [intOf]; omega
    . have hxe : x = l.length:=by omega
      subst hxe
      by_cases her : er = 0
      . obtain ⟨g0,g1,g2⟩:=hst.out her
        rw [show ((l.length : Int)).toNat = l.length by omega,List.drop_length] at g2
        obtain ⟨g3,g4⟩:=frL_end (by
          obtain ⟨-, -, -, hol⟩:=hfoH.out her
          rw [<- hol,List.take_length] at g2
          exact g2)
        have hup:=x7T (n:=last) (show (1 : Int) <= 8 by omega)
        have hum : (upS last 8).tmod 8 = 0:=Int.tmod_eq_zero_of_dvd (z9G last 8)
        rw [<- g3] at hup hum g4
        have e1 : last <= en:=hup.1
        have e2 : en - last < 8:=by omega
        subst her
        clear g2 g3 hst hfoH hfeH hokl hdf hpc hp0
        go_wp2
        go_ret
        exact ⟨by simp [e1,e2,hum,g4],hbr⟩
      . obtain ⟨h1,h2,h3⟩:=hfeH.out her
        subst h1
        subst h2
        clear hst hfoH hfeH hokl hdf hpc hp0
        rcases h3 with rfl | rfl
        . go_wp2
          go_ret
          exact ⟨rfl,hbr⟩
        . go_wp2
          go_ret
          exact ⟨rfl,hbr⟩
end Go.Proofs
