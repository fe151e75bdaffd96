/-
  whole, Check, Map of the layout, walked.; Frame of the layout and of the reference, walked.; Defined of the layout and of the reference, walked.
-/
import Derived.Test.YtadehgdfijjikaaGreatDoorS8
import Derived.Test.YtadehgdfijjikaaGreatDoorZ7
import Derived.Test.YtadehgdfijjikaaGreatDoorS7
set_option linter.all false
namespace Go.Proofs
open Go.RowKit Go.Yec Go.Shp Go.Deep
open Go.Xec (Glob)
theorem map_any : ∀ (s : Sh) (W : World) (dm lv : Int),Glob W -> okS s -> 0 <= dm -> valS s dm lv = true -> ∀ (w : World) (dv pv : Value),ShAt W dv pv s -> Below W.heap.size W w ->
    Calls Tryz.prog 149 #[shV dv pv s.t s.g] w fun e w'=>MpOk W s w w' e (mpS s) /\ Below w.heap.size w w':=by
  intro s
  induction s using Sh.ind with
  | h D P t g ih =>
    intro W dm lv hG hok hd0 hv w dv pv hs hB
    obtain ⟨h3,hlv,hd,ht,hP⟩:=z1R hv
    obtain ⟨hl10,hP100,hpic,hokP⟩:=hok
    exact map_one D P t g W w dv pv hG hs hB hpic hP100 hd (by omega) (fun h=>(ht h).1)
      (fun s hs' w dv pv hsh hBw=>ih s hs' W _ _ hG (y3J hokP s hs') (by omega) (hP s hs') w dv pv hsh hBw)
      (fun s hs' n hn=>z2N s _ _ (hP s hs') n hn)
def WhOk (w w' : World) (s : Sh) (e : Ending) : Prop :=
  if valS s 0 1 = true then (match mpS s with
    | none=>e = .returned (.tuple #[.pointer none, .int .i64 2])
    | some n=> ∃ B,e = .returned (.tuple #[.pointer (some ⟨B, 0,none⟩), .int .i64 0]) /\ w'.cell? ⟨B, 8,none⟩ = some (.int .i64 n.u.s) /\ w'.cell? ⟨B, 9,none⟩ = some (.int .i64 n.u.b) /\ w'.cell? ⟨B, 10,none⟩ = some (.int .i64 n.u.a) /\ x6S (fun b=>b < w'.heap.size) w' B s n)
  else e = .returned (.tuple #[.pointer none, .int .i64 90])
set_option maxRecDepth 100000 in
set_option maxHeartbeats 4000000 in
theorem v1G (s : Sh) (W w : World) (dv pv : Value) (hG : Glob W) (hs : ShAt W dv pv s) (hB : Below W.heap.size W w) (hok : okS s) (hct : scnt s <= 100) :
    Calls Tryz.prog 97 #[shV dv pv s.t s.g] w fun e w'=>WhOk w w' s e /\ Below w.heap.size w w':=by
  have hn:=fun w hB=>v1M s W w dv pv hG hs hB hok hct
  have hu:=fun hv w hB=>map_any s W 0 1 hG hok (by omega) hv w dv pv hs hB
  obtain ⟨a1,c1,a2,c2,rfl,rfl⟩:=hs.slices
  have hx:=ShBox.here w (.slice a1 s.D.length c1) (.slice a2 s.P.length c2) s.t s.g
  have hB1 : Below w.heap.size w (w.alloc (.cells #[.slice a1 s.D.length c1, .slice a2 s.P.length c2, .int .i64 s.t.k, .int .i64 s.t.p, .int .i64 s.t.q, .bool s.t.v, .string s.t.pic, .bool s.g] 27)):=(Below.refl _ w).alloc (Nat.le_refl _) _
  go_enter Tryz.func97,Tryz.ntmps97
  go_wp2_with (go_at_call 148; fail)
  refine (hn _ (hB.trans (hB1.mono hB.size))).mono ?_
  rintro e w2 ⟨rfl,hb⟩
  have hx2:=hx.below hb
  have hB2:=hB1.trans (hb.mono hB1.size)
  clear hb hn hx
  obtain ⟨l0,k0,k1,k2,k3,k4,k5,k6,k7⟩:=id hx2
  by_cases hv : valS s 0 1 = true
  . have hu':=fun w hB=>hu hv w hB
    have hvH : Hid (valS s 0 1 = true):=hv
    clear hu
    go_wp2_with (go_at_call 149; fail)
    refine (hu' _ (hB.trans (hB2.mono hB.size))).mono ?_
    rintro e w3 ⟨huo,hb⟩
    have hB3:=hB2.trans (hb.mono hB2.size)
    clear hb hu' k0 k1 k2 k3 k4 k5 k6 k7 hv
    cases hm : mpS s with
    | none =>
      rw [hm] at huo
      obtain rfl:=huo
      have hmH : Hid (mpS s = none):=hm
      clear hm
      go_wp2
      go_ret2
      exact ⟨by unfold WhOk; rw [if_pos hvH.out,hmH.out]; rfl,hB3⟩
    | some n =>
      rw [hm] at huo
      obtain ⟨B,rfl,hB0,u0,u1,u2,hnd⟩:=huo
      have hnd' : x6S (fun b=>b < w3.heap.size) w3 B s n:=x5P (fun b h=>by have:=hB.size; have:=hB3.size; omega) (KeepS.refl _ _) hnd
      clear hnd
      have hmH : Hid (mpS s = some n):=hm
      clear hm
      go_wp2
      go_ret2
      exact ⟨by unfold WhOk; rw [if_pos hvH.out,hmH.out]; exact ⟨B,rfl,u0,u1,u2,hnd'⟩,hB3⟩
  . have hvf : valS s 0 1 = false:=by simpa using hv
    have hvH : Hid (¬ valS s 0 1 = true):=hv
    clear hv hu
    go_wp2
    go_ret2
    exact ⟨by unfold WhOk; rw [if_neg hvH.out]; rfl,hB2⟩
set_option maxRecDepth 100000 in
set_option maxHeartbeats 4000000 in
theorem x6H (s : Sh) (W w : World) (dv pv : Value) (hG : Glob W) (hs : ShAt W dv pv s) (hB : Below W.heap.size W w) (hok : okS s) (hct : scnt s <= 100) :
    Calls Tryz.prog 24 #[shV dv pv s.t s.g] w fun e w'=>e = .returned (.tuple #[unV (mapR s).1, .int .i64 (mapR s).2]) /\ Below w.heap.size w w':=by
  have hn:=fun w hB=>v1G s W w dv pv hG hs hB hok hct
  obtain ⟨a1,c1,a2,c2,rfl,rfl⟩:=hs.slices
  have hub : UBox ((w.alloc (.cells #[.slice a1 s.D.length c1, .slice a2 s.P.length c2, .int .i64 s.t.k, .int .i64 s.t.p, .int .i64 s.t.q, .bool s.t.v, .string s.t.pic, .bool s.g] 27)).alloc (.cells #[.int .i64 0, .int .i64 0, .int .i64 0] 42)) (w.heap.size + 1) (.int .i64 0) (.int .i64 0) (.int .i64 0):=by
    simpa using UBox.here (w.alloc (.cells #[.slice a1 s.D.length c1, .slice a2 s.P.length c2, .int .i64 s.t.k, .int .i64 s.t.p, .int .i64 s.t.q, .bool s.t.v, .string s.t.pic, .bool s.g] 27)) (.int .i64 0) (.int .i64 0) (.int .i64 0) 42
  have hB1 : Below w.heap.size w ((w.alloc (.cells #[.slice a1 s.D.length c1, .slice a2 s.P.length c2, .int .i64 s.t.k, .int .i64 s.t.p, .int .i64 s.t.q, .bool s.t.v, .string s.t.pic, .bool s.g] 27)).alloc (.cells #[.int .i64 0, .int .i64 0, .int .i64 0] 42)):=((Below.refl _ w).alloc (Nat.le_refl _) _).alloc (by simp) _
  generalize hMR : mapR s = MR
  have hMH : Hid (mapR s = MR):=hMR
  clear hMR
  go_enter Tryz.func24,Tryz.ntmps24
  go_wp2_with (go_at_call 97; fail)
  refine (hn _ (hB.trans (hB1.mono hB.size))).mono ?_
  rintro e w2 ⟨hwo,hb⟩
  have hub2:=hub.below hb
  have hB2:=hB1.trans (hb.mono hB1.size)
  clear hb hn hub hB1
  obtain ⟨l1,m0,m1,m2,m3,m4,m5⟩:=id hub2
  have key : (∃ er,e = .returned (.tuple #[.pointer none, .int .i64 er]) /\ er ≠ 0 /\ MR = (⟨0, 0, 0⟩,er)) \/ (∃ B u,e = .returned (.tuple #[.pointer (some ⟨B, 0,none⟩), .int .i64 0]) /\ MR = (u, 0) /\ w2.cell? ⟨B, 8,none⟩ = some (.int .i64 u.s) /\ w2.cell? ⟨B, 9,none⟩ = some (.int .i64 u.b) /\ w2.cell? ⟨B, 10,none⟩ = some (.int .i64 u.a)):=by
    have h1:=hMH.out
    unfold WhOk at hwo
    unfold mapR at h1
    cases hv : valS s 0 1
    . rw [hv,if_neg (by simp)] at hwo
      rw [hv] at h1
      exact .inl ⟨_,hwo,by decide,h1.symm⟩
    . rw [hv,if_pos rfl] at hwo
      rw [hv] at h1
      cases hm : mpS s with
      | none =>
        rw [hm] at hwo h1
        exact .inl ⟨_,hwo,by decide,h1.symm⟩
      | some n =>
        rw [hm] at hwo h1
        obtain ⟨B,h,u0,u1,u2, -⟩:=hwo
        exact .inr ⟨B,n.u,h,h1.symm,u0,u1,u2⟩
  clear hwo hMH
  rcases key with ⟨er,rfl,her,rfl⟩ | ⟨B,⟨us,ub,ua⟩,rfl,rfl,u0,u1,u2⟩
  . go_wp2
    refine bodyPost_ret (v:= .tuple #[.agg #[.int .i64 0, .int .i64 0, .int .i64 0], .int .i64 er]) (by rw [results_cell_tmp rfl]; go_simp) rfl ⟨rfl,x1H hB2 (by omega)⟩
  . simp only at u0 u1 u2
    go_wp2
    refine bodyPost_ret (v:= .tuple #[.agg #[.int .i64 us, .int .i64 ub, .int .i64 ua], .int .i64 0]) (by rw [results_cell_tmp rfl]; go_simp) rfl ⟨rfl,x1H hB2 (by omega)⟩
end Go.Proofs
namespace Go.Proofs
open Go.RowKit Go.Yec Go.Shp Go.Deep
open Go.Xec (Glob)
set_option maxRecDepth 100000 in
set_option maxHeartbeats 8000000 in
theorem y2H (l : List Sh) (fr : Int) (W w : World) (lv : Value) (hG : Glob W) (hl : LsAt W lv l) (hB : Below W.heap.size W w) (hlen : l.length <= 20) (hok : ∀ s ∈ l,okS s /\ scnt s <= 100) :
    Calls Tryz.prog 18 #[.int .i64 fr,lv] w fun e w'=>(∃ ov,e = .returned (.tuple #[ov, .int .i64 (frR fr l).2.1, .int .i64 (frR fr l).2.2]) /\ IntsAt w' ov (frR fr l).1) /\ Below w.heap.size w w':=by
  obtain ⟨la,lcap,rfl,hp0,hpc⟩:=hl
  generalize hR : frR fr l = R
  have hRH : Hid (frR fr l = R):=hR
  clear hR
  by_cases hf0 : fr < 0
  . obtain rfl : R = ([], 0, 1):=by rw [<- hRH.out,frR,if_neg (by omega)]
    clear hRH
    go_enter Tryz.func18,Tryz.ntmps18
    go_wp2
    go_ret3
    exact ⟨⟨_,rfl,IntsAt.nil _⟩,Below.refl _ _⟩
  by_cases hf1 : 524288 < fr
  . obtain rfl : R = ([], 0, 1):=by rw [<- hRH.out,frR,if_neg (by omega)]
    clear hRH
    go_enter Tryz.func18,Tryz.ntmps18
    go_wp2
    go_ret3
    exact ⟨⟨_,rfl,IntsAt.nil _⟩,Below.refl _ _⟩
  have hR1 : Hid (frL l fr [] = R):=by
    show frL l fr [] = R
    rw [<- hRH.out,frR,if_pos (by omega)]
  clear hRH
  obtain ⟨i1,hi1,hz1,hs1,hy1⟩:=z2S v4K
  go_enter Tryz.func18,Tryz.ntmps18
  go_wp2
  go_loopw [7, 8, 23] (fun v7 v8 v23 wr=> ∃ (x e : Int) (os : List Int) (av : Value),v7 = av /\ v8 = .int .i64 e /\ v23 = .int .i64 x /\ 0 <= x /\ x <= l.length /\ 0 <= e /\ e <= 524288 + x * 1000000 /\ wr.ownsRow w.heap.size 3 1 av x.toNat (os.map fun y=> .int .i64 y) /\ Hid (frL (l.drop x.toNat) e os = R) /\ Below w.heap.size w wr) (fun _ _ vx _=>(l.length - intOf vx).toNat)
  case atStart=>exact ⟨0,fr,[],_,rfl,rfl,rfl,by omega,by omega,by omega,by omega,World.ownsRow_nil _ _ _ _,hR1,Below.refl _ _⟩
  case round =>
    clear hR1 hf0 hf1
    obtain ⟨x,e,os,av,hv9,rfl,rfl,x0,x1,e0,e1,ho,hstH,hbr⟩:=hrel
    obtain rfl:=hv9.symm
    have hBw : Below W.heap.size W wr:=hB.trans (hbr.mono hB.size)
    by_cases hlt : x < (l.length : Int)
    . obtain ⟨b,o,rfl,hbl⟩:=hp0 (by intro h; subst h; simp at hlt; omega)
      obtain ⟨a1,c1',a2,c2',s',hss,hs2,d0,d1,d2,d3,d4,d5,d6,d7⟩:=part_at (i:=x.toNat) hBw hbl (hpc b o rfl) (by omega)
      obtain ⟨hk1,hk2⟩:=hok s' (List.mem_of_getElem? hss)
      have hmp:=fun w hB=>x6H s' W w _ _ hG hs2 hB hk1 hk2
      have hgo:=x4D (s:=s')
      have hst2 : (if (mapR s').2 = 0 then frL (l.drop (x.toNat + 1)) (upS e (mapR s').1.a + (mapR s').1.s + (mapR s').1.b) (os ++ [upS e (mapR s').1.a]) else ([], 0,(mapR s').2)) = R:=by
        obtain ⟨hi,hse⟩:=List.getElem?_eq_some_iff.1 hss
        rw [<- hstH.out,List.drop_eq_getElem_cons hi,hse,frL]
      generalize mapR s' = M at hmp hgo hst2
      obtain ⟨⟨us,ub,ua⟩,er⟩:=M
      simp only at hgo hst2
      have hst2H : Hid ((if er = 0 then frL (l.drop (x.toNat + 1)) (upS e ua + us + ub) (os ++ [upS e ua]) else ([], 0,er)) = R):=hst2
      clear hst2 hstH hss hk1 hk2 hok hpc hp0
      go_wp2_with (go_at_call 24; fail)
      refine (hmp _ (hBw.alloc hBw.size _)).mono ?_
      rintro ee w2 ⟨rfl,hb⟩
      have hb2 : Below wr.heap.size wr w2:=x5V (Below.refl _ wr) (Nat.le_refl _) hb
      have hbr2 : Below w.heap.size w w2:=hbr.trans (hb2.mono hbr.size)
      have ho2:=x2P ho hb2
      have hsz2:=hbr2.size
      have hsz1:=hbr.size
      clear hmp hb d0 d1 d2 d3 d4 d5 d6 d7
      by_cases her : er = 0
      . subst her
        have hg:=hgo rfl
        have ha1:=x1V hg.1
        obtain ⟨-, hg1,hg2,hg3,hg4⟩:=hg
        simp only at ha1 hg1 hg2 hg3 hg4
        have hup:=x7T (n:=e) ha1.1
        have hst3:=hst2H.out
        rw [if_pos rfl] at hst3
        have hst3H : Hid (frL (l.drop (x.toNat + 1)) (upS e ua + us + ub) (os ++ [upS e ua]) = R):=hst3
        have hal : ∀ o,Below w2.heap.size w2 (w2.alloc o):=fun o=>(Below.refl _ w2).alloc (Nat.le_refl _) o
        have hal2 : ∀ o o',Below w2.heap.size w2 ((w2.alloc o).alloc o'):=fun o o'=>(hal o).alloc (by simp) o'
        have hoA:=fun o o'=>x2P ho2 (hal2 o o')
        have hpk : ∀ g,av.ownBlock = some g -> g < w2.heap.size:=fun g hg=>x9H ho2 hg
        clear hst3 hst2H hgo ho
        go_wp2_with (first
          | (go_at_call 93; refine (u3R _ _ _ ha1 (by omega)).mono ?_; rintro ee w3 ⟨rfl,rfl⟩)
          | (at_builtin; refine wpList_append_own _ rfl _ _ 32 rfl w.heap.size 3 i1 (.int .i64 0) 1 8 Tryz.underlying32 hi1 hz1 hs1 hy1 rfl (by decide) _ _ _ rfl (hoA _ _) ⟨w2.heap.size + 1, 0,none⟩ 1 1 [.int .i64 (upS e ua)] rfl rfl (by simpa using cell_one_new (w2.alloc (.cells #[.int .i64 us, .int .i64 ub, .int .i64 ua] 42)) (.int .i64 (upS e ua)) 3) (fun x hx=>by simp at hx; subst hx; rfl) (by unfold maxLen; omega) (by omega) (by simp; omega) ?_; intro v' w3 ho3 hgr3 hnn3; have hu3:=y0Y hpk (Nat.le_refl _) ((UBox.here w2 (.int .i64 us) (.int .i64 ub) (.int .i64 ua) 42).below ((Below.refl _ _).alloc (Nat.le_refl _) _)) hgr3; have hb3:=x8F (hoA _ _) (Nat.le_refl _) (hbr2.trans ((hal2 _ _).mono hsz2)) (by simp; omega) hgr3; obtain ⟨q0,q1,q2,q3,q4,q5,q6⟩:=id hu3))
        go_roundw
        case rel=>exact ⟨_,upS e ua + us + ub,os ++ [upS e ua],_,rfl,rfl,rfl,by omega,by omega,by omega,by omega,by rw [show (x + 1).toNat = x.toNat + 1 by omega,List.map_append]; exact ho3,by rw [show (x + 1).toNat = x.toNat + 1 by omega]; exact hst3H,hb3⟩
        case measure=>simp [intOf]; omega
      . have hst3:=hst2H.out
        rw [if_neg her] at hst3
        subst hst3
        clear hst2H hgo
        go_wp2
        go_ret3
        exact ⟨⟨_,rfl,IntsAt.nil _⟩,hbr2.alloc hsz2 _⟩
    . have hxe : x = l.length:=by omega
      subst hxe
      have hst2:=hstH.out
      rw [show ((l.length : Int)).toNat = l.length by omega,List.drop_length,frL] at hst2
      have hup:=x7T (n:=e) (show (1 : Int) <= 8 by omega)
      have hst2H : Hid ((if 524288 < upS e 8 then ([], 0, 2) else (os,upS e 8, 0)) = R):=hst2
      clear hst2 hstH hok hpc hp0
      by_cases hbig : 524288 < upS e 8
      . have hst3:=hst2H.out
        rw [if_pos hbig] at hst3
        subst hst3
        clear hst2H
        go_wp2_with (go_at_call 93; refine (u3R _ _ _ (by omega) (by omega)).mono ?_; rintro ee w3 ⟨rfl,rfl⟩)
        go_ret3
        exact ⟨⟨_,rfl,IntsAt.nil _⟩,hbr⟩
      . have hst3:=hst2H.out
        rw [if_neg hbig] at hst3
        subst hst3
        clear hst2H
        go_wp2_with (go_at_call 93; refine (u3R _ _ _ (by omega) (by omega)).mono ?_; rintro ee w3 ⟨rfl,rfl⟩)
        go_ret3
        exact ⟨⟨_,rfl,u5D ho⟩,hbr⟩
set_option maxRecDepth 100000 in
set_option maxHeartbeats 8000000 in
theorem z5V (l : List Sh) (fr : Int) (W w : World) (lv : Value) (hG : Glob W) (hl : LsAt W lv l) (hB : Below W.heap.size W w) (hlen : l.length <= 20) (hok : ∀ s ∈ l,okS s /\ scnt s <= 100) :
    Calls Tryz.prog 19 #[.int .i64 fr,lv] w fun e w'=>(∃ ov,e = .returned (.tuple #[ov, .int .i64 (frR fr l).2.1, .int .i64 (frR fr l).2.2]) /\ IntsAt w' ov (frR fr l).1) /\ Below w.heap.size w w':=by
  obtain ⟨la,lcap,rfl,hp0,hpc⟩:=hl
  generalize hR : frR fr l = R
  have hRH : Hid (frR fr l = R):=hR
  clear hR
  by_cases hf0 : fr < 0
  . obtain rfl : R = ([], 0, 1):=by rw [<- hRH.out,frR,if_neg (by omega)]
    clear hRH
    go_enter Tryz.func19,Tryz.ntmps19
    go_wp2
    go_ret3
    exact ⟨⟨_,rfl,IntsAt.nil _⟩,Below.refl _ _⟩
  by_cases hf1 : 524288 < fr
  . obtain rfl : R = ([], 0, 1):=by rw [<- hRH.out,frR,if_neg (by omega)]
    clear hRH
    go_enter Tryz.func19,Tryz.ntmps19
    go_wp2
    go_ret3
    exact ⟨⟨_,rfl,IntsAt.nil _⟩,Below.refl _ _⟩
  have hR1 : Hid (frL l fr [] = R):=by
    show frL l fr [] = R
    rw [<- hRH.out,frR,if_pos (by omega)]
  clear hRH
  obtain ⟨i1,hi1,hz1,hs1,hy1⟩:=z2S v4K
  go_enter Tryz.func19,Tryz.ntmps19
  go_wp2
  go_loopw [7] (fun v7 wr=> ∃ (x : Int),v7 = .int .i64 x /\ 0 <= x /\ x <= l.length /\ Hid (∀ t ∈ l.take x.toNat,(mapR t).2 = 0) /\ Below w.heap.size w wr) (fun vx _=>(l.length - intOf vx).toNat)
  case atStart=>exact ⟨0,rfl,by omega,by omega,(show Hid _ from fun t ht=>by simp at ht),Below.refl _ _⟩
  case round =>
    obtain ⟨x,rfl,x0,x1,haH,hbr⟩:=hrel
    have hBw : Below W.heap.size W wr:=hB.trans (hbr.mono hB.size)
    have hsz1:=hbr.size
    by_cases hlt : x < (l.length : Int)
    . obtain ⟨b,o,rfl,hbl⟩:=hp0 (by intro h; subst h; simp at hlt; omega)
      obtain ⟨a1,c1',a2,c2',s',hss,hs2,d0,d1,d2,d3,d4,d5,d6,d7⟩:=part_at (i:=x.toNat) hBw hbl (hpc b o rfl) (by omega)
      obtain ⟨hk1,hk2⟩:=hok s' (List.mem_of_getElem? hss)
      have hmp:=fun w hB=>x5M s' W w _ _ hG hs2 hB hk1 hk2
      have hme:=z2Q s'
      have hbad:=fun h=>v5J hss haH.out h fr []
      have hnx : (mapR s').2 = 0 -> ∀ t ∈ l.take (x.toNat + 1),(mapR t).2 = 0:=fun h0 t ht=>by
        rw [List.take_add_one,hss] at ht
        rcases List.mem_append.1 ht with h | h
        . exact haH.out t h
        . simp at h
          subst h
          exact h0
      rw [hme] at hbad hnx
      generalize chk s' = C at hmp hme hbad hnx
      have hbadH : Hid (C ≠ 0 -> frL l fr [] = ([], 0,C)):=hbad
      have hnxH : Hid (C = 0 -> ∀ t ∈ l.take (x.toNat + 1),(mapR t).2 = 0):=hnx
      clear hbad hnx hme hss hk1 hk2 hok hpc hp0 haH
      go_wp2_with (go_at_call 23; fail)
      refine (hmp _ hBw).mono ?_
      rintro ee w2 ⟨rfl,hb⟩
      have hbr2 : Below w.heap.size w w2:=hbr.trans (hb.mono hbr.size)
      clear hmp hb d0 d1 d2 d3 d4 d5 d6 d7
      by_cases hC : C = 0
      . subst hC
        go_wp2
        go_roundw
        case rel=>exact ⟨_,rfl,by omega,by omega,by rw [show (x + 1).toNat = x.toNat + 1 by omega]; exact hnxH.out (by trivial),hbr2⟩
        case measure=>simp [intOf]; omega
      . have hRe:=hR1.out
        rw [hbadH.out hC] at hRe
        subst hRe
        clear hbadH hnxH hR1
        go_wp2
        go_ret3
        exact ⟨⟨_,rfl,IntsAt.nil _⟩,hbr2⟩
    . have hxe : x = l.length:=by omega
      subst hxe
      have ha2:=haH.out
      rw [show ((l.length : Int)).toNat = l.length by omega,List.take_length] at ha2
      have ha2H : Hid (∀ t ∈ l,(mapR t).2 = 0):=ha2
      clear ha2 haH
      go_wp2
      go_loopw [0, 9, 10] (fun v8 v7 v23 wr=> ∃ (x e : Int) (os : List Int) (av : Value),v7 = av /\ v8 = .int .i64 e /\ v23 = .int .i64 x /\ 0 <= x /\ x <= l.length /\ 0 <= e /\ e <= 524288 + x * 1000000 /\ wr.ownsRow w.heap.size 3 1 av x.toNat (os.map fun y=> .int .i64 y) /\ Hid (frL (l.drop x.toNat) e os = R) /\ Below w.heap.size w wr) (fun _ _ vx _=>(l.length - intOf vx).toNat)
      case atStart=>exact ⟨0,fr,[],_,rfl,rfl,rfl,by omega,by omega,by omega,by omega,World.ownsRow_nil _ _ _ _,hR1,hbr⟩
      case round =>
        clear hR1 hf0 hf1 hbr hBw hsz1 x0 x1 hlt
        obtain ⟨x,e,os,av,hv9,rfl,rfl,x0,x1,e0,e1,ho,hstH,hbr⟩:=hrel
        obtain rfl:=hv9.symm
        have hBw : Below W.heap.size W wr:=hB.trans (hbr.mono hB.size)
        by_cases hlt : x < (l.length : Int)
        . obtain ⟨b,o,rfl,hbl⟩:=hp0 (by intro h; subst h; simp at hlt; omega)
          obtain ⟨a1,c1',a2,c2',s',hss,hs2,d0,d1,d2,d3,d4,d5,d6,d7⟩:=part_at (i:=x.toNat) hBw hbl (hpc b o rfl) (by omega)
          obtain ⟨hk1,hk2⟩:=hok s' (List.mem_of_getElem? hss)
          have h00:=ha2H.out s' (List.mem_of_getElem? hss)
          obtain ⟨hv,n,hn,hun⟩:=map_some h00
          have hmp : ∀ w,Below W.heap.size W w -> Calls Tryz.prog 94 #[shV (.slice a1 s'.D.length c1') (.slice a2 s'.P.length c2') s'.t s'.g] w fun e w'=>e = .returned (.tuple #[unV (mapR s').1, .bool true]) /\ Below w.heap.size w w':=fun w hB=>by
            have:=(y6M s' W 0 1 hG hk1 (by omega) hv w _ _ hs2 hB).2
            rw [hn] at this
            rw [hun]
            exact this
          have hgo:=x4D h00
          have hst2 : frL (l.drop (x.toNat + 1)) (upS e (mapR s').1.a + (mapR s').1.s + (mapR s').1.b) (os ++ [upS e (mapR s').1.a]) = R:=by
            obtain ⟨hi,hse⟩:=List.getElem?_eq_some_iff.1 hss
            rw [<- hstH.out,List.drop_eq_getElem_cons hi,hse,frL,if_pos h00]
          generalize (mapR s').1 = M at hmp hgo hst2
          obtain ⟨us,ub,ua⟩:=M
          simp only at hst2
          have hst3H : Hid (frL (l.drop (x.toNat + 1)) (upS e ua + us + ub) (os ++ [upS e ua]) = R):=hst2
          have ha1:=x1V hgo.1
          obtain ⟨-, hg1,hg2,hg3,hg4⟩:=hgo
          simp only at ha1 hg1 hg2 hg3 hg4
          have hup:=x7T (n:=e) ha1.1
          clear hst2 hstH hss hk1 hk2 hok hpc hp0 h00 hv hn hun ha2H
          go_wp2_with (go_at_call 94; fail)
          refine (hmp _ hBw).mono ?_
          rintro ee w2 ⟨rfl,hb⟩
          have hbr2 : Below w.heap.size w w2:=hbr.trans (hb.mono hbr.size)
          have ho2:=x2P ho hb
          have hsz2:=hbr2.size
          have hal : ∀ o,Below w2.heap.size w2 (w2.alloc o):=fun o=>(Below.refl _ w2).alloc (Nat.le_refl _) o
          have hal2 : ∀ o o',Below w2.heap.size w2 ((w2.alloc o).alloc o'):=fun o o'=>(hal o).alloc (by simp) o'
          have hoA:=fun o o'=>x2P ho2 (hal2 o o')
          have hpk : ∀ g,av.ownBlock = some g -> g < w2.heap.size:=fun g hg=>x9H ho2 hg
          clear hmp hb d0 d1 d2 d3 d4 d5 d6 d7 ho
          go_wp2_with (first
            | (go_at_call 95; refine (u6V _ _ _ ha1 (by omega)).mono ?_; rintro ee w3 ⟨rfl,rfl⟩)
            | (at_builtin; refine wpList_append_own _ rfl _ _ 32 rfl w.heap.size 3 i1 (.int .i64 0) 1 8 Tryz.underlying32 hi1 hz1 hs1 hy1 rfl (by decide) _ _ _ rfl (hoA _ _) ⟨w2.heap.size + 1, 0,none⟩ 1 1 [.int .i64 (upS e ua)] rfl rfl (by simpa using cell_one_new (w2.alloc (.cells #[.int .i64 us, .int .i64 ub, .int .i64 ua] 42)) (.int .i64 (upS e ua)) 3) (fun x hx=>by simp at hx; subst hx; rfl) (by unfold maxLen; omega) (by omega) (by simp; omega) ?_; intro v' w3 ho3 hgr3 hnn3; have hu3:=y0Y hpk (Nat.le_refl _) ((UBox.here w2 (.int .i64 us) (.int .i64 ub) (.int .i64 ua) 42).below ((Below.refl _ _).alloc (Nat.le_refl _) _)) hgr3; have hb3:=x8F (hoA _ _) (Nat.le_refl _) (hbr2.trans ((hal2 _ _).mono hsz2)) (by simp; omega) hgr3; obtain ⟨q0,q1,q2,q3,q4,q5,q6⟩:=id hu3))
          go_roundw
          case rel=>exact ⟨_,upS e ua + us + ub,os ++ [upS e ua],_,rfl,rfl,rfl,by omega,by omega,by omega,by omega,by rw [show (x + 1).toNat = x.toNat + 1 by omega,List.map_append]; exact ho3,by rw [show (x + 1).toNat = x.toNat + 1 by omega]; exact hst3H,hb3⟩
          case measure=>simp [intOf]; omega
        . have hxe : x = l.length:=by omega
          subst hxe
          have hst2:=hstH.out
          rw [show ((l.length : Int)).toNat = l.length by omega,List.drop_length,frL] at hst2
          have hup:=x7T (n:=e) (show (1 : Int) <= 8 by omega)
          have hst2H : Hid ((if 524288 < upS e 8 then ([], 0, 2) else (os,upS e 8, 0)) = R):=hst2
          clear hst2 hstH hok hpc hp0 ha2H
          by_cases hbig : 524288 < upS e 8
          . have hst3:=hst2H.out
            rw [if_pos hbig] at hst3
            subst hst3
            clear hst2H
            go_wp2_with (go_at_call 95; refine (u6V _ _ _ (by omega) (by omega)).mono ?_; rintro ee w3 ⟨rfl,rfl⟩)
            go_ret3
            exact ⟨⟨_,rfl,IntsAt.nil _⟩,hbr⟩
          . have hst3:=hst2H.out
            rw [if_neg hbig] at hst3
            subst hst3
            clear hst2H
            go_wp2_with (go_at_call 95; refine (u6V _ _ _ (by omega) (by omega)).mono ?_; rintro ee w3 ⟨rfl,rfl⟩)
            go_ret3
            exact ⟨⟨_,rfl,u5D ho⟩,hbr⟩
end Go.Proofs
namespace Go.Proofs
open Go.RowKit Go.Yec Go.Shp Go.Deep
open Go.Xec (Glob)
set_option maxRecDepth 100000 in
set_option maxHeartbeats 8000000 in
theorem x9J (b s : Sh) (W w : World) (bd bp dv pv : Value) (hG : Glob W) (hbs : ShAt W bd bp b) (hs : ShAt W dv pv s) (hB : Below W.heap.size W w) (hkb : okS b /\ scnt b <= 100) (hks : okS s /\ scnt s <= 100) :
    Calls Tryz.prog 21 #[shV bd bp b.t b.g,shV dv pv s.t s.g] w fun e w'=>e = .returned (.tuple #[.int .i64 (dfR b s).1, .int .i64 (dfR b s).2]) /\ Below w.heap.size w w':=by
  have hm1:=fun w hB=>x6H b W w _ _ hG hbs hB hkb.1 hkb.2
  have hm2:=fun w hB=>x6H s W w _ _ hG hs hB hks.1 hks.2
  obtain ⟨a1,c1,a2,c2,rfl,rfl⟩:=hbs.slices
  obtain ⟨a3,c3,a4,c4,rfl,rfl⟩:=hs.slices
  have hg1:=x4D (s:=b)
  have hg2:=x4D (s:=s)
  generalize hR : dfR b s = R
  rw [dfR] at hR
  generalize mapR b = M1 at *
  generalize mapR s = M2 at *
  obtain ⟨⟨us,ub,ua⟩,ue⟩:=M1
  obtain ⟨⟨vs,vb,va⟩,ve⟩:=M2
  simp only at hg1 hg2 hR
  have hRH : Hid ((if ue = 0 then (if ve = 0 then (if 0 <= us - vs /\ (us - vs).tmod va = 0 /\ va <= ua /\ vb <= ub then (us - vs, 0) else (0, 1)) else (0,ve)) else (0,ue)) = R):=hR
  clear hR hG hkb hks hbs hs
  go_enter Tryz.func21,Tryz.ntmps21
  go_wp2_with (go_at_call 24; fail)
  generalize hw1 : (w.alloc (.cells #[.slice a1 b.D.length c1, .slice a2 b.P.length c2, .int .i64 b.t.k, .int .i64 b.t.p, .int .i64 b.t.q, .bool b.t.v, .string b.t.pic, .bool b.g] 27)).alloc (.cells #[.slice a3 s.D.length c3, .slice a4 s.P.length c4, .int .i64 s.t.k, .int .i64 s.t.p, .int .i64 s.t.q, .bool s.t.v, .string s.t.pic, .bool s.g] 27) = w1
  have hB1 : Below w.heap.size w w1:=by
    rw [<- hw1]
    exact ((Below.refl _ w).alloc (Nat.le_refl _) _).alloc (by simp) _
  have hx1 : ShBox w1 (w.heap.size + 1) (.slice a3 s.D.length c3) (.slice a4 s.P.length c4) s.t s.g:=by
    rw [<- hw1]
    have:=ShBox.here (w.alloc (.cells #[.slice a1 b.D.length c1, .slice a2 b.P.length c2, .int .i64 b.t.k, .int .i64 b.t.p, .int .i64 b.t.q, .bool b.t.v, .string b.t.pic, .bool b.g] 27)) (.slice a3 s.D.length c3) (.slice a4 s.P.length c4) s.t s.g
    simpa using this
  clear hw1
  refine (hm1 _ (hB.trans (hB1.mono hB.size))).mono ?_
  rintro e w2 ⟨rfl,hb⟩
  have hx2:=hx1.below hb
  have hB2:=hB1.trans (hb.mono hB1.size)
  have hsz2:=hB2.size
  clear hb hx1 hB1 hm1
  obtain ⟨l0,k0,k1,k2,k3,k4,k5,k6,k7⟩:=id hx2
  by_cases hue : ue = 0
  . have hRa:=hRH.out
    rw [if_pos hue] at hRa
    have hRaH : Hid ((if ve = 0 then (if 0 <= us - vs /\ (us - vs).tmod va = 0 /\ va <= ua /\ vb <= ub then (us - vs, 0) else (0, 1)) else (0,ve)) = R):=hRa
    have hgu:=hg1 hue
    clear hg1 hRa hRH
    subst hue
    go_wp2_with (go_at_call 24; fail)
    refine (hm2 _ (hB.trans ((hB2.alloc hsz2 _).mono hB.size))).mono ?_
    rintro e w3 ⟨rfl,hb⟩
    have hu3:=UBox.top hb
    have hB3:=x5V hB2 hsz2 hb
    have hsz3:=hB3.size
    clear hb hx2 hB2 hm2 k0 k1 k2 k3 k4 k5 k6 k7 l0
    obtain ⟨l1,m0,m1,m2,m3,m4,m5⟩:=id hu3
    by_cases hve : ve = 0
    . have hgv:=hg2 hve
      have hR2:=hRaH.out
      rw [if_pos hve] at hR2
      subst hve
      have hau:=x1V hgu.1
      have hav:=x1V hgv.1
      obtain ⟨-, p1,p2,p3,p4⟩:=hgu
      obtain ⟨-, q1,q2,q3,q4⟩:=hgv
      simp only at hau hav p1 p2 p3 p4 q1 q2 q3 q4
      have hR2H : Hid ((if 0 <= us - vs /\ (us - vs).tmod va = 0 /\ va <= ua /\ vb <= ub then (us - vs, 0) else (0, 1)) = R):=hR2
      have h0 : ¬ va = 0:=by omega
      have ht : -64 < (us - vs).tmod va /\ (us - vs).tmod va < 64:=by
        have h1:=Int.tmod_lt_of_pos (us - vs) (show 0 < va by omega)
        have:=Int.neg_tmod (a:=us - vs) (b:=va)
        have:=Int.tmod_lt_of_pos (-(us - vs)) (show 0 < va by omega)
        omega
      clear hR2 hRaH hg2
      by_cases hd : us - vs < 0
      . have hR3:=hR2H.out
        rw [if_neg (by omega)] at hR3
        subst hR3
        clear hR2H
        go_wp2
        go_ret2
        exact ⟨rfl,hB3.alloc hsz3 _⟩
      . have hte : (us - vs).tmod va = (us - vs) % va:=Int.tmod_eq_emod_of_nonneg (by omega)
        by_cases hm : (us - vs).tmod va = 0
        . have hme : (us - vs) % va = 0:=by omega
          by_cases ha : ua < va
          . have hR3:=hR2H.out
            rw [if_neg (by omega)] at hR3
            subst hR3
            clear hR2H
            go_wp2
            go_ret2
            exact ⟨rfl,hB3.alloc hsz3 _⟩
          . by_cases hbb : ub < vb
            . have hR3:=hR2H.out
              rw [if_neg (by omega)] at hR3
              subst hR3
              clear hR2H
              go_wp2
              go_ret2
              exact ⟨rfl,hB3.alloc hsz3 _⟩
            . have hR3:=hR2H.out
              rw [if_pos ⟨by omega,hm,by omega,by omega⟩] at hR3
              subst hR3
              clear hR2H
              go_wp2
              go_ret2
              exact ⟨rfl,hB3.alloc hsz3 _⟩
        . have hR3:=hR2H.out
          rw [if_neg (fun h=>hm h.2.1)] at hR3
          have hme : ¬ (us - vs) % va = 0:=by omega
          subst hR3
          clear hR2H
          go_wp2
          go_ret2
          exact ⟨rfl,hB3.alloc hsz3 _⟩
    . have hR2:=hRaH.out
      rw [if_neg hve] at hR2
      subst hR2
      clear hRaH hg2
      go_wp2
      go_ret2
      exact ⟨rfl,hB3.alloc hsz3 _⟩
  . have hR2:=hRH.out
    rw [if_neg hue] at hR2
    subst hR2
    clear hRH hg1 hg2
    go_wp2
    go_ret2
    exact ⟨rfl,hB2.alloc hsz2 _⟩
set_option maxRecDepth 100000 in
set_option maxHeartbeats 8000000 in
theorem y8L (b s : Sh) (W w : World) (bd bp dv pv : Value) (hG : Glob W) (hbs : ShAt W bd bp b) (hs : ShAt W dv pv s) (hB : Below W.heap.size W w) (hkb : okS b /\ scnt b <= 100) (hks : okS s /\ scnt s <= 100) :
    Calls Tryz.prog 22 #[shV bd bp b.t b.g,shV dv pv s.t s.g] w fun e w'=>e = .returned (.tuple #[.int .i64 (dfR b s).1, .int .i64 (dfR b s).2]) /\ Below w.heap.size w w':=by
  have hm1:=fun w hB=>y9C b W w _ _ hG hbs hB hkb.1 hkb.2
  have hm2:=fun w hB=>y9C s W w _ _ hG hs hB hks.1 hks.2
  obtain ⟨a1,c1,a2,c2,rfl,rfl⟩:=hbs.slices
  obtain ⟨a3,c3,a4,c4,rfl,rfl⟩:=hs.slices
  have hg1:=x4D (s:=b)
  have hg2:=x4D (s:=s)
  generalize hR : dfR b s = R
  rw [dfR] at hR
  generalize mapR b = M1 at *
  generalize mapR s = M2 at *
  obtain ⟨⟨us,ub,ua⟩,ue⟩:=M1
  obtain ⟨⟨vs,vb,va⟩,ve⟩:=M2
  simp only at hg1 hg2 hR
  have hRH : Hid ((if ue = 0 then (if ve = 0 then (if 0 <= us - vs /\ (us - vs).tmod va = 0 /\ va <= ua /\ vb <= ub then (us - vs, 0) else (0, 1)) else (0,ve)) else (0,ue)) = R):=hR
  clear hR hG hkb hks hbs hs
  go_enter Tryz.func22,Tryz.ntmps22
  go_wp2_with (go_at_call 33; fail)
  generalize hw1 : (w.alloc (.cells #[.slice a1 b.D.length c1, .slice a2 b.P.length c2, .int .i64 b.t.k, .int .i64 b.t.p, .int .i64 b.t.q, .bool b.t.v, .string b.t.pic, .bool b.g] 27)).alloc (.cells #[.slice a3 s.D.length c3, .slice a4 s.P.length c4, .int .i64 s.t.k, .int .i64 s.t.p, .int .i64 s.t.q, .bool s.t.v, .string s.t.pic, .bool s.g] 27) = w1
  have hB1 : Below w.heap.size w w1:=by
    rw [<- hw1]
    exact ((Below.refl _ w).alloc (Nat.le_refl _) _).alloc (by simp) _
  have hx1 : ShBox w1 (w.heap.size + 1) (.slice a3 s.D.length c3) (.slice a4 s.P.length c4) s.t s.g:=by
    rw [<- hw1]
    have:=ShBox.here (w.alloc (.cells #[.slice a1 b.D.length c1, .slice a2 b.P.length c2, .int .i64 b.t.k, .int .i64 b.t.p, .int .i64 b.t.q, .bool b.t.v, .string b.t.pic, .bool b.g] 27)) (.slice a3 s.D.length c3) (.slice a4 s.P.length c4) s.t s.g
    simpa using this
  clear hw1
  refine (hm1 _ (hB.trans (hB1.mono hB.size))).mono ?_
  rintro e w2 ⟨rfl,hb⟩
  have hx2:=hx1.below hb
  have hB2:=hB1.trans (hb.mono hB1.size)
  have hsz2:=hB2.size
  clear hb hx1 hB1 hm1
  obtain ⟨l0,k0,k1,k2,k3,k4,k5,k6,k7⟩:=id hx2
  by_cases hue : ue = 0
  . have hRa:=hRH.out
    rw [if_pos hue] at hRa
    have hRaH : Hid ((if ve = 0 then (if 0 <= us - vs /\ (us - vs).tmod va = 0 /\ va <= ua /\ vb <= ub then (us - vs, 0) else (0, 1)) else (0,ve)) = R):=hRa
    have hgu:=hg1 hue
    clear hg1 hRa hRH
    subst hue
    go_wp2_with (go_at_call 33; fail)
    refine (hm2 _ (hB.trans ((hB2.alloc hsz2 _).mono hB.size))).mono ?_
    rintro e w3 ⟨rfl,hb⟩
    have hu3:=UBox.top hb
    have hB3:=x5V hB2 hsz2 hb
    have hsz3:=hB3.size
    clear hb hx2 hB2 hm2 k0 k1 k2 k3 k4 k5 k6 k7 l0
    obtain ⟨l1,m0,m1,m2,m3,m4,m5⟩:=id hu3
    by_cases hve : ve = 0
    . have hgv:=hg2 hve
      have hR2:=hRaH.out
      rw [if_pos hve] at hR2
      subst hve
      have hau:=x1V hgu.1
      have hav:=x1V hgv.1
      obtain ⟨-, p1,p2,p3,p4⟩:=hgu
      obtain ⟨-, q1,q2,q3,q4⟩:=hgv
      simp only at hau hav p1 p2 p3 p4 q1 q2 q3 q4
      have hR2H : Hid ((if 0 <= us - vs /\ (us - vs).tmod va = 0 /\ va <= ua /\ vb <= ub then (us - vs, 0) else (0, 1)) = R):=hR2
      have h0 : ¬ va = 0:=by omega
      have ht : -64 < (us - vs).tmod va /\ (us - vs).tmod va < 64:=by
        have h1:=Int.tmod_lt_of_pos (us - vs) (show 0 < va by omega)
        have:=Int.neg_tmod (a:=us - vs) (b:=va)
        have:=Int.tmod_lt_of_pos (-(us - vs)) (show 0 < va by omega)
        omega
      clear hR2 hRaH hg2
      by_cases hd : us - vs < 0
      . have hR3:=hR2H.out
        rw [if_neg (by omega)] at hR3
        subst hR3
        clear hR2H
        go_wp2
        go_ret2
        exact ⟨rfl,hB3.alloc hsz3 _⟩
      . have hte : (us - vs).tmod va = (us - vs) % va:=Int.tmod_eq_emod_of_nonneg (by omega)
        by_cases hm : (us - vs).tmod va = 0
        . have hme : (us - vs) % va = 0:=by omega
          by_cases ha : ua < va
          . have hR3:=hR2H.out
            rw [if_neg (by omega)] at hR3
            subst hR3
            clear hR2H
            go_wp2
            go_ret2
            exact ⟨rfl,hB3.alloc hsz3 _⟩
          . by_cases hbb : ub < vb
            . have hR3:=hR2H.out
              rw [if_neg (by omega)] at hR3
              subst hR3
              clear hR2H
              go_wp2
              go_ret2
              exact ⟨rfl,hB3.alloc hsz3 _⟩
            . have hR3:=hR2H.out
              rw [if_pos ⟨by omega,hm,by omega,by omega⟩] at hR3
              subst hR3
              clear hR2H
              go_wp2
              go_ret2
              exact ⟨rfl,hB3.alloc hsz3 _⟩
        . have hR3:=hR2H.out
          rw [if_neg (fun h=>hm h.2.1)] at hR3
          have hme : ¬ (us - vs) % va = 0:=by omega
          subst hR3
          clear hR2H
          go_wp2
          go_ret2
          exact ⟨rfl,hB3.alloc hsz3 _⟩
    . have hR2:=hRaH.out
      rw [if_neg hve] at hR2
      subst hR2
      clear hRaH hg2
      go_wp2
      go_ret2
      exact ⟨rfl,hB3.alloc hsz3 _⟩
  . have hR2:=hRH.out
    rw [if_neg hue] at hR2
    subst hR2
    clear hRH hg1 hg2
    go_wp2
    go_ret2
    exact ⟨rfl,hB2.alloc hsz2 _⟩
end Go.Proofs
