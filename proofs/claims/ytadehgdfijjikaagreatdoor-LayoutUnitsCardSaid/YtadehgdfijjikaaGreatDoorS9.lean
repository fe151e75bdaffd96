/-
  whole, Check, Map of the layout, walked.; Join of the layout and of the reference, walked: for all units, valid or not.; LayoutUnits, walked.
-/
import Derived.Test.YtadehgdfijjikaaGreatDoorS8
import Derived.Test.YtadehgdfijjikaaGreatDoorS4
import Derived.Test.YtadehgdfijjikaaGreatDoorY17
set_option linter.all false
namespace Go.Proofs
open Go.RowKit Go.Yec Go.Shp Go.Deep
open Go.Xec (Glob)
theorem map_any : ∀ (s : Sh) (W : World) (dm lv : Int),Glob W -> okS s -> 0 <= dm -> valS s dm lv = true -> ∀ (w : World) (dv pv : Value),ShAt W dv pv s -> Below W.heap.size W w ->
    Calls Tryz.prog 149 #[shV dv pv s.t s.g] w fun e w'=>MpOk W s w w' e (mpS s) /\ Below w.heap.size w w':=by
  intro s
  induction s using Sh.ind with
  | h D P t g ih =>
    intro W dm lv hG hok hd0 hv w dv pv hs hB
    obtain ⟨h3,hlv,hd,ht,hP⟩:=z0C hv
    obtain ⟨hl10,hP100,hpic,hokP⟩:=hok
    exact map_one D P t g W w dv pv hG hs hB hpic hP100 hd (by omega) (fun h=>(ht h).1)
      (fun s hs' w dv pv hsh hBw=>ih s hs' W _ _ hG (y2Z hokP s hs') (by omega) (hP s hs') w dv pv hsh hBw)
      (fun s hs' n hn=>z8H s _ _ (hP s hs') n hn)
def WhOk (w w' : World) (s : Sh) (e : Ending) : Prop :=
  if valS s 0 1 = true then (match mpS s with
    | none=>e = .returned (.tuple #[.pointer none, .int .i64 2])
    | some n=> ∃ B,e = .returned (.tuple #[.pointer (some ⟨B, 0,none⟩), .int .i64 0]) /\ w'.cell? ⟨B, 8,none⟩ = some (.int .i64 n.u.s) /\ w'.cell? ⟨B, 9,none⟩ = some (.int .i64 n.u.b) /\ w'.cell? ⟨B, 10,none⟩ = some (.int .i64 n.u.a) /\ x6N (fun b=>b < w'.heap.size) w' B s n)
  else e = .returned (.tuple #[.pointer none, .int .i64 90])
set_option maxRecDepth 100000 in
set_option maxHeartbeats 4000000 in
theorem z2X (s : Sh) (W w : World) (dv pv : Value) (hG : Glob W) (hs : ShAt W dv pv s) (hB : Below W.heap.size W w) (hok : okS s) (hct : scnt s <= 100) :
    Calls Tryz.prog 97 #[shV dv pv s.t s.g] w fun e w'=>WhOk w w' s e /\ Below w.heap.size w w':=by
  have hn:=fun w hB=>u8P s W w dv pv hG hs hB hok hct
  have hu:=fun hv w hB=>map_any s W 0 1 hG hok (by omega) hv w dv pv hs hB
  obtain ⟨a1,c1,a2,c2,rfl,rfl⟩:=hs.slices
  have hx:=ShBox.here w (.slice a1 s.D.length c1) (.slice a2 s.P.length c2) s.t s.g
  have hB1 : Below w.heap.size w (w.alloc (.cells #[.slice a1 s.D.length c1, .slice a2 s.P.length c2, .int .i64 s.t.k, .int .i64 s.t.p, .int .i64 s.t.q, .bool s.t.v, .string s.t.pic, .bool s.g] 27)):=(Below.refl _ w).alloc (Nat.le_refl _) _
  go_enter Tryz.func97,Tryz.ntmps97
  go_wp2_with (go_at_call 148; fail)
  refine (hn _ (hB.trans (hB1.mono hB.size))).mono ?_
  rintro e w2 ⟨rfl,hb⟩
  have hx2:=hx.below hb
  have hB2:=hB1.trans (hb.mono hB1.size)
  clear hb hn hx
  obtain ⟨l0,k0,k1,k2,k3,k4,k5,k6,k7⟩:=id hx2
  by_cases hv : valS s 0 1 = true
  . have hu':=fun w hB=>hu hv w hB
    have hvH : Hid (valS s 0 1 = true):=hv
    clear hu
    go_wp2_with (go_at_call 149; fail)
    refine (hu' _ (hB.trans (hB2.mono hB.size))).mono ?_
    rintro e w3 ⟨huo,hb⟩
    have hB3:=hB2.trans (hb.mono hB2.size)
    clear hb hu' k0 k1 k2 k3 k4 k5 k6 k7 hv
    cases hm : mpS s with
    | none =>
      rw [hm] at huo
      obtain rfl:=huo
      have hmH : Hid (mpS s = none):=hm
      clear hm
      go_wp2
      go_ret2
      exact ⟨by unfold WhOk; rw [if_pos hvH.out,hmH.out]; rfl,hB3⟩
    | some n =>
      rw [hm] at huo
      obtain ⟨B,rfl,hB0,u0,u1,u2,hnd⟩:=huo
      have hnd' : x6N (fun b=>b < w3.heap.size) w3 B s n:=x5M (fun b h=>by have:=hB.size; have:=hB3.size; omega) (KeepS.refl _ _) hnd
      clear hnd
      have hmH : Hid (mpS s = some n):=hm
      clear hm
      go_wp2
      go_ret2
      exact ⟨by unfold WhOk; rw [if_pos hvH.out,hmH.out]; exact ⟨B,rfl,u0,u1,u2,hnd'⟩,hB3⟩
  . have hvf : valS s 0 1 = false:=by simpa using hv
    have hvH : Hid (¬ valS s 0 1 = true):=hv
    clear hv hu
    go_wp2
    go_ret2
    exact ⟨by unfold WhOk; rw [if_neg hvH.out]; rfl,hB2⟩
set_option maxRecDepth 100000 in
set_option maxHeartbeats 4000000 in
theorem z4C (s : Sh) (W w : World) (dv pv : Value) (hG : Glob W) (hs : ShAt W dv pv s) (hB : Below W.heap.size W w) (hok : okS s) (hct : scnt s <= 100) :
    Calls Tryz.prog 34 #[shV dv pv s.t s.g] w fun e w'=>e = .returned (.int .i64 (chk s)) /\ Below w.heap.size w w':=by
  have hn:=fun w hB=>z2X s W w dv pv hG hs hB hok hct
  obtain ⟨a1,c1,a2,c2,rfl,rfl⟩:=hs.slices
  have hB1 : Below w.heap.size w (w.alloc (.cells #[.slice a1 s.D.length c1, .slice a2 s.P.length c2, .int .i64 s.t.k, .int .i64 s.t.p, .int .i64 s.t.q, .bool s.t.v, .string s.t.pic, .bool s.g] 27)):=(Below.refl _ w).alloc (Nat.le_refl _) _
  go_enter Tryz.func34,Tryz.ntmps34
  go_wp2_with (go_at_call 97; fail)
  refine (hn _ (hB.trans (hB1.mono hB.size))).mono ?_
  rintro e w2 ⟨hwo,hb⟩
  have hB2:=hB1.trans (hb.mono hB1.size)
  clear hb hn
  have key : ∃ pt er,e = .returned (.tuple #[.pointer pt, .int .i64 er]) /\ er = chk s:=by
    unfold WhOk at hwo
    unfold chk
    cases hv : valS s 0 1
    . rw [hv,if_neg (by simp)] at hwo
      exact ⟨_,_,hwo,rfl⟩
    . rw [hv,if_pos rfl] at hwo
      cases hm : mpS s with
      | none=>rw [hm] at hwo; exact ⟨_,_,hwo,rfl⟩
      | some n=>rw [hm] at hwo; obtain ⟨B,h, -⟩:=hwo; exact ⟨_,_,h,rfl⟩
  obtain ⟨pt,er,rfl,her⟩:=key
  have herH : Hid (er = chk s):=her
  clear her hwo
  go_wp2
  go_ret
  exact ⟨by rw [<- herH.out]; rfl,hB2⟩
set_option maxRecDepth 100000 in
set_option maxHeartbeats 4000000 in
theorem u5M (s : Sh) (W w : World) (dv pv : Value) (hG : Glob W) (hs : ShAt W dv pv s) (hB : Below W.heap.size W w) (hok : okS s) (hct : scnt s <= 100) :
    Calls Tryz.prog 24 #[shV dv pv s.t s.g] w fun e w'=>e = .returned (.tuple #[unV (mapR s).1, .int .i64 (mapR s).2]) /\ Below w.heap.size w w':=by
  have hn:=fun w hB=>z2X s W w dv pv hG hs hB hok hct
  obtain ⟨a1,c1,a2,c2,rfl,rfl⟩:=hs.slices
  have hub : UBox ((w.alloc (.cells #[.slice a1 s.D.length c1, .slice a2 s.P.length c2, .int .i64 s.t.k, .int .i64 s.t.p, .int .i64 s.t.q, .bool s.t.v, .string s.t.pic, .bool s.g] 27)).alloc (.cells #[.int .i64 0, .int .i64 0, .int .i64 0] 42)) (w.heap.size + 1) (.int .i64 0) (.int .i64 0) (.int .i64 0):=by
    simpa using UBox.here (w.alloc (.cells #[.slice a1 s.D.length c1, .slice a2 s.P.length c2, .int .i64 s.t.k, .int .i64 s.t.p, .int .i64 s.t.q, .bool s.t.v, .string s.t.pic, .bool s.g] 27)) (.int .i64 0) (.int .i64 0) (.int .i64 0) 42
  have hB1 : Below w.heap.size w ((w.alloc (.cells #[.slice a1 s.D.length c1, .slice a2 s.P.length c2, .int .i64 s.t.k, .int .i64 s.t.p, .int .i64 s.t.q, .bool s.t.v, .string s.t.pic, .bool s.g] 27)).alloc (.cells #[.int .i64 0, .int .i64 0, .int .i64 0] 42)):=((Below.refl _ w).alloc (Nat.le_refl _) _).alloc (by simp) _
  generalize hMR : mapR s = MR
  have hMH : Hid (mapR s = MR):=hMR
  clear hMR
  go_enter Tryz.func24,Tryz.ntmps24
  go_wp2_with (go_at_call 97; fail)
  refine (hn _ (hB.trans (hB1.mono hB.size))).mono ?_
  rintro e w2 ⟨hwo,hb⟩
  have hub2:=hub.below hb
  have hB2:=hB1.trans (hb.mono hB1.size)
  clear hb hn hub hB1
  obtain ⟨l1,m0,m1,m2,m3,m4,m5⟩:=id hub2
  have key : (∃ er,e = .returned (.tuple #[.pointer none, .int .i64 er]) /\ er ≠ 0 /\ MR = (⟨0, 0, 0⟩,er)) \/ (∃ B u,e = .returned (.tuple #[.pointer (some ⟨B, 0,none⟩), .int .i64 0]) /\ MR = (u, 0) /\ w2.cell? ⟨B, 8,none⟩ = some (.int .i64 u.s) /\ w2.cell? ⟨B, 9,none⟩ = some (.int .i64 u.b) /\ w2.cell? ⟨B, 10,none⟩ = some (.int .i64 u.a)):=by
    have h1:=hMH.out
    unfold WhOk at hwo
    unfold mapR at h1
    cases hv : valS s 0 1
    . rw [hv,if_neg (by simp)] at hwo
      rw [hv] at h1
      exact .inl ⟨_,hwo,by decide,h1.symm⟩
    . rw [hv,if_pos rfl] at hwo
      rw [hv] at h1
      cases hm : mpS s with
      | none =>
        rw [hm] at hwo h1
        exact .inl ⟨_,hwo,by decide,h1.symm⟩
      | some n =>
        rw [hm] at hwo h1
        obtain ⟨B,h,u0,u1,u2, -⟩:=hwo
        exact .inr ⟨B,n.u,h,h1.symm,u0,u1,u2⟩
  clear hwo hMH
  rcases key with ⟨er,rfl,her,rfl⟩ | ⟨B,⟨us,ub,ua⟩,rfl,rfl,u0,u1,u2⟩
  . go_wp2
    refine bodyPost_ret (v:= .tuple #[.agg #[.int .i64 0, .int .i64 0, .int .i64 0], .int .i64 er]) (by rw [results_cell_tmp rfl]; go_simp) rfl ⟨rfl,x0R hB2 (by omega)⟩
  . simp only at u0 u1 u2
    go_wp2
    refine bodyPost_ret (v:= .tuple #[.agg #[.int .i64 us, .int .i64 ub, .int .i64 ua], .int .i64 0]) (by rw [results_cell_tmp rfl]; go_simp) rfl ⟨rfl,x0R hB2 (by omega)⟩
end Go.Proofs
namespace Go.Proofs
open Go.RowKit Go.Yec Go.Shp Go.Deep
noncomputable def x7W (u v : Un) : Un × Int × Int:=open Classical in if x2Z u /\ x2Z v then (if 524288 < (x2L u v).b then (⟨0, 0, 0⟩, 0, 2) else (x2L u v,gapU u v, 0)) else (⟨0, 0, 0⟩, 0, 1)
theorem y3U {k : Nat} {a w w' : World} {o : Obj} (h : Below k a w) (hk : k <= w.heap.size) (e : w' = w.alloc o) : Below k a w':=by subst e; exact h.alloc hk o
set_option maxRecDepth 100000 in
set_option maxHeartbeats 8000000 in
theorem z7Z (u v : Un) (w : World) : Calls Tryz.prog 31 #[unV u,unV v] w fun e w'=>e = .returned (.tuple #[unV (x7W u v).1, .int .i64 (x7W u v).2.1, .int .i64 (x7W u v).2.2]) /\ Below w.heap.size w w':=by
  obtain ⟨s,b,a⟩:=u
  obtain ⟨s',b',a'⟩:=v
  have h1:=fun w=>(y7Z s b a w).mono fun e w' (h : e = .returned (.bool (decide (good s b a))) /\ w' = w.alloc (.cells #[.int .i64 s, .int .i64 b, .int .i64 a] 42))=>(⟨h.1,y3U (Below.refl _ w) (Nat.le_refl _) h.2⟩ : e = .returned (.bool (decide (good s b a))) /\ Below w.heap.size w w')
  have h2:=fun w=>(y7Z s' b' a' w).mono fun e w' (h : e = .returned (.bool (decide (good s' b' a'))) /\ w' = w.alloc (.cells #[.int .i64 s', .int .i64 b', .int .i64 a'] 42))=>(⟨h.1,y3U (Below.refl _ w) (Nat.le_refl _) h.2⟩ : e = .returned (.bool (decide (good s' b' a'))) /\ Below w.heap.size w w')
  have hu1 : UBox (((w.alloc (.cells #[.int .i64 s, .int .i64 b, .int .i64 a] 42)).alloc (.cells #[.int .i64 s', .int .i64 b', .int .i64 a'] 42)).alloc (.cells #[.int .i64 0, .int .i64 0, .int .i64 0] 42)) w.heap.size (.int .i64 s) (.int .i64 b) (.int .i64 a) :=
    ((UBox.here w _ _ _ 42).below ((Below.refl _ _).alloc (Nat.le_refl _) _)).below ((Below.refl _ _).alloc (Nat.le_refl _) _)
  have hu2 : UBox (((w.alloc (.cells #[.int .i64 s, .int .i64 b, .int .i64 a] 42)).alloc (.cells #[.int .i64 s', .int .i64 b', .int .i64 a'] 42)).alloc (.cells #[.int .i64 0, .int .i64 0, .int .i64 0] 42)) (w.heap.size + 1) (.int .i64 s') (.int .i64 b') (.int .i64 a'):=by
    have:=(UBox.here (w.alloc (.cells #[.int .i64 s, .int .i64 b, .int .i64 a] 42)) (.int .i64 s') (.int .i64 b') (.int .i64 a') 42).below ((Below.refl _ _).alloc (Nat.le_refl _) (.cells #[.int .i64 0, .int .i64 0, .int .i64 0] 42))
    simpa using this
  have hu3 : UBox (((w.alloc (.cells #[.int .i64 s, .int .i64 b, .int .i64 a] 42)).alloc (.cells #[.int .i64 s', .int .i64 b', .int .i64 a'] 42)).alloc (.cells #[.int .i64 0, .int .i64 0, .int .i64 0] 42)) (w.heap.size + 2) (.int .i64 0) (.int .i64 0) (.int .i64 0):=by
    have:=UBox.here ((w.alloc (.cells #[.int .i64 s, .int .i64 b, .int .i64 a] 42)).alloc (.cells #[.int .i64 s', .int .i64 b', .int .i64 a'] 42)) (.int .i64 0) (.int .i64 0) (.int .i64 0) 42
    simpa using this
  have hB1 : Below w.heap.size w (((w.alloc (.cells #[.int .i64 s, .int .i64 b, .int .i64 a] 42)).alloc (.cells #[.int .i64 s', .int .i64 b', .int .i64 a'] 42)).alloc (.cells #[.int .i64 0, .int .i64 0, .int .i64 0] 42)):=(((Below.refl _ w).alloc (Nat.le_refl _) _).alloc (by simp) _).alloc (by simp; omega) _
  generalize hJ : x7W ⟨s,b,a⟩ ⟨s',b',a'⟩ = J
  have hJH : Hid (x7W ⟨s,b,a⟩ ⟨s',b',a'⟩ = J):=hJ
  clear hJ
  go_enter Tryz.func31,Tryz.ntmps31
  go_wp2_with (go_at_call 100; fail)
  refine (h1 _).mono ?_
  rintro e w2 ⟨rfl,hb⟩
  have hv1:=hu1.below hb
  have hv2:=hu2.below hb
  have hv3:=hu3.below hb
  have hB2:=hB1.trans (hb.mono hB1.size)
  have hsz:=hB2.size
  clear hb h1 hu1 hu2 hu3 hB1
  obtain ⟨k0,k1,k2,k3,k4,k5,k6⟩:=id hv1
  obtain ⟨l0,l1,l2,l3,l4,l5,l6⟩:=id hv2
  obtain ⟨m0,m1,m2,m3,m4,m5,m6⟩:=id hv3
  by_cases hg : good s b a
  . rw [decide_eq_true hg]
    have hgH : Hid (good s b a):=hg
    clear hg
    go_wp2_with (go_at_call 100; fail)
    refine (h2 _).mono ?_
    rintro e w3 ⟨rfl,hb⟩
    have hv1:=hv1.below hb
    have hv2:=hv2.below hb
    have hv3:=hv3.below hb
    have hB3:=hB2.trans (hb.mono hB2.size)
    have hsz:=hB3.size
    clear hb h2 k0 k1 k2 k3 k4 k5 k6 l0 l1 l2 l3 l4 l5 l6 m0 m1 m2 m3 m4 m5 m6
    obtain ⟨k0,k1,k2,k3,k4,k5,k6⟩:=id hv1
    obtain ⟨l0,l1,l2,l3,l4,l5,l6⟩:=id hv2
    obtain ⟨m0,m1,m2,m3,m4,m5,m6⟩:=id hv3
    by_cases hg2 : good s' b' a'
    . rw [decide_eq_true hg2]
      have hjn:=fun w=>v2A ⟨s,b,a⟩ ⟨s',b',a'⟩ w hgH.out hg2
      have hJ2 : J = if 524288 < (x2L ⟨s,b,a⟩ ⟨s',b',a'⟩).b then (⟨0, 0, 0⟩, 0, 2) else (x2L ⟨s,b,a⟩ ⟨s',b',a'⟩,gapU ⟨s,b,a⟩ ⟨s',b',a'⟩, 0):=by
        rw [<- hJH.out,x7W,if_pos ⟨hgH.out,hg2⟩]
      generalize x2L ⟨s,b,a⟩ ⟨s',b',a'⟩ = U at *
      generalize gapU ⟨s,b,a⟩ ⟨s',b',a'⟩ = G at *
      obtain ⟨us,ub,ua⟩:=U
      simp only at hJ2
      have hJ2H : Hid (J = if 524288 < ub then (⟨0, 0, 0⟩, 0, 2) else (⟨us,ub,ua⟩,G, 0)):=hJ2
      clear hg2 hJ2 hJH
      go_wp2_with (go_at_call 101; fail)
      refine (hjn _).mono ?_
      rintro e w4 ⟨rfl,hb⟩
      have hv3:=hv3.below hb
      have hB4:=hB3.trans (hb.mono hB3.size)
      have hsz4:=hB4.size
      clear hb hjn k0 k1 k2 k3 k4 k5 k6 l0 l1 l2 l3 l4 l5 l6 m0 m1 m2 m3 m4 m5 m6
      obtain ⟨m0,m1,m2,m3,m4,m5,m6⟩:=id hv3
      by_cases hbig : 524288 < ub
      . have hJ3:=hJ2H.out
        rw [if_pos hbig] at hJ3
        subst hJ3
        clear hJ2H
        go_wp2
        refine bodyPost_ret (v:= .tuple #[.agg #[.int .i64 0, .int .i64 0, .int .i64 0], .int .i64 0, .int .i64 2]) (by simp [results,Tryz.results31,go_sem, *]) rfl ⟨rfl,(x0R hB4 (by omega)).alloc (by simp; omega) _⟩
      . have hJ3:=hJ2H.out
        rw [if_neg hbig] at hJ3
        subst hJ3
        clear hJ2H
        go_wp2
        refine bodyPost_ret (v:= .tuple #[.agg #[.int .i64 us, .int .i64 ub, .int .i64 ua], .int .i64 G, .int .i64 0]) (by simp [results,Tryz.results31,go_sem, *]) rfl ⟨rfl,(x0R hB4 (by omega)).alloc (by simp; omega) _⟩
    . have hJ2 : J = (⟨0, 0, 0⟩, 0, 1) := by
        rw [<- hJH.out,x7W,if_neg (fun h=>hg2 h.2)]
      subst hJ2
      rw [decide_eq_false hg2]
      clear hg2 hJH
      go_wp2
      refine bodyPost_ret (v:= .tuple #[.agg #[.int .i64 0, .int .i64 0, .int .i64 0], .int .i64 0, .int .i64 1]) (by simp [results,Tryz.results31,go_sem, *]) rfl ⟨rfl,x0R hB3 (by omega)⟩
  . have hJ2 : J = (⟨0, 0, 0⟩, 0, 1) := by
      rw [<- hJH.out,x7W,if_neg (fun h=>hg h.1)]
    subst hJ2
    rw [decide_eq_false hg]
    clear hg hJH
    go_wp2
    refine bodyPost_ret (v:= .tuple #[.agg #[.int .i64 0, .int .i64 0, .int .i64 0], .int .i64 0, .int .i64 1]) (by simp [results,Tryz.results31,go_sem, *]) rfl ⟨rfl,x0R hB2 (by omega)⟩
set_option maxRecDepth 100000 in
set_option maxHeartbeats 8000000 in
theorem z7V (u v : Un) (w : World) : Calls Tryz.prog 32 #[unV u,unV v] w fun e w'=>e = .returned (.tuple #[unV (x7W u v).1, .int .i64 (x7W u v).2.1, .int .i64 (x7W u v).2.2]) /\ Below w.heap.size w w':=by
  obtain ⟨s,b,a⟩:=u
  obtain ⟨s',b',a'⟩:=v
  have h1:=fun w=>(y8W s b a w).mono fun e w' (h : e = .returned (.bool (decide (good s b a))) /\ w' = w.alloc (.cells #[.int .i64 s, .int .i64 b, .int .i64 a] 42))=>(⟨h.1,y3U (Below.refl _ w) (Nat.le_refl _) h.2⟩ : e = .returned (.bool (decide (good s b a))) /\ Below w.heap.size w w')
  have h2:=fun w=>(y8W s' b' a' w).mono fun e w' (h : e = .returned (.bool (decide (good s' b' a'))) /\ w' = w.alloc (.cells #[.int .i64 s', .int .i64 b', .int .i64 a'] 42))=>(⟨h.1,y3U (Below.refl _ w) (Nat.le_refl _) h.2⟩ : e = .returned (.bool (decide (good s' b' a'))) /\ Below w.heap.size w w')
  have hu1 : UBox (((w.alloc (.cells #[.int .i64 s, .int .i64 b, .int .i64 a] 42)).alloc (.cells #[.int .i64 s', .int .i64 b', .int .i64 a'] 42)).alloc (.cells #[.int .i64 0, .int .i64 0, .int .i64 0] 42)) w.heap.size (.int .i64 s) (.int .i64 b) (.int .i64 a) :=
    ((UBox.here w _ _ _ 42).below ((Below.refl _ _).alloc (Nat.le_refl _) _)).below ((Below.refl _ _).alloc (Nat.le_refl _) _)
  have hu2 : UBox (((w.alloc (.cells #[.int .i64 s, .int .i64 b, .int .i64 a] 42)).alloc (.cells #[.int .i64 s', .int .i64 b', .int .i64 a'] 42)).alloc (.cells #[.int .i64 0, .int .i64 0, .int .i64 0] 42)) (w.heap.size + 1) (.int .i64 s') (.int .i64 b') (.int .i64 a'):=by
    have:=(UBox.here (w.alloc (.cells #[.int .i64 s, .int .i64 b, .int .i64 a] 42)) (.int .i64 s') (.int .i64 b') (.int .i64 a') 42).below ((Below.refl _ _).alloc (Nat.le_refl _) (.cells #[.int .i64 0, .int .i64 0, .int .i64 0] 42))
    simpa using this
  have hu3 : UBox (((w.alloc (.cells #[.int .i64 s, .int .i64 b, .int .i64 a] 42)).alloc (.cells #[.int .i64 s', .int .i64 b', .int .i64 a'] 42)).alloc (.cells #[.int .i64 0, .int .i64 0, .int .i64 0] 42)) (w.heap.size + 2) (.int .i64 0) (.int .i64 0) (.int .i64 0):=by
    have:=UBox.here ((w.alloc (.cells #[.int .i64 s, .int .i64 b, .int .i64 a] 42)).alloc (.cells #[.int .i64 s', .int .i64 b', .int .i64 a'] 42)) (.int .i64 0) (.int .i64 0) (.int .i64 0) 42
    simpa using this
  have hB1 : Below w.heap.size w (((w.alloc (.cells #[.int .i64 s, .int .i64 b, .int .i64 a] 42)).alloc (.cells #[.int .i64 s', .int .i64 b', .int .i64 a'] 42)).alloc (.cells #[.int .i64 0, .int .i64 0, .int .i64 0] 42)):=(((Below.refl _ w).alloc (Nat.le_refl _) _).alloc (by simp) _).alloc (by simp; omega) _
  generalize hJ : x7W ⟨s,b,a⟩ ⟨s',b',a'⟩ = J
  have hJH : Hid (x7W ⟨s,b,a⟩ ⟨s',b',a'⟩ = J):=hJ
  clear hJ
  go_enter Tryz.func32,Tryz.ntmps32
  go_wp2_with (go_at_call 102; fail)
  refine (h1 _).mono ?_
  rintro e w2 ⟨rfl,hb⟩
  have hv1:=hu1.below hb
  have hv2:=hu2.below hb
  have hv3:=hu3.below hb
  have hB2:=hB1.trans (hb.mono hB1.size)
  have hsz:=hB2.size
  clear hb h1 hu1 hu2 hu3 hB1
  obtain ⟨k0,k1,k2,k3,k4,k5,k6⟩:=id hv1
  obtain ⟨l0,l1,l2,l3,l4,l5,l6⟩:=id hv2
  obtain ⟨m0,m1,m2,m3,m4,m5,m6⟩:=id hv3
  by_cases hg : good s b a
  . rw [decide_eq_true hg]
    have hgH : Hid (good s b a):=hg
    clear hg
    go_wp2_with (go_at_call 102; fail)
    refine (h2 _).mono ?_
    rintro e w3 ⟨rfl,hb⟩
    have hv1:=hv1.below hb
    have hv2:=hv2.below hb
    have hv3:=hv3.below hb
    have hB3:=hB2.trans (hb.mono hB2.size)
    have hsz:=hB3.size
    clear hb h2 k0 k1 k2 k3 k4 k5 k6 l0 l1 l2 l3 l4 l5 l6 m0 m1 m2 m3 m4 m5 m6
    obtain ⟨k0,k1,k2,k3,k4,k5,k6⟩:=id hv1
    obtain ⟨l0,l1,l2,l3,l4,l5,l6⟩:=id hv2
    obtain ⟨m0,m1,m2,m3,m4,m5,m6⟩:=id hv3
    by_cases hg2 : good s' b' a'
    . rw [decide_eq_true hg2]
      have hjn:=fun w=>v5B ⟨s,b,a⟩ ⟨s',b',a'⟩ w hgH.out hg2
      have hJ2 : J = if 524288 < (x2L ⟨s,b,a⟩ ⟨s',b',a'⟩).b then (⟨0, 0, 0⟩, 0, 2) else (x2L ⟨s,b,a⟩ ⟨s',b',a'⟩,gapU ⟨s,b,a⟩ ⟨s',b',a'⟩, 0):=by
        rw [<- hJH.out,x7W,if_pos ⟨hgH.out,hg2⟩]
      generalize x2L ⟨s,b,a⟩ ⟨s',b',a'⟩ = U at *
      generalize gapU ⟨s,b,a⟩ ⟨s',b',a'⟩ = G at *
      obtain ⟨us,ub,ua⟩:=U
      simp only at hJ2
      have hJ2H : Hid (J = if 524288 < ub then (⟨0, 0, 0⟩, 0, 2) else (⟨us,ub,ua⟩,G, 0)):=hJ2
      clear hg2 hJ2 hJH
      go_wp2_with (go_at_call 103; fail)
      refine (hjn _).mono ?_
      rintro e w4 ⟨rfl,hb⟩
      have hv3:=hv3.below hb
      have hB4:=hB3.trans (hb.mono hB3.size)
      have hsz4:=hB4.size
      clear hb hjn k0 k1 k2 k3 k4 k5 k6 l0 l1 l2 l3 l4 l5 l6 m0 m1 m2 m3 m4 m5 m6
      obtain ⟨m0,m1,m2,m3,m4,m5,m6⟩:=id hv3
      by_cases hbig : 524288 < ub
      . have hJ3:=hJ2H.out
        rw [if_pos hbig] at hJ3
        subst hJ3
        clear hJ2H
        go_wp2
        refine bodyPost_ret (v:= .tuple #[.agg #[.int .i64 0, .int .i64 0, .int .i64 0], .int .i64 0, .int .i64 2]) (by simp [results,Tryz.results32,go_sem, *]) rfl ⟨rfl,(x0R hB4 (by omega)).alloc (by simp; omega) _⟩
      . have hJ3:=hJ2H.out
        rw [if_neg hbig] at hJ3
        subst hJ3
        clear hJ2H
        go_wp2
        refine bodyPost_ret (v:= .tuple #[.agg #[.int .i64 us, .int .i64 ub, .int .i64 ua], .int .i64 G, .int .i64 0]) (by simp [results,Tryz.results32,go_sem, *]) rfl ⟨rfl,(x0R hB4 (by omega)).alloc (by simp; omega) _⟩
    . have hJ2 : J = (⟨0, 0, 0⟩, 0, 1) := by
        rw [<- hJH.out,x7W,if_neg (fun h=>hg2 h.2)]
      subst hJ2
      rw [decide_eq_false hg2]
      clear hg2 hJH
      go_wp2
      refine bodyPost_ret (v:= .tuple #[.agg #[.int .i64 0, .int .i64 0, .int .i64 0], .int .i64 0, .int .i64 1]) (by simp [results,Tryz.results32,go_sem, *]) rfl ⟨rfl,x0R hB3 (by omega)⟩
  . have hJ2 : J = (⟨0, 0, 0⟩, 0, 1) := by
      rw [<- hJH.out,x7W,if_neg (fun h=>hg h.1)]
    subst hJ2
    rw [decide_eq_false hg]
    clear hg hJH
    go_wp2
    refine bodyPost_ret (v:= .tuple #[.agg #[.int .i64 0, .int .i64 0, .int .i64 0], .int .i64 0, .int .i64 1]) (by simp [results,Tryz.results32,go_sem, *]) rfl ⟨rfl,x0R hB2 (by omega)⟩
end Go.Proofs
namespace Go.Proofs
open Go.RowKit Go.Yec Go.Shp Go.Deep
open Go.Xec (Glob)
theorem u6_keep {w8 w w' : World} {A B C : Nat} {p0 p1 p2 p3 p4 p5 p6 p7 q0 q1 q2 r0 r1 r2 : Value} (hA : A < w8.heap.size) (hB : B < w8.heap.size) (hC : C < w8.heap.size)
    (h : w.cell? ⟨A, 0,none⟩ = some p0 /\ w.cell? ⟨A, 1,none⟩ = some p1 /\ w.cell? ⟨A, 2,none⟩ = some p2 /\ w.cell? ⟨A, 3,none⟩ = some p3 /\ w.cell? ⟨A, 4,none⟩ = some p4 /\ w.cell? ⟨A, 5,none⟩ = some p5 /\ w.cell? ⟨A, 6,none⟩ = some p6 /\ w.cell? ⟨A, 7,none⟩ = some p7 /\ w.cell? ⟨B, 0,none⟩ = some q0 /\ w.cell? ⟨B, 1,none⟩ = some q1 /\ w.cell? ⟨B, 2,none⟩ = some q2 /\ w.cell? ⟨C, 0,none⟩ = some r0 /\ w.cell? ⟨C, 1,none⟩ = some r1 /\ w.cell? ⟨C, 2,none⟩ = some r2 /\ Below w8.heap.size w8 w) (hb : Below w.heap.size w w') :
    w'.cell? ⟨A, 0,none⟩ = some p0 /\ w'.cell? ⟨A, 1,none⟩ = some p1 /\ w'.cell? ⟨A, 2,none⟩ = some p2 /\ w'.cell? ⟨A, 3,none⟩ = some p3 /\ w'.cell? ⟨A, 4,none⟩ = some p4 /\ w'.cell? ⟨A, 5,none⟩ = some p5 /\ w'.cell? ⟨A, 6,none⟩ = some p6 /\ w'.cell? ⟨A, 7,none⟩ = some p7 /\ w'.cell? ⟨B, 0,none⟩ = some q0 /\ w'.cell? ⟨B, 1,none⟩ = some q1 /\ w'.cell? ⟨B, 2,none⟩ = some q2 /\ w'.cell? ⟨C, 0,none⟩ = some r0 /\ w'.cell? ⟨C, 1,none⟩ = some r1 /\ w'.cell? ⟨C, 2,none⟩ = some r2 /\ Below w8.heap.size w8 w':=by
  obtain ⟨a0,a1,a2,a3,a4,a5,a6,a7,b0,b1,b2,c0,c1,c2,h8⟩:=h
  have hs:=h8.size
  have kA:=fun (i : Nat)=>hb.cell (p:=⟨A,i,none⟩) (by simp only; omega)
  have kB:=fun (i : Nat)=>hb.cell (p:=⟨B,i,none⟩) (by simp only; omega)
  have kC:=fun (i : Nat)=>hb.cell (p:=⟨C,i,none⟩) (by simp only; omega)
  exact ⟨(kA 0).trans a0,(kA 1).trans a1,(kA 2).trans a2,(kA 3).trans a3,(kA 4).trans a4,(kA 5).trans a5,(kA 6).trans a6,(kA 7).trans a7,(kB 0).trans b0,(kB 1).trans b1,(kB 2).trans b2,(kC 0).trans c0,(kC 1).trans c1,(kC 2).trans c2,h8.trans (hb.mono hs)⟩
theorem z7E {w8 w : World} {A B C : Nat} {p0 p1 p2 p3 p4 p5 p6 p7 q0 q1 q2 r0 r1 r2 : Value}
    (h : w.cell? ⟨A, 0,none⟩ = some p0 /\ w.cell? ⟨A, 1,none⟩ = some p1 /\ w.cell? ⟨A, 2,none⟩ = some p2 /\ w.cell? ⟨A, 3,none⟩ = some p3 /\ w.cell? ⟨A, 4,none⟩ = some p4 /\ w.cell? ⟨A, 5,none⟩ = some p5 /\ w.cell? ⟨A, 6,none⟩ = some p6 /\ w.cell? ⟨A, 7,none⟩ = some p7 /\ w.cell? ⟨B, 0,none⟩ = some q0 /\ w.cell? ⟨B, 1,none⟩ = some q1 /\ w.cell? ⟨B, 2,none⟩ = some q2 /\ w.cell? ⟨C, 0,none⟩ = some r0 /\ w.cell? ⟨C, 1,none⟩ = some r1 /\ w.cell? ⟨C, 2,none⟩ = some r2 /\ Below w8.heap.size w8 w) : Below w8.heap.size w8 w:=h.2.2.2.2.2.2.2.2.2.2.2.2.2.2
set_option maxRecDepth 100000 in
set_option maxHeartbeats 8000000 in
theorem u9N (s : Sh) (dv pv : Value) (u v : Un) (w : World) (hg : Glob w) (hs : ShAt w dv pv s) :
    Calls Tryz.prog 6 #[shV dv pv s.t s.g,unV u,unV v] w fun e w'=>e = .returned (.bool true) /\ Below w.heap.size w w':=by
  obtain ⟨a1,c1,a2,c2,rfl,rfl⟩:=hs.slices
  obtain ⟨us,ub,ua⟩:=u
  obtain ⟨vs,vb,va⟩:=v
  have hj1:=fun w=>z7Z ⟨us,ub,ua⟩ ⟨vs,vb,va⟩ w
  have hj2:=fun w=>z7V ⟨us,ub,ua⟩ ⟨vs,vb,va⟩ w
  generalize x7W ⟨us,ub,ua⟩ ⟨vs,vb,va⟩ = J at hj1 hj2
  obtain ⟨⟨js,jb,ja⟩,jg,je⟩:=J
  go_enter Tryz.func6,Tryz.ntmps6
  go_wp2_with (go_at_call 14; fail)
  generalize hw1 : ((w.alloc (.cells #[.slice a1 s.D.length c1, .slice a2 s.P.length c2, .int .i64 s.t.k, .int .i64 s.t.p, .int .i64 s.t.q, .bool s.t.v, .string s.t.pic, .bool s.g] 27)).alloc (.cells #[.int .i64 us, .int .i64 ub, .int .i64 ua] 42)).alloc (.cells #[.int .i64 vs, .int .i64 vb, .int .i64 va] 42) = w1
  have hB1 : Below w.heap.size w w1:=by
    rw [<- hw1]
    exact (((Below.refl _ w).alloc (Nat.le_refl _) _).alloc (by simp) _).alloc (by simp; omega) _
  have hx1 : ShBox w1 w.heap.size (.slice a1 s.D.length c1) (.slice a2 s.P.length c2) s.t s.g:=by
    rw [<- hw1]
    exact ((ShBox.here w _ _ _ _).alloc _).alloc _
  have hu1 : UBox w1 (w.heap.size + 1) (.int .i64 us) (.int .i64 ub) (.int .i64 ua):=by
    rw [<- hw1]
    have:=(UBox.here (w.alloc (.cells #[.slice a1 s.D.length c1, .slice a2 s.P.length c2, .int .i64 s.t.k, .int .i64 s.t.p, .int .i64 s.t.q, .bool s.t.v, .string s.t.pic, .bool s.g] 27)) (.int .i64 us) (.int .i64 ub) (.int .i64 ua) 42).below ((Below.refl _ _).alloc (Nat.le_refl _) (.cells #[.int .i64 vs, .int .i64 vb, .int .i64 va] 42))
    simpa using this
  have hv1 : UBox w1 (w.heap.size + 1 + 1) (.int .i64 vs) (.int .i64 vb) (.int .i64 va):=by
    rw [<- hw1]
    have:=UBox.here ((w.alloc (.cells #[.slice a1 s.D.length c1, .slice a2 s.P.length c2, .int .i64 s.t.k, .int .i64 s.t.p, .int .i64 s.t.q, .bool s.t.v, .string s.t.pic, .bool s.g] 27)).alloc (.cells #[.int .i64 us, .int .i64 ub, .int .i64 ua] 42)) (.int .i64 vs) (.int .i64 vb) (.int .i64 va) 42
    simpa using this
  clear hw1
  refine (u1S _ (x1B hB1 hg)).mono ?_
  rintro e w2 ⟨rfl,hb⟩
  have hx2:=hx1.below hb
  have hu2:=hu1.below hb
  have hv2:=hv1.below hb
  have hB2:=hB1.trans (hb.mono hB1.size)
  have hsz2:=hB2.size
  clear hb hx1 hu1 hv1 hB1
  obtain ⟨k0,k1,k2,k3,k4,k5,k6⟩:=id hu2
  obtain ⟨l0,l1,l2,l3,l4,l5,l6⟩:=id hv2
  go_wp2_with (go_at_call 31; fail)
  refine (hj1 _).mono ?_
  rintro e w3 ⟨rfl,hb⟩
  have hx3:=hx2.below hb
  have hu3:=hu2.below hb
  have hv3:=hv2.below hb
  have hB3:=hB2.trans (hb.mono hB2.size)
  have hsz3:=hB3.size
  clear hb hx2 hu2 hv2 hB2 k0 k1 k2 k3 k4 k5 k6 l0 l1 l2 l3 l4 l5 l6 hj1
  obtain ⟨k0,k1,k2,k3,k4,k5,k6⟩:=id hu3
  obtain ⟨l0,l1,l2,l3,l4,l5,l6⟩:=id hv3
  go_wp2_with (go_at_call 32; fail)
  refine (hj2 _).mono ?_
  rintro e w4 ⟨rfl,hb⟩
  have hx4:=(hx3.alloc (.cells #[.int .i64 js, .int .i64 jb, .int .i64 ja] 42)).below hb
  have hq4:=UBox.top hb
  have hB4:=x7C hB3 hsz3 hb
  have hsz4:=hB4.size
  clear hb hx3 hu3 hv3 hB3 k0 k1 k2 k3 k4 k5 k6 l0 l1 l2 l3 l4 l5 l6 hj2
  obtain ⟨k0,k1,k2,k3,k4,k5,k6⟩:=id hq4
  obtain ⟨x0,c0,c1',c2',c3,c4,c5,c6,c7⟩:=id hx4
  have hf:=fun w1 (hB : Below w.heap.size w w1)=>few_any s w1 _ _ 60 (u5E hB hs) (by omega) (by omega)
  go_wp2_with (go_at_call 15; fail)
  refine (hf _ (hB4.alloc hsz4 _)).mono ?_
  rintro e w5 ⟨⟨fw,rfl,hfw⟩,hb⟩
  have hx5:=(hx4.alloc (.cells #[.int .i64 js, .int .i64 jb, .int .i64 ja] 42)).below hb
  have hB5:=x7C hB4 hsz4 hb
  have hsz5:=hB5.size
  clear hb hx4 hq4 hB4 hf k0 k1 k2 k3 k4 k5 k6 c0 c1' c2' c3 c4 c5 c6 c7 x0
  obtain ⟨x0,c0,c1',c2',c3,c4,c5,c6,c7⟩:=id hx5
  cases fw
  . clear hfw
    go_wp2
    go_ret
    exact ⟨rfl,hB5⟩
  . obtain ⟨hok,hct⟩:=hfw rfl
    clear hfw
    have hm1:=fun w1 (hB : Below w.heap.size w w1)=>u5M s w w1 _ _ hg hs hB hok (by omega)
    have hm2:=fun w1 (hB : Below w.heap.size w w1)=>u5H s w w1 _ _ hg hs hB hok (by omega)
    have hc1:=fun w1 (hB : Below w.heap.size w w1)=>z4C s w w1 _ _ hg hs hB hok (by omega)
    have hc2:=fun w1 (hB : Below w.heap.size w w1)=>y1W s w w1 _ _ hg hs hB hok (by omega)
    generalize mapR s = M at hm1 hm2
    obtain ⟨⟨ms,mb,ma⟩,me⟩:=M
    generalize chk s = C at hc1 hc2
    go_wp2_with (go_at_call 24; fail)
    refine (hm1 _ hB5).mono ?_
    rintro e w6 ⟨rfl,hb⟩
    have hx6:=hx5.below hb
    have hB6:=hB5.trans (hb.mono hB5.size)
    have hsz6:=hB6.size
    clear hb hx5 hB5 hm1 c0 c1' c2' c3 c4 c5 c6 c7 x0
    obtain ⟨x0,c0,c1',c2',c3,c4,c5,c6,c7⟩:=id hx6
    go_wp2_with (go_at_call 33; fail)
    refine (hm2 _ (hB6.alloc hsz6 _)).mono ?_
    rintro e w7 ⟨rfl,hb⟩
    have hx7:=(hx6.alloc (.cells #[.int .i64 ms, .int .i64 mb, .int .i64 ma] 42)).below hb
    have hq7:=UBox.top hb
    have hB7:=x7C hB6 hsz6 hb
    have hsz7:=hB7.size
    clear hb hx6 hB6 hm2 c0 c1' c2' c3 c4 c5 c6 c7 x0
    obtain ⟨x0,c0,c1',c2',c3,c4,c5,c6,c7⟩:=id hx7
    obtain ⟨k0,k1,k2,k3,k4,k5,k6⟩:=id hq7
    have hx8:=hx7.alloc (.cells #[.int .i64 ms, .int .i64 mb, .int .i64 ma] 42)
    have hq8:=hq7.below ((Below.refl _ w7).alloc (Nat.le_refl _) (.cells #[.int .i64 ms, .int .i64 mb, .int .i64 ma] 42))
    have hr8:=UBox.here w7 (.int .i64 ms) (.int .i64 mb) (.int .i64 ma) 42
    have hB8:=hB7.alloc hsz7 (.cells #[.int .i64 ms, .int .i64 mb, .int .i64 ma] 42)
    go_wp2
    generalize hw8 : w7.alloc (.cells #[.int .i64 ms, .int .i64 mb, .int .i64 ma] 42) = w8 at *
    clear hw8 hx7 hq7 c0 c1' c2' c3 c4 c5 c6 c7 x0 k0 k1 k2 k3 k4 k5 k6
    obtain ⟨x0,c0,c1',c2',c3,c4,c5,c6,c7⟩:=id hx8
    obtain ⟨k0,k1,k2,k3, -, -, -⟩:=id hq8
    obtain ⟨l0,l1,l2,l3, -, -, -⟩:=id hr8
    have hk1:=fun w1 (h : Below w8.heap.size w8 w1)=>hc1 w1 (hB8.trans (h.mono hB8.size))
    have hk2:=fun w1 (h : Below w8.heap.size w8 w1)=>hc2 w1 (hB8.trans (h.mono hB8.size))
    clear hc1 hc2
    go_region_held3 (fun w' => w'.cell? ⟨w.heap.size, 0, none⟩ = some (.slice a1 s.D.length c1) /\ w'.cell? ⟨w.heap.size, 1, none⟩ = some (.slice a2 s.P.length c2) /\ w'.cell? ⟨w.heap.size, 2, none⟩ = some (.int .i64 s.t.k) /\ w'.cell? ⟨w.heap.size, 3, none⟩ = some (.int .i64 s.t.p) /\ w'.cell? ⟨w.heap.size, 4, none⟩ = some (.int .i64 s.t.q) /\ w'.cell? ⟨w.heap.size, 5, none⟩ = some (.bool s.t.v) /\ w'.cell? ⟨w.heap.size, 6, none⟩ = some (.string s.t.pic) /\ w'.cell? ⟨w.heap.size, 7, none⟩ = some (.bool s.g) /\
        w'.cell? ⟨w6.heap.size, 0,none⟩ = some (.int .i64 ms) /\ w'.cell? ⟨w6.heap.size, 1,none⟩ = some (.int .i64 mb) /\ w'.cell? ⟨w6.heap.size, 2,none⟩ = some (.int .i64 ma) /\ w'.cell? ⟨w7.heap.size, 0,none⟩ = some (.int .i64 ms) /\ w'.cell? ⟨w7.heap.size, 1,none⟩ = some (.int .i64 mb) /\ w'.cell? ⟨w7.heap.size, 2,none⟩ = some (.int .i64 ma) /\ Below w8.heap.size w8 w')
      (first
        | assumption
        | exact ⟨c0,c1',c2',c3,c4,c5,c6,c7,k1,k2,k3,l1,l2,l3,(Below.refl _ _).drew⟩
        | exact u6_keep x0 k0 l0 ‹_› ‹_›)
      (first
        | (go_at_call 34; refine (hk1 _ (z7E ‹_›)).mono ?_; rintro e w' ⟨rfl,hbb⟩)
        | (go_at_call 23; refine (hk2 _ (z7E ‹_›)).mono ?_; rintro e w' ⟨rfl,hbb⟩))
    have hlst:=z7E ‹_›
    go_wp2
    go_ret
    exact ⟨by simp,hB8.trans (hlst.mono hB8.size)⟩
end Go.Proofs
