/-
  whole, Check, Map of the layout, walked.; Find of the layout, walked.
-/
import Derived.Test.YtadehgdfijjikaaGreatDoorS9
import Derived.Test.YtadehgdfijjikaaGreatDoorS8
set_option linter.all false
namespace Go.Proofs
open Go.RowKit Go.Yec Go.Shp Go.Deep
open Go.Xec (Glob)
theorem map_any : ∀ (s : Sh) (W : World) (dm lv : Int),Glob W -> okS s -> 0 <= dm -> valS s dm lv = true -> ∀ (w : World) (dv pv : Value),ShAt W dv pv s -> Below W.heap.size W w ->
    Calls Tryz.prog 149 #[shV dv pv s.t s.g] w fun e w'=>MpOk W s w w' e (mpS s) /\ Below w.heap.size w w':=by
  intro s
  induction s using Sh.ind with
  | h D P t g ih =>
    intro W dm lv hG hok hd0 hv w dv pv hs hB;obtain ⟨h3,hlv,hd,ht,hP⟩:=x4E hv;obtain ⟨hl10,hP100,hpic,hokP⟩:=hok;exact map_one D P t g W w dv pv hG hs hB hpic hP100 hd (by omega) (fun h=>(ht h).1)
      (fun s hs' w dv pv hsh hBw=>ih s hs' W _ _ hG (x6Z hokP s hs') (by omega) (hP s hs') w dv pv hsh hBw)
      (fun s hs' n hn=>x8K s _ _ (hP s hs') n hn)
def WhOk (w w' : World) (s : Sh) (e : Ending) : Prop :=
  if valS s 0 1 = true then (match mpS s with
    | none=>e = .returned (.tuple #[.pointer none, .int .i64 2])
    | some n=> ∃ B,e = .returned (.tuple #[.pointer (some ⟨B, 0,none⟩), .int .i64 0]) /\ w'.cell? ⟨B, 8,none⟩ = some (.int .i64 n.u.s) /\ w'.cell? ⟨B, 9,none⟩ = some (.int .i64 n.u.b) /\ w'.cell? ⟨B, 10,none⟩ = some (.int .i64 n.u.a) /\ x2P (fun b=>b < w'.heap.size) w' B s n)
  else e = .returned (.tuple #[.pointer none, .int .i64 90])
set_option maxRecDepth 100000 in
set_option maxHeartbeats 4000000 in
theorem z4M (s : Sh) (W w : World) (dv pv : Value) (hG : Glob W) (hs : ShAt W dv pv s) (hB : Below W.heap.size W w) (hok : okS s) (hct : scnt s <= 100) :
    Calls Tryz.prog 97 #[shV dv pv s.t s.g] w fun e w'=>WhOk w w' s e /\ Below w.heap.size w w':=by
  have hn:=fun w hB=>v1Q s W w dv pv hG hs hB hok hct;have hu:=fun hv w hB=>map_any s W 0 1 hG hok (by omega) hv w dv pv hs hB
  obtain ⟨a1,c1,a2,c2,rfl,rfl⟩:=hs.slices;have hx:=ShBox.here w (.slice a1 s.D.length c1) (.slice a2 s.P.length c2) s.t s.g;have hB1 : Below w.heap.size w (w.alloc (.cells #[.slice a1 s.D.length c1, .slice a2 s.P.length c2, .int .i64 s.t.k, .int .i64 s.t.p, .int .i64 s.t.q, .bool s.t.v, .string s.t.pic, .bool s.g] 27)):=(Below.refl _ w).alloc (Nat.le_refl _) _;go_enter Tryz.func97,Tryz.ntmps97
  go_wp2_with (go_at_call 148; fail)
  refine (hn _ (hB.trans (hB1.mono hB.size))).mono ?_;rintro e w2 ⟨rfl,hb⟩;have hx2:=hx.below hb;have hB2:=hB1.trans (hb.mono hB1.size);clear hb hn hx;obtain ⟨l0,k0,k1,k2,k3,k4,k5,k6,k7⟩:=id hx2
  by_cases hv : valS s 0 1 = true
  . have hu':=fun w hB=>hu hv w hB;have hvH : Hid (valS s 0 1 = true):=hv;clear hu
    go_wp2_with (go_at_call 149; fail)
    refine (hu' _ (hB.trans (hB2.mono hB.size))).mono ?_;rintro e w3 ⟨huo,hb⟩;have hB3:=hB2.trans (hb.mono hB2.size);clear hb hu' k0 k1 k2 k3 k4 k5 k6 k7 hv;cases hm : mpS s with
    | none =>
      rw [hm] at huo;obtain rfl:=huo;have hmH : Hid (mpS s = none):=hm;clear hm;go_wp2
      go_ret2
      exact ⟨by unfold WhOk; rw [if_pos hvH.out,hmH.out]; rfl,hB3⟩
    | some n =>
      rw [hm] at huo;obtain ⟨B,rfl,hB0,u0,u1,u2,hnd⟩:=huo;have hnd' : x2P (fun b=>b < w3.heap.size) w3 B s n:=x5V (fun b h=>by have:=hB.size; have:=hB3.size; omega) (KeepS.refl _ _) hnd
      clear hnd;have hmH : Hid (mpS s = some n):=hm;clear hm;go_wp2
      go_ret2
      exact ⟨by unfold WhOk; rw [if_pos hvH.out,hmH.out]; exact ⟨B,rfl,u0,u1,u2,hnd'⟩,hB3⟩
  . have hvf : valS s 0 1 = false:=by simpa using hv
    have hvH : Hid (¬ valS s 0 1 = true):=hv;clear hv hu;go_wp2
    go_ret2
    exact ⟨by unfold WhOk; rw [if_neg hvH.out]; rfl,hB2⟩
set_option maxRecDepth 100000 in
set_option maxHeartbeats 4000000 in
theorem y1Z (s : Sh) (W w : World) (dv pv : Value) (hG : Glob W) (hs : ShAt W dv pv s) (hB : Below W.heap.size W w) (hok : okS s) (hct : scnt s <= 100) :
    Calls Tryz.prog 24 #[shV dv pv s.t s.g] w fun e w'=>e = .returned (.tuple #[unV (mapR s).1, .int .i64 (mapR s).2]) /\ Below w.heap.size w w':=by
  have hn:=fun w hB=>z4M s W w dv pv hG hs hB hok hct;obtain ⟨a1,c1,a2,c2,rfl,rfl⟩:=hs.slices;have hub : UBox ((w.alloc (.cells #[.slice a1 s.D.length c1, .slice a2 s.P.length c2, .int .i64 s.t.k, .int .i64 s.t.p, .int .i64 s.t.q, .bool s.t.v, .string s.t.pic, .bool s.g] 27)).alloc (.cells #[.int .i64 0, .int .i64 0, .int .i64 0] 42)) (w.heap.size + 1) (.int .i64 0) (.int .i64 0) (.int .i64 0):=by
    simpa using UBox.here (w.alloc (.cells #[.slice a1 s.D.length c1, .slice a2 s.P.length c2, .int .i64 s.t.k, .int .i64 s.t.p, .int .i64 s.t.q, .bool s.t.v, .string s.t.pic, .bool s.g] 27)) (.int .i64 0) (.int .i64 0) (.int .i64 0) 42
  have hB1 : Below w.heap.size w ((w.alloc (.cells #[.slice a1 s.D.length c1, .slice a2 s.P.length c2, .int .i64 s.t.k, .int .i64 s.t.p, .int .i64 s.t.q, .bool s.t.v, .string s.t.pic, .bool s.g] 27)).alloc (.cells #[.int .i64 0, .int .i64 0, .int .i64 0] 42)):=((Below.refl _ w).alloc (Nat.le_refl _) _).alloc (by simp) _
  generalize hMR : mapR s = MR;have hMH : Hid (mapR s = MR):=hMR;clear hMR;go_enter Tryz.func24,Tryz.ntmps24
  go_wp2_with (go_at_call 97; fail)
  refine (hn _ (hB.trans (hB1.mono hB.size))).mono ?_;rintro e w2 ⟨hwo,hb⟩;have hub2:=hub.below hb;have hB2:=hB1.trans (hb.mono hB1.size);clear hb hn hub hB1;obtain ⟨l1,m0,m1,m2,m3,m4,m5⟩:=id hub2;have key : (∃ er,e = .returned (.tuple #[.pointer none, .int .i64 er]) /\ er ≠ 0 /\ MR = (⟨0, 0, 0⟩,er)) \/ (∃ B u,e = .returned (.tuple #[.pointer (some ⟨B, 0,none⟩), .int .i64 0]) /\ MR = (u, 0) /\ w2.cell? ⟨B, 8,none⟩ = some (.int .i64 u.s) /\ w2.cell? ⟨B, 9,none⟩ = some (.int .i64 u.b) /\ w2.cell? ⟨B, 10,none⟩ = some (.int .i64 u.a)):=by
    have h1:=hMH.out;unfold WhOk at hwo;unfold mapR at h1;cases hv : valS s 0 1
    . rw [hv,if_neg (by simp)] at hwo
      rw [hv] at h1;exact .inl ⟨_,hwo,by decide,h1.symm⟩
    . rw [hv,if_pos rfl] at hwo;rw [hv] at h1;cases hm : mpS s with
      | none =>
        rw [hm] at hwo h1;exact .inl ⟨_,hwo,by decide,h1.symm⟩
      | some n =>
        rw [hm] at hwo h1;obtain ⟨B,h,u0,u1,u2, -⟩:=hwo;exact .inr ⟨B,n.u,h,h1.symm,u0,u1,u2⟩
  clear hwo hMH;rcases key with ⟨er,rfl,her,rfl⟩ | ⟨B,⟨us,ub,ua⟩,rfl,rfl,u0,u1,u2⟩
  . go_wp2;refine bodyPost_ret (v:= .tuple #[.agg #[.int .i64 0, .int .i64 0, .int .i64 0], .int .i64 er]) (by rw [results_cell_tmp rfl]; go_simp) rfl ⟨rfl,x1R hB2 (by omega)⟩
  . simp only at u0 u1 u2;go_wp2;refine bodyPost_ret (v:= .tuple #[.agg #[.int .i64 us, .int .i64 ub, .int .i64 ua], .int .i64 0]) (by rw [results_cell_tmp rfl]; go_simp) rfl ⟨rfl,x1R hB2 (by omega)⟩
end Go.Proofs
namespace Go.Proofs
open Go.RowKit Go.Yec Go.Shp Go.Deep
open Go.Xec (Glob)
theorem PlS.zero (S : Nat -> Prop) (w : World) : PlS S w (plV (.slice none 0 0) (.slice none 0 0) 0 0 ty00) pl00 :=
  ⟨_,_,rfl,⟨none, 0,rfl,fun _=>rfl,fun h=>absurd rfl h,fun _ _ h=>by cases h⟩,StepsS.nil S w⟩
theorem PlS.parts {S : Nat -> Prop} {w : World} {x : Value} {p : Pl} (h : PlS S w x p) : ∃ a c a' c',x = plV (.slice a p.path.length c) (.slice a' p.st.length c') p.off p.b p.t /\ x7R S w (.slice a p.path.length c) p.path /\ StepsS S w (.slice a' p.st.length c') p.st:=by
  obtain ⟨pv,sv,rfl,h1,h2⟩:=h;obtain ⟨a,c,rfl, -⟩:=id h1;obtain ⟨a',c',rfl⟩:=h2.form;exact ⟨a,c,a',c',rfl,h1,h2⟩
set_option maxRecDepth 100000 in
set_option maxHeartbeats 8000000 in
theorem y5X (s : Sh) (W w : World) (dv pv qv : Value) (path : List Int) (hG : Glob W) (hs : ShAt W dv pv s) (hB : Below W.heap.size W w) (hok : okS s) (hct : scnt s <= 100) (hP : IntsAt w qv path) (hL : path.length <= 200) :
    Calls Tryz.prog 36 #[shV dv pv s.t s.g,qv] w fun e w'=>(∃ x,e = .returned (.tuple #[x, .int .i64 (fndR s path).2]) /\ PlS (fun b=>w.heap.size <= b /\ b < w'.heap.size) w' x (fndR s path).1) /\ Below w.heap.size w w':=by
  have hn:=fun w hB=>z4M s W w dv pv hG hs hB hok hct;obtain ⟨a1,c1,a2,c2,rfl,rfl⟩:=hs.slices;obtain ⟨qa,qc,rfl⟩:=hP.form;obtain ⟨FR,hFR⟩ : ∃ FR,fndR s path = FR:=⟨_,rfl⟩;rw [hFR];have hFRH : Hid (fndR s path = FR):=hFR;clear hFR;go_enter Tryz.func36,Tryz.ntmps36
  go_wp2_with (go_at_call 97; fail)
  generalize hw1 : (w.alloc (.cells #[.slice a1 s.D.length c1, .slice a2 s.P.length c2, .int .i64 s.t.k, .int .i64 s.t.p, .int .i64 s.t.q, .bool s.t.v, .string s.t.pic, .bool s.g] 27)).alloc (.cells #[.slice none 0 0, .int .i64 0, .slice none 0 0, .int .i64 0, .int .i64 0, .int .i64 0, .int .i64 0, .bool false, .string ⟨#[]⟩] 50) = w1;have hB1 : Below w.heap.size w w1:=by
    rw [<- hw1];exact ((Below.refl _ w).alloc (Nat.le_refl _) _).alloc (by simp) _
  have hx1 : NB w1 (w.heap.size + 1) (plC (.slice none 0 0) (.slice none 0 0) 0 0 ty00) 50:=by
    rw [<- hw1]
    have:=NB.here (w.alloc (.cells #[.slice a1 s.D.length c1, .slice a2 s.P.length c2, .int .i64 s.t.k, .int .i64 s.t.p, .int .i64 s.t.q, .bool s.t.v, .string s.t.pic, .bool s.g] 27)) (plC (.slice none 0 0) (.slice none 0 0) 0 0 ty00) 50
    simp only [World.size_alloc] at this;exact this
  clear hw1;refine (hn _ (hB.trans (hB1.mono hB.size))).mono ?_;rintro e w2 ⟨hwo,hb⟩;have hx2:=hx1.below hb;have hB2:=hB1.trans (hb.mono hB1.size);have hP2:=hP.below hB2;have hsz2:=hB2.size;have hlt2:=hx2.lt;clear hb hn hx1;have key : (∃ er,e = .returned (.tuple #[.pointer none, .int .i64 er]) /\ er ≠ 0 /\ FR = (pl00,er)) \/ (∃ B n,e = .returned (.tuple #[.pointer (some ⟨B, 0,none⟩), .int .i64 0]) /\ x2P (fun b=>b < w2.heap.size) w2 B s n /\ mpS s = some n /\ valS s 0 1 = true /\ FR = (match fnd path s n n.u.s (stpN s n) with | some (s',n',off,st)=>(plc s' n' path off st, 0) | none=>(pl00, 91))):=by
    have h1:=hFRH.out;unfold WhOk at hwo;unfold fndR at h1;cases hv : valS s 0 1
    . rw [hv,if_neg (by simp)] at hwo
      rw [hv] at h1;exact .inl ⟨_,hwo,by decide,h1.symm⟩
    . rw [hv,if_pos rfl] at hwo;rw [hv] at h1;cases hm : mpS s with
      | none =>
        rw [hm] at hwo h1;exact .inl ⟨_,hwo,by decide,h1.symm⟩
      | some n =>
        rw [hm] at hwo h1;obtain ⟨B,h,u0,u1,u2,hnd⟩:=hwo;exact .inr ⟨B,n,h,hnd,rfl,rfl,h1.symm⟩
  clear hwo hFRH;obtain ⟨z0,z1,z2,z3,z4,z5,z6,z7,z8,zf⟩:=x2W hx2;rcases key with ⟨er,rfl,her,rfl⟩ | ⟨B,n,rfl,hN,hm,hv,hFR⟩
  . go_wp2;refine bodyPost_ret (v:= .tuple #[plV (.slice none 0 0) (.slice none 0 0) 0 0 ty00, .int .i64 er]) (by rw [results_cell_tmp rfl]; go_simp; exact ⟨rfl,rfl,rfl,rfl,rfl⟩) rfl ⟨⟨_,rfl,PlS.zero _ _⟩,x2C hB2 (by omega)⟩
  . have hfn:=find_any s n B w2 w2 (.slice qa path.length qc) path hN hm hv hok (Below.refl _ _) hP2 hL;generalize fnd path s n n.u.s (stpN s n) = F at hfn hFR;clear hN hm hv
    go_wp2_with (go_at_call 104; fail)
    refine hfn.mono ?_;rintro e w3 ⟨hfo,hb⟩;have hx3:=hx2.below hb;have hB3:=hB2.trans (hb.mono hB2.size);have hsz3:=hb.size;have hlt3 : w.heap.size + 1 < w3.heap.size:=hx3.lt;have hne3 : ¬ w.heap.size + 1 = w3.heap.size:=by omega
    have hne4 : ¬ w3.heap.size = w.heap.size + 1:=by omega
    clear hb hfn z0 z1 z2 z3 z4 z5 z6 z7 z8 zf;have hx4:=hx3.alloc (.cells (plC (.slice none 0 0) (.slice none 0 0) 0 0 ty00) 50);obtain ⟨z0,z1,z2,z3,z4,z5,z6,z7,z8,zf⟩:=x2W hx3;cases F with
    | none =>
      obtain rfl:=hfo;subst hFR;go_wp2;refine bodyPost_ret (v:= .tuple #[plV (.slice none 0 0) (.slice none 0 0) 0 0 ty00, .int .i64 91]) (by rw [results_cell_tmp rfl]; go_simp; exact ⟨rfl,rfl,rfl,rfl,rfl⟩) rfl ⟨⟨_,rfl,PlS.zero _ _⟩,(x2C hB3 (by omega)).alloc (x2C hB3 (by omega)).size _⟩
    | some R =>
      obtain ⟨s',n',off,st⟩:=R;obtain ⟨x,rfl,hx⟩:=hfo;simp only at hFR;obtain ⟨p,hp⟩ : ∃ p,plc s' n' path off st = p:=⟨_,rfl⟩;rw [hp] at hx hFR;subst hFR;clear hp;obtain ⟨a,c,a',c',rfl,hi,hst⟩:=hx.parts;obtain ⟨pp,po,ps,pb,pt⟩:=p;simp only at hi hst;clear hx;go_wp2;refine bodyPost_ret (v:= .tuple #[plV (.slice a pp.length c) (.slice a' ps.length c') po pb pt, .int .i64 0]) (by rw [results_cell_tmp rfl]; go_simp) rfl ⟨⟨_,rfl, ?_⟩,(x2C hB3 (by omega)).alloc (x2C hB3 (by omega)).size _⟩
      have hk8:=x8M (B:=w.heap.size + 1) (y0:= .slice a pp.length c) (y1:= .int .i64 po) (y2:= .slice a' ps.length c') (y3:= .int .i64 pb) (y4:= .int .i64 pt.k) (y5:= .int .i64 pt.p) (y6:= .int .i64 pt.q) (y7:= .bool pt.v) (y8:= .string pt.pic) (KeepS.refl (fun b=>w2.heap.size <= b /\ b < w3.heap.size) w3) (fun h=>by omega)
      have hk9:=hk8.alloc (fun b h=>Nat.lt_of_lt_of_le h.2 hk8.1) (.cells #[.slice a pp.length c, .int .i64 po, .slice a' ps.length c', .int .i64 pb, .int .i64 pt.k, .int .i64 pt.p, .int .i64 pt.q, .bool pt.v, .string pt.pic] 50);have h9:=hk9.1;exact ⟨_,_,rfl,x1W (fun b h=>by omega) hk9 hi,x1G (fun b h=>by omega) hk9 hst⟩
end Go.Proofs
