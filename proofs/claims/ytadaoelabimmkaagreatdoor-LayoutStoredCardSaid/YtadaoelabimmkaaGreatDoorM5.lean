/-
  LayoutStored: what the types' functions and the memory's do, as the law wants it.; LayoutClones: Same of a memory and of one with a bit changed.; LayoutStored, walked.
-/
import Derived.Test.YtadaoelabimmkaaGreatDoorM4
import Derived.Test.YtadaoelabimmkaaGreatDoorT3
import Derived.Test.YtadaoelabimmkaaGreatDoorZ10
import Derived.Test.YtadaoelabimmkaaGreatDoorM3
set_option linter.all false
namespace Go.Proofs.YtadaoelabimmkaaGreatDoor
open Go.RowKit Go.Yec Go.Proofs
open Go.Xec (Glob)
variable {k p q n x y : Int} {v : Bool} {s u : ByteArray} {f : Nat -> Int}
theorem c62 (h : y2T k p q v s n u = true) (w : World) (hg : Glob w) : Calls Tryz.prog 62 #[tyV k p q v s] w fun e w'=>e = .returned (.bool true) /\ Below w.heap.size w w':=by
  obtain ⟨h1,h2,h3,h4⟩:=z3W h
  have e62 : F_62 6100 k p q v s.data.toList = some true:=by
    unfold F_62
    rw [y5W (by omega) (by omega),h2,decide_eq_false h3]; rfl
  exact (x4Q (D:=Unit) (V:=V0) z8E x1Z x1Y (x8Q (y7V z8F 6100) (args:=[tyP k p q v s]) rfl e62) (xs:=[tyV k p q v s]) (.cons _ _ _ _ y3P .nil) rfl (fun _ _ _ _ h=>h.bool_of) rfl w hg).mono fun _ _ h=>x6E h
theorem c25_any (h : y2T k p q v s n u = true) {t : List UInt8} (ht : BitL t) (hlen : ((encS k p v n u.data.toList ++ t).length : Int) = szS k p q v s.data.toList) (w : World) (hg : Glob w) :
    Calls Tryz.prog 25 #[tyV k p q v s, .string ⟨(encS k p v n u.data.toList ++ t).toArray⟩] w fun e w'=>e = .returned (.tuple #[vaV n u, .int .i64 0]) /\ Below w.heap.size w w':=by
  obtain ⟨h1,h2,h3,h4⟩:=z3W h
  have hd:=dec_any (N:= 6100) ht (by omega) (by omega) h2 h3 h4 hlen
  exact (x4Q (D:=Unit) (V:=V0) z8E x1Z x1Y (x8Q (v9Z z8F 6100) (args:=[tyP k p q v s, .str (encS k p v n u.data.toList ++ t)]) rfl hd) (xs:=[tyV k p q v s, .string ⟨(encS k p v n u.data.toList ++ t).toArray⟩]) (.cons _ _ _ _ y3P (.cons _ _ _ _ (.str ⟨(encS k p v n u.data.toList ++ t).toArray⟩) .nil)) rfl (fun _ _ _ _ h=>rep_dec h) rfl w hg).mono fun _ _ h=>x6E h
theorem v8C (hc : ∀ j,j < 65536 -> 0 <= f j /\ f j <= 255) {N : Nat} (x0 : 0 <= x) (x1 : x + N <= 524288) : BitL (getL f x N):=by
  intro b hb
  unfold getL at hb
  obtain ⟨j,hj,rfl⟩:=List.mem_map.1 hb
  rw [List.mem_range] at hj
  have h:=hc ((x + j) / 8).toNat (by omega)
  rcases (u0P (x:=x + j) h.1 h.2).2 with h | h
  . rw [h.1]; exact .inl rfl
  . rw [h.1]; exact .inr rfl
theorem getL_set (hc : ∀ j,j < 65536 -> 0 <= f j /\ f j <= 255) {l : List UInt8} (hl : ∀ b ∈ l,b = 48 \/ b = 49) {N : Nat} (hN : l.length <= N) (x0 : 0 <= x) (x1 : x + N <= 524288) :
    getL (setF f x l l.length) x N = l ++ (getL (setF f x l l.length) x N).drop l.length:=by
  have ht : (getL (setF f x l l.length) x N).take l.length = l:=by
    apply List.ext_getElem?
    intro j
    rw [List.getElem?_take]
    by_cases hj : j < l.length
    . rw [if_pos hj]
      unfold getL
      rw [List.getElem?_map,List.getElem?_range (by omega)]
      have:=u1U (y:=x + j) hc l hl x0 (by omega) (by omega) l.length (Nat.le_refl _)
      rw [if_pos (by omega),show (x + (j : Int) - x).toNat = j by omega] at this
      show some (UInt8.ofNat (chOf (setF f x l l.length ((x + j) / 8).toNat) (x + j)).toNat) = _
      rw [this,Int.toNat_natCast,UInt8.ofNat_toNat,List.getD_eq_getElem?_getD,List.getElem?_eq_getElem hj]
      rfl
    . rw [if_neg hj,List.getElem?_eq_none (by omega)]
  exact (List.take_append_drop l.length _).symm.trans (congrArg (· ++ _) ht)
theorem v0A {Z : Int} (h : z4R k x Z = 0) : 0 <= x /\ 0 <= Z /\ x <= 524288 /\ Z <= 524288 - x:=by
  unfold z4R at h
  cases hf : (decide (0 <= x) && decide (0 <= Z) && decide (x <= 524288) && decide (Z <= 524288 - x))
  . rw [hf] at h; exact absurd (show (8091 : Int) = 0 from h) (by decide)
  . simp only [Bool.and_eq_true, decide_eq_true_eq, and_assoc] at hf
    exact hf
theorem w0W {Z r : Int} (h : z4R k x Z = r) (h0 : ¬ r = 0) : r = 8091 \/ r = 8095:=by
  unfold z4R at h
  cases hf : (decide (0 <= x) && decide (0 <= Z) && decide (x <= 524288) && decide (Z <= 524288 - x))
  . rw [hf] at h; exact .inl h.symm
  . rw [hf] at h
    cases hq : (!(decide (k = 4)) && !(decide (x.tmod 8 = 0)))
    . rw [hq] at h; exact absurd h.symm h0
    . rw [hq] at h; exact .inr h.symm
def Box2 (A : Nat) (k p q : Int) (v : Bool) (s : ByteArray) (n : Int) (u : ByteArray) (w : World) : Prop :=
  w.cell? ⟨A, 0,none⟩ = some (.int .i64 k) /\ w.cell? ⟨A, 1,none⟩ = some (.int .i64 p) /\ w.cell? ⟨A, 2,none⟩ = some (.int .i64 q) /\ w.cell? ⟨A, 3,none⟩ = some (.bool v) /\ w.cell? ⟨A, 4,none⟩ = some (.string s) /\ w.cell? ⟨A + 1, 0,none⟩ = some (.int .i64 n) /\ w.cell? ⟨A + 1, 1,none⟩ = some (.string u) /\ A + 1 < w.heap.size
theorem Box2.to {A : Nat} {w w' : World} (h : Box2 A k p q v s n u w) (h1 : w'.heap[A]? = w.heap[A]?) (h2 : w'.heap[A + 1]? = w.heap[A + 1]?) (hz : w.heap.size <= w'.heap.size) : Box2 A k p q v s n u w':=by
  obtain ⟨a0,a1,a2,a3,a4,b0,b1,z⟩:=h
  have c:=fun i=>World.cell?_of_block (w:=w) (w':=w') (a:=⟨A,i,none⟩) h1
  have d:=fun i=>World.cell?_of_block (w:=w) (w':=w') (a:=⟨A + 1,i,none⟩) h2
  exact ⟨(c 0).trans a0,(c 1).trans a1,(c 2).trans a2,(c 3).trans a3,(c 4).trans a4,(d 0).trans b0,(d 1).trans b1,by omega⟩
theorem Box2.keep {A : Nat} {w w' : World} (h : Box2 A k p q v s n u w) (hb : Below w.heap.size w w') : Box2 A k p q v s n u w':=by
  have z:=h.2.2.2.2.2.2.2
  exact h.to (hb.block A (by omega)) (hb.block (A + 1) z) hb.size
theorem Box2.but {A B : Nat} {w w' : World} (h : Box2 A k p q v s n u w) (hb : ButB B w w') (hn : A + 1 < B) : Box2 A k p q v s n u w' :=
  h.to (hb.block A (by omega)) (hb.block (A + 1) (by omega)) (by rw [hb.size]; exact Nat.le_refl _)
theorem ButB.below {B A : Nat} {w0 w w' : World} (h : Below A w0 w) (hb : ButB B w w') (hA : A <= B) : Below A w0 w' :=
  h.trans ⟨hb.os,hb.tape,hb.output,by rw [hb.size]; exact Nat.le_refl _,fun i hi=>hb.block i (by omega)⟩
end Go.Proofs.YtadaoelabimmkaaGreatDoor
namespace Go.Proofs.YtadaoelabimmkaaGreatDoor
open Go.RowKit
open Go.Xec (Glob)
variable {B B' : Nat} {c d : Array Value} {f : Nat -> Int} {x : Int} {one : Bool}
theorem bs_zero : Bs Tryz.zeroCells130 (fun _=> 0):=by
  rw [v1E]
  exact ⟨Array.size_replicate,fun i hi=>by rw [Array.getElem?_replicate,if_pos hi],fun _ _=>by decide,fun _ _=>by decide⟩
end Go.Proofs.YtadaoelabimmkaaGreatDoor
namespace Go.Proofs.YtadaoelabimmkaaGreatDoor
open Go.RowKit Go.Yec Go.Proofs
open Go.Xec (Glob)
set_option maxRecDepth 100000 in
set_option maxHeartbeats 4000000 in
theorem v1J (k p q n x wh : Int) (v : Bool) (s u t : ByteArray) (w : World) (hg : Glob w) :
    Calls Tryz.prog 7 #[tyV k p q v s,vaV n u, .int .i64 x, .string t, .int .i64 wh] w fun e w'=>e = .returned (.bool true) /\ Below w.heap.size w w':=by
  have hB : Below w.heap.size w ((w.alloc (.cells #[.int .i64 k, .int .i64 p, .int .i64 q, .bool v, .string s] 33)).alloc (.cells #[.int .i64 n, .string u] 35)):=((Below.refl _ w).alloc (Nat.le_refl _) _).alloc (by simp) _
  have hX : Box2 w.heap.size k p q v s n u ((w.alloc (.cells #[.int .i64 k, .int .i64 p, .int .i64 q, .bool v, .string s] 33)).alloc (.cells #[.int .i64 n, .string u] 35)):=by
    refine ⟨?_, ?_, ?_, ?_, ?_, ?_, ?_, ?_⟩ <;> simp
  generalize hA : w.heap.size = A at hB hX
  generalize hW : ((w.alloc (.cells #[.int .i64 k, .int .i64 p, .int .i64 q, .bool v, .string s] 33)).alloc (.cells #[.int .i64 n, .string u] 35)) = W at hB hX
  have hgW : Glob W:=x1R (by rw [<- hA] at hB; exact hB) hg
  go_enter Tryz.func7,Tryz.ntmps7
  go_wp2_with (go_at_call 9; fail)
  refine (u7H W hgW).mono ?_
  rintro e w1 ⟨rfl,b1⟩
  have X1:=hX.keep b1
  have B1 : Below A w w1:=hB.trans (b1.mono (by have:=hX.2.2.2.2.2.2.2; omega))
  have g1 : Glob w1:=x1R b1 hgW
  clear hX hB b1
  obtain ⟨h0,h1,h2,h3,h4,h5,h6,h7⟩:=id X1
  go_wp2_with (go_at_call 27; fail)
  refine (good_any k p q n v s u w1 g1).mono ?_
  rintro e w2 ⟨rfl,b2⟩
  have X2:=X1.keep b2
  have B2 : Below A w w2:=B1.trans (b2.mono (by omega))
  have g2 : Glob w2:=x1R b2 g1
  clear h0 h1 h2 h3 h4 h5 h6 h7 X1 B1 b2 g1
  cases hgd : y2T k p q v s n u
  . go_wp2
    go_ret
    exact ⟨rfl,B2⟩
  . by_cases hs : 2000 < (t.size : Int)
    . go_wp2
      go_ret
      exact ⟨rfl,B2⟩
    . go_wp2_with (go_at_call 29; fail)
      refine (new_any w2).mono ?_
      rintro e w3 ⟨rfl,rfl⟩
      go_wp2_with (go_at_call 30; fail)
      refine (put_any w2.heap.size Tryz.zeroCells130 (fun _=> 0) wh t _ (heap_alloc_last w2 _) bs_zero (by omega)).mono ?_
      rintro e w4 ⟨r0,c,f,rfl,hc,he⟩
      rw [v1L] at he
      have b4 : Below w2.heap.size w2 w4:=by rw [he]; exact (Below.refl _ _).alloc (Nat.le_refl _) _
      have M4 : MemAt w2.heap.size c w4:=by rw [he]; exact heap_alloc_last w2 _
      have X4:=X2.keep b4
      have hAB : A + 1 < w2.heap.size:=X2.2.2.2.2.2.2.2
      have B4 : Below A w w4:=B2.trans (b4.mono (by omega))
      have g4 : Glob w4:=x1R b4 g2
      clear he b4 X2 B2 g2 hs
      generalize w2.heap.size = B at *
      go_wp2_with (go_at_call 31; fail)
      refine (y8X hc w4 M4).mono ?_
      rintro e w5 ⟨rfl,rfl⟩
      obtain ⟨hl,hty,h7',hva⟩:=z3W hgd
      obtain ⟨l1,l2,l3,l4⟩:=z4J hty h7' hva
      have hbl:=y1M hty h7' hva
      have C19:=fun w hg=>c19 (k:=k) (p:=p) (q:=q) (v:=v) hl w hg
      have C23:=fun w hg=>c23 (k:=k) (p:=p) (q:=q) (v:=v) (n:=n) (u:=u) hl w hg
      rw [(enc_of hgd).1,(enc_of hgd).2] at C23
      have C62:=fun w hg=>c62 hgd w hg
      have C25:=fun t ht hlen w hg=>c25_any (t:=t) hgd ht hlen w hg
      have hcf : ∀ j,j < 65536 -> 0 <= f j /\ f j <= 255:=fun j hj=>⟨hc.lo j hj,hc.hi j hj⟩
      generalize hSZ : szS k p q v s.data.toList = SZ at l1 l2 l3 l4 C19 C25
      generalize hE : encS k p v n u.data.toList = E at l1 l2 l3 hbl C23 C25
      have hex : ∃ r,z4R k x SZ = r:=⟨_,rfl⟩
      obtain ⟨r,hr⟩:=hex
      have C85 : r = 0 -> ∀ w,MemAt B c w -> Calls Tryz.prog 85 #[.pointer (some ⟨B, 0,none⟩), .int .i64 x, .string ⟨E.toArray⟩] w fun e w'=>e = .returned (.tuple #[]) /\ ∃ c',Bs c' (setF f x E E.length) /\ MemAt B c' w' /\ ButB B w w':=fun h w hM=>by
        have:=v0A (hr.trans h)
        exact set_any hc E hbl w hM this.1 (by omega)
      have HS:=v5L k p q n x SZ r v s u ⟨E.toArray⟩ B (MemAt B c) (fun w w'=> ∃ c',Bs c' (setF f x E E.length) /\ MemAt B c' w' /\ ButB B w w') (fun _ _ h hb=>h.keep hb) w5 g4 M4 hr C19 C23 C85
      obtain ⟨h0,h1,h2,h3,h4,h5,h6,h7⟩:=id X4
      clear hgd hty hva hl h7' hSZ hE l2 l3 C85
      go_wp2_with (go_at_call 32; fail)
      refine HS.mono ?_
      rintro e w6 ⟨rfl,hbad,hok⟩
      clear HS h0 h1 h2 h3 h4 h5 h6 h7
      by_cases hr0 : r = 0
      . obtain ⟨w7, b7, c', hc', M6, bu⟩ := hok hr0
        obtain ⟨x0,z0,x1,xz⟩:=v0A (hr.trans hr0)
        subst hr0
        have X6:=(X4.keep b7).but bu hAB
        have B6 : Below A w w6:=ButB.below (B4.trans (b7.mono (by have:=X4.2.2.2.2.2.2.2; omega))) bu (by omega)
        have g6 : Glob w6:=x1R (by rw [hA]; exact B6) hg
        have BA:=y8X hc' w6 M6
        have hsz : ((strF f 65536).size : Int) = 65536:=by rw [x3K]; rfl
        have hsz' : ((strF (setF f x E E.length) 65536).size : Int) = 65536:=by rw [x3K]; rfl
        have hsf:=z3D (x:=x) hcf E E.length
        have SZN : ((SZ.toNat : Nat) : Int) = SZ:=by omega
        have hgl:=getL_set hcf hbl (N:=SZ.toNat) (by omega) x0 (by omega)
        have hbt:=v8C hsf (N:=SZ.toNat) x0 (by omega)
        have hlt : ((E ++ (getL (setF f x E E.length) x SZ.toNat).drop E.length).length : Int) = SZ:=by rw [<- hgl]; unfold getL; rw [List.length_map,List.length_range]; exact SZN
        have C25:=C25 _ (fun b hb=>hbt b (List.mem_of_mem_drop hb)) hlt
        rw [<- hgl] at C25
        have C86:=fun w (hM : MemAt B c' w)=>get_any hc' SZ.toNat (by omega) w hM x0 (by omega)
        rw [SZN] at C86
        have AP:=w1Y (strF f 65536) (strF (setF f x E E.length) 65536) 65536 f (setF f x E E.length) x E.length x3K x3K (by decide) (fun k h=>u7C h (hc.lo k (by rw [x3K] at h; exact h)) (hc.hi k (by rw [x3K] at h; exact h)))
          (fun k h=>u7C h (hsf k (by rw [x3K] at h; exact h)).1 (hsf k (by rw [x3K] at h; exact h)).2) x0 (by omega) (by omega) (fun i k i0 i1 k0 k1 ho=>by
            have h:=u1U (y:= 8 * i + k) hcf E hbl x0 (by omega) (by omega) E.length (Nat.le_refl _)
            rw [if_neg (by omega),show ((8 * i + k) / 8).toNat = i.toNat by omega] at h
            have hk:=hcf i.toNat (by omega)
            have hk':=hsf i.toNat (by omega)
            have:=xor_ch (y:= 8 * i + k) hk.1 hk.2 hk'.1 hk'.2 h.symm
            rw [show (8 * i + k) % 8 = k by omega] at this
            exact this)
        have HL:=fun w hg hM=>load_any k p q n x SZ v s u ⟨(getL (setF f x E E.length) x SZ.toNat).toArray⟩ B (MemAt B c') (fun _ _ h hb=>h.keep hb) w hg hM hr C62 C19 C86 C25
        have hes : (⟨E.toArray⟩ : ByteArray).size = E.length:=by simp [ByteArray.size]
        have hn1 : (E.length : Int) <= 524288:=by omega
        have hn2 : x <= 524288 - (E.length : Int):=by omega
        clear hbad hok hr C19 C62 C25 C86 M4 X4 b7 bu hcf hsf hgl hbt hlt hc hc' hbl g4 B4
        generalize strF f 65536 = old at *
        generalize strF (setF f x E E.length) 65536 = now at *
        generalize (⟨(getL (setF f x E E.length) x SZ.toNat).toArray⟩ : ByteArray) = str at *
        generalize (⟨E.toArray⟩ : ByteArray) = ea at *
        rw [<- hes] at AP hn1 hn2
        clear hes
        go_wp2_with (go_at_call 31; fail)
        refine BA.mono ?_
        rintro e w8 ⟨rfl,rfl⟩
        obtain ⟨h0,h1,h2,h3,h4,h5,h6,h7⟩:=id X6
        clear BA
        go_wp2_with (go_at_call 33; fail)
        refine (HL _ g6 M6).mono ?_
        rintro e w9 ⟨rfl,b9⟩
        have K9 : Below w9.heap.size w9 (w9.alloc (.cells #[.int .i64 n, .string u] 35)):=(Below.refl _ _).alloc (Nat.le_refl _) _
        have X9:=(X6.keep b9).keep K9
        have B9 : Below A w (w9.alloc (.cells #[.int .i64 n, .string u] 35)):=(B6.trans (b9.mono (by omega))).alloc (by have:=b9.size; omega) _
        have g9 : Glob (w9.alloc (.cells #[.int .i64 n, .string u] 35)):=x1R (by rw [hA]; exact B9) hg
        have q0 : (w9.alloc (.cells #[.int .i64 n, .string u] 35)).cell? ⟨w9.heap.size, 0,none⟩ = some (.int .i64 n):=by simp
        have q1 : (w9.alloc (.cells #[.int .i64 n, .string u] 35)).cell? ⟨w9.heap.size, 1,none⟩ = some (.string u):=by simp
        have qz : w9.heap.size < (w9.alloc (.cells #[.int .i64 n, .string u] 35)).heap.size:=by simp
        have az : A <= w9.heap.size:=by have:=b9.size; omega
        clear b9 K9 HL M6 X6 h0 h1 h2 h3 h4 h5 h6 h7
        obtain ⟨h0,h1,h2,h3,h4,h5,h6,h7⟩:=id X9
        go_wp2_with (go_at_call 23; fail)
        refine (C23 _ g9).mono ?_
        rintro e w10 ⟨rfl,b10⟩
        have q2:=(b10.cell (p:=⟨w9.heap.size, 0,none⟩) qz).trans q0
        have q3:=(b10.cell (p:=⟨w9.heap.size, 1,none⟩) qz).trans q1
        have X10:=X9.keep b10
        have B10 : Below A w w10:=B9.trans (b10.mono (by omega))
        clear C23 b10 q0 q1 X9 B9 h0 h1 h2 h3 h4 h5 h6 h7
        obtain ⟨h0,h1,h2,h3,h4,h5,h6,h7⟩:=id X10
        generalize w9.heap.size = T at *
        have hn3 : IntKind.i64.wrap (524288 - (ea.size : Int)) = 524288 - (ea.size : Int):=by simp [IntKind.wrap,IntKind.bits,IntKind.signed]; omega
        go_wp2_with (go_at_call 34; refine (AP _).mono ?_; rintro e w' ⟨rfl,b11⟩)
        go_ret
        exact ⟨by simp,B10.trans (b11.mono (by omega))⟩
      . have b6 := hbad hr0
        have M6:=M4.keep b6
        have B6 : Below A w w6:=B4.trans (b6.mono (by have:=X4.2.2.2.2.2.2.2; omega))
        have hrr:=w0W hr hr0
        have BA:=y8X hc w6 M6
        have hsz : ((strF f 65536).size : Int) = 65536:=by rw [x3K]; rfl
        clear hbad hok hr C19 C23 C62 C25 M4 X4 b6
        generalize strF f 65536 = old at *
        go_wp2_with (go_at_call 31; fail)
        refine BA.mono ?_
        rintro e w7 ⟨rfl,rfl⟩
        rcases hrr with rfl | rfl
        . go_wp2
          go_ret
          exact ⟨rfl,B6⟩
        . go_wp2
          go_ret
          exact ⟨rfl,B6⟩
end Go.Proofs.YtadaoelabimmkaaGreatDoor
