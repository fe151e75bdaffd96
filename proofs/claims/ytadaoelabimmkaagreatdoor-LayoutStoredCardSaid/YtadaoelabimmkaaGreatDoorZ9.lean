/-
  BITS, PLAIN LEAN: what was encoded is decoded again: digits, packed numbers, characters.; BITS, PLAIN LEAN: what was encoded, filled up to its type's size, is decoded to the value that it was.
-/
import Derived.Test.YtadaoelabimmkaaGreatDoorZ8
set_option linter.all false
namespace Go.Yec
open Go
variable {N : Nat}
theorem dgN_bit (x i : Nat) : dgN x i = 48 \/ dgN x i = 49:=by
  unfold dgN
  rcases Nat.mod_two_eq_zero_or_one (x / 2 ^ i) with h | h <;> rw [h]
  . exact .inl rfl
  . exact .inr rfl
theorem x1W (x : Nat) : ∀ w,BitL (x1G w x)
  | 0=>fun _ h=>absurd h (List.not_mem_nil)
  | w + 1 => fun c h => by
    unfold x1G at h
    rcases List.mem_cons.1 h with rfl | h
    . exact dgN_bit x w
    . exact x1W x w c h
theorem BitL.append {s t : List UInt8} (h : BitL s) (h' : BitL t) : BitL (s ++ t):=fun c hc=>(List.mem_append.1 hc).elim (h c) (h' c)
theorem x3Q : ∀ u : List UInt8,BitL (hBits u)
  | []=>fun _ h=>absurd h (List.not_mem_nil)
  | c :: u=>(show BitL (bitsB c ++ hBits u) from (x1W c.toNat 8).append (x3Q u))
theorem u7X (m : Nat) : ∀ k,BitL (pkS m k)
  | 0=>fun _ h=>absurd h (List.not_mem_nil)
  | k + 1=>(x1W _ 4).append (u7X m k)
theorem z7J (p m sg : Nat) : BitL (pack p m sg):=by
  unfold pack
  refine (BitL.append ?_ (u7X m p)).append (x1W _ 4)
  cases decide (p % 2 = 0)
  . exact fun _ h=>absurd h (List.not_mem_nil)
  . exact x1W 0 4
theorem bsS_of {s : List UInt8} (h : BitL s) : bsS s = true:=by
  unfold bsS
  rw [List.all_eq_true]
  intro i hi
  rcases h.at (List.mem_range.1 hi) with e | e <;> rw [e] <;> rfl
theorem rep_bitL {f : UInt8} (hf : f = 48 \/ f = 49) (n : Nat) : BitL (List.replicate n f):=fun c hc=>by rw [(List.mem_replicate.1 hc).2]; exact hf
theorem v0J (x : Nat) {w : Nat} : ∀ i,i <= w -> bvT (x1G w x) i = x % 2 ^ w / 2 ^ (w - i)
  | 0, _ => by
    show 0 = _
    rw [Nat.sub_zero,Nat.div_eq_of_lt (Nat.mod_lt _ (Nat.two_pow_pos w))]
  | i + 1, h => by
    have ih:=v0J x (w:=w) i (by omega)
    obtain ⟨j,hj⟩ : ∃ j,w - (i + 1) = j:=⟨_,rfl⟩
    have e1 : w - i = j + 1:=by omega
    have e2 : bt (x1G w x) i = dgN x j:=by
      have:=z5A x w i (by omega)
      rw [show w - 1 - i = j by omega] at this
      exact this
    have e3:=w0P x j
    have e4:=w1T (x:=x) (w:=w) (i:=j) (by omega)
    unfold bvT
    rw [ih,e1,hj,e2,Nat.pow_succ, <- Nat.div_div_eq_div_mul]
    generalize x % 2 ^ w / 2 ^ j = y at e4 |-
    omega
theorem x7R (x w : Nat) : bv (x1G w x) = x % 2 ^ w:=by
  unfold bv
  rw [x0N,v0J x w (Nat.le_refl _),Nat.sub_self,Nat.pow_zero,Nat.div_one]
theorem take_left {α : Type} {a b : List α} {n : Nat} (h : a.length = n) : (a ++ b).take n = a:=by rw [<- h,List.take_left]
theorem drop_left {α : Type} {a b : List α} {n : Nat} (h : a.length = n) : (a ++ b).drop n = b:=by rw [<- h,List.drop_left]
theorem un_pk {s t : List UInt8} {m : Nat} : ∀ (k i a : Nat),s.drop (4 * i) = pkS m k ++ t -> un s k i a = some (a * 10 ^ k + m % 10 ^ k)
  | 0, i, a, _ => by
    show some a = _
    rw [Nat.pow_zero,Nat.mod_one,Nat.mul_one]; rfl
  | k + 1, i, a, h => by
    have hd : m / 10 ^ k % 10 < 10:=Nat.mod_lt _ (by decide)
    have h : s.drop (4 * i) = x1G 4 (m / 10 ^ k % 10) ++ (pkS m k ++ t):=by rw [h]; exact List.append_assoc _ _ _
    have hn : nib s i = m / 10 ^ k % 10:=by
      unfold nib
      rw [h,take_left (x0N _ 4),x7R]
      omega
    have hx : s.drop (4 * (i + 1)) = pkS m k ++ t:=by
      rw [show 4 * (i + 1) = 4 * i + 4 by omega, <- List.drop_drop,h,drop_left (x0N _ 4)]
    unfold un
    rw [hn,decide_eq_false (by omega),cond_false,un_pk k (i + 1) _ hx,Nat.pow_succ,Nat.mod_mul,Nat.add_mul]
    congr 1
    have e1 : 10 * a * 10 ^ k = a * (10 ^ k * 10):=by rw [Nat.mul_comm 10 a,Nat.mul_assoc,Nat.mul_comm 10]
    rw [e1,Nat.mul_comm (10 ^ k) (m / 10 ^ k % 10)]
    omega
theorem u7Z (p m sg : Nat) : (pack p m sg).length = 8 * (p / 2 + 1):=by
  unfold pack
  rw [List.length_append,List.length_append,y2H,x0N]
  cases h : decide (p % 2 = 0)
  . have := of_decide_eq_false h
    show 0 + 4 * p + 4 = _
    omega
  . have := of_decide_eq_true h
    show 4 + 4 * p + 4 = _
    omega
theorem u1L {p : Nat} {n : Int} (h1 : 1 <= p) (h9 : p <= 9) (hn : n.natAbs < 10 ^ p) (hN : 1100 <= N) : v4N N (p : Int) (pack p n.natAbs (cond (decide (n < 0)) 13 12)) = some (n,true):=by
  have hb:=z7J p n.natAbs (cond (decide (n < 0)) 13 12)
  have hl:=u7Z p n.natAbs (cond (decide (n < 0)) 13 12)
  have hfin : ∀ s c,nib s c = cond (decide (n < 0)) 13 12 -> unO s c (some n.natAbs) = some (n,true):=fun s c h=>by
    unfold unO
    simp only
    rw [h]
    cases hx : decide (n < 0)
    . have := of_decide_eq_false hx
      show some (((n.natAbs : Nat) : Int),true) = _
      rw [show ((n.natAbs : Nat) : Int) = n by omega]
    . have := of_decide_eq_true hx
      show some (0 - ((n.natAbs : Nat) : Int),true) = _
      rw [show 0 - ((n.natAbs : Nat) : Int) = n by omega]
  have hsg : (cond (decide (n < 0)) 13 12) % 2 ^ 4 = cond (decide (n < 0)) 13 12:=by cases decide (n < 0) <;> rfl
  have hmod : n.natAbs % 10 ^ p = n.natAbs:=Nat.mod_eq_of_lt hn
  unfold v4N
  have hev : decide (Int.tmod (p : Int) 2 = 0) = decide (p % 2 = 0):=decide_eq_decide.2 (by rw [Int.tmod_eq_emod_of_nonneg (by omega)]; omega)
  rw [hev]
  cases hp : decide (p % 2 = 0)
  . have hp' := of_decide_eq_false hp
    have he : pack p n.natAbs (cond (decide (n < 0)) 13 12) = pkS n.natAbs p ++ x1G 4 (cond (decide (n < 0)) 13 12):=by unfold pack; rw [hp]; rfl
    rw [cond_false]
    generalize pack p n.natAbs (cond (decide (n < 0)) 13 12) = s at hb hl he |-
    have eO:=v5C (N:=N) hb (c:=p) (by omega) (by omega) hN p N 0 0 (by omega) (by decide) (by omega)
    have eU:=un_pk (s:=s) (m:=n.natAbs) p 0 0 (he.trans rfl)
    rw [hmod,Nat.zero_mul,Nat.zero_add] at eU
    rw [eU] at eO
    refine eO.trans (hfin _ _ ?_)
    unfold nib
    rw [he,drop_left (y2H _ _),List.take_of_length_le (by rw [x0N]; decide),x7R,hsg]
  . have hp' := of_decide_eq_true hp
    have he : pack p n.natAbs (cond (decide (n < 0)) 13 12) = x1G 4 0 ++ (pkS n.natAbs p ++ x1G 4 (cond (decide (n < 0)) 13 12)):=by unfold pack; rw [hp,cond_true,List.append_assoc]
    rw [cond_true]
    generalize pack p n.natAbs (cond (decide (n < 0)) 13 12) = s at hb hl he |-
    have d2 : decide ((0 : Int) <= 4 /\ (4 : Int) <= slen s) = true:=decide_eq_true (by rw [x0H]; omega)
    have t1 : ssub s 0 4 = [48, 48, 48, 48]:=(x5D (n:= 4)).trans (by rw [he,take_left (x0N _ 4)]; rfl)
    have t2 : ssub s 4 (slen s) = s.drop (4 * 1):=y6A (n:= 4)
    rw [d2,cond_true,t1,decide_eq_true rfl,Bool.not_true,cond_false,cond_true,t2]
    have eO:=v5C (N:=N) hb (c:=p + 1) (by omega) (by omega) hN p N 1 0 (by omega) (by decide) (by omega)
    have hd : s.drop (4 * 1) = pkS n.natAbs p ++ x1G 4 (cond (decide (n < 0)) 13 12):=by rw [he,drop_left (x0N _ 4)]
    have eU:=un_pk (s:=s) (m:=n.natAbs) p 1 0 hd
    rw [hmod,Nat.zero_mul,Nat.zero_add] at eU
    rw [eU] at eO
    refine eO.trans (hfin _ _ ?_)
    unfold nib
    rw [show 4 * (p + 1) = 4 * 1 + 4 * p by omega, <- List.drop_drop,hd,drop_left (y2H _ _),List.take_of_length_le (by rw [x0N]; decide),x7R,hsg]
theorem z1P : ∀ (i : Nat) (u : List UInt8),(hBits u).drop (8 * i) = hBits (u.drop i)
  | 0,u=>rfl
  | i + 1,[]=>by simp [hBits]
  | i + 1, c :: u => by
    show (bitsB c ++ hBits u).drop _ = hBits (u.drop i)
    rw [show 8 * (i + 1) = 8 + 8 * i by omega, <- List.drop_drop,drop_left (show (bitsB c).length = 8 from rfl),z1P i u]
theorem y0V (u : List UInt8) : txt (hBits u) u.length = u:=by
  have e : txt (hBits u) u.length = (List.range u.length).map fun i=>(bv (((hBits u).drop (8 * i)).take 8)).toUInt8:=rfl
  rw [e]
  refine List.ext_getElem (by simp) fun i h1 h2=> ?_
  rw [List.getElem_map,List.getElem_range,z1P,List.drop_eq_getElem_cons h2]
  show (bv ((bitsB u[i] ++ hBits (u.drop (i + 1))).take 8)).toUInt8 = u[i]
  rw [take_left (show (bitsB u[i]).length = 8 from rfl),bitsB_eq,x7R,Nat.mod_eq_of_lt (u[i].toNat_lt)]
  simp
end Go.Yec
namespace Go.Yec
open Go
variable {N : Nat}
theorem va5w {p q n : Int} {v : Bool} {pic u : List UInt8} (hty : tyS 5 p q v pic = true) (h : vaS 5 p v pic n u = true) : (u.length : Int) = (picS pic).1.2.2.1 := by
  unfold vaS at h
  have h : (decide (n = 0) && x8Y pic u) = true:=h
  simp only [Bool.and_eq_true,decide_eq_true_eq] at h
  have h2:=h.2
  unfold x8Y at h2
  unfold picS
  split at h2
  . cases h2
  . rename_i o ho
    rw [ho]
    simp only
    unfold z7E
    split at h2
    . rename_i hc
      simp only [Bool.and_eq_true,decide_eq_true_eq] at h2
      rw [if_pos hc,h2.1]
    . rename_i hc
      split at h2
      . rename_i hp
        simp only [Bool.and_eq_true,decide_eq_true_eq] at h2
        rw [if_neg hc,if_pos hp,h2.1]
        exact (z6E (x4G ho)).symm
      . cases h2
theorem bnd1_eq {p : Int} : bndS 1 p = ((10 ^ p.toNat : Nat) : Int):=rfl
theorem z4J {k p q n : Int} {v : Bool} {pic u : List UInt8} (hty : tyS k p q v pic = true) (h7 : k ≠ 7) (hva : vaS k p v pic n u = true) : ((encS k p v n u).length : Int) <= szS k p q v pic /\ (v = false -> ((encS k p v n u).length : Int) = szS k p q v pic) /\ (k ≠ 3 -> ((encS k p v n u).length : Int) = szS k p q v pic) /\ szS k p q v pic <= 3000 := by
  have hsz : szS k p q v pic = (cond (decide (k = 1)) (IntKind.wrap .i64 (8 * (IntKind.wrap .i64 ((IntKind.wrap .i64 (Int.tdiv p 2)) + 1))))
      (cond (decide (k = 2)) (cond (decide (p <= 15)) 16 32)
      (cond (decide (k = 3)) (cond v (IntKind.wrap .i64 (16 + (IntKind.wrap .i64 (8 * p)))) (IntKind.wrap .i64 (8 * p)))
      (cond (decide (k = 4)) p
      (cond (decide (k = 5)) (IntKind.wrap .i64 (8 * (picS pic).1.2.2.1))
      (cond (decide (k = 6)) 32 (IntKind.wrap .i64 (8 * p)))))))):=by unfold szS; rw [hty]; rfl
  have fin : ∀ {a : List UInt8} {b : Int}, encS k p v n u = a -> szS k p q v pic = b -> (a.length : Int) = b -> b <= 3000 -> ((encS k p v n u).length : Int) <= szS k p q v pic /\ (v = false -> ((encS k p v n u).length : Int) = szS k p q v pic) /\ (k ≠ 3 -> ((encS k p v n u).length : Int) = szS k p q v pic) /\ szS k p q v pic <= 3000:=fun ha hb h h'=>by
    rw [ha,hb]; exact ⟨by omega,fun _=>h,fun _=>h,h'⟩
  rcases z8A k with e | e | e | e | e | e | e | ⟨h1,h2,h3,h4,h5,h6,h7⟩
  . subst e
    obtain ⟨a1,a2⟩:=x5X (.inl rfl) hty
    have e : (IntKind.wrap .i64 (8 * (IntKind.wrap .i64 ((IntKind.wrap .i64 (Int.tdiv p 2)) + 1)))) = 8 * (p / 2 + 1):=by
      rw [Int.tdiv_eq_ediv_of_nonneg (by omega),w64 (n:=p / 2) (by omega) (by omega),w64 (n:=p / 2 + 1) (by omega) (by omega),w64 (by omega) (by omega)]
    exact fin (a:=pack p.toNat n.natAbs (cond (decide (n < 0)) 13 12)) rfl (hsz.trans e) (by rw [u7Z]; omega) (by omega)
  . subst e
    have hs : szS 2 p q v pic = cond (decide (p <= 15)) 16 32:=hsz
    have he : encS 2 p v n u = cond (decide (p <= 15)) (x1G 16 (n % 65536).toNat) (x1G 32 (n % 4294967296).toNat):=rfl
    cases hp : decide (p <= 15)
    . rw [hp] at hs he
      exact fin he hs (by rw [cond_false,cond_false,x0N]; rfl) (by decide)
    . rw [hp] at hs he
      exact fin he hs (by rw [cond_true,cond_true,x0N]; rfl) (by decide)
  . subst e
    obtain ⟨p0,p1⟩:=ty3 hty
    have hv3:=hva
    unfold vaS at hv3
    have hv3 : (decide (n = 0) && (decide (slen u = p) || (v && decide (slen u < p)))) = true:=hv3
    simp only [Bool.and_eq_true,Bool.or_eq_true,decide_eq_true_eq] at hv3
    rw [x0H] at hv3
    cases v
    . have hs : szS 3 p q false pic = 8 * p := hsz.trans (by show IntKind.wrap .i64 (8 * p) = _; rw [w64 (by omega) (by omega)])
      have hu : (u.length : Int) = p:=by
        rcases hv3.2 with h | h
        . exact h
        . exact absurd h.1 (by decide)
      exact fin (a:=hBits u) rfl hs (by rw [hBits_len]; omega) (by omega)
    . have hs : szS 3 p q true pic = 16 + 8 * p := hsz.trans (by show IntKind.wrap .i64 (16 + (IntKind.wrap .i64 (8 * p))) = _; rw [w64 (n := 8 * p) (by omega) (by omega), w64 (by omega) (by omega)])
      have he : encS 3 p true n u = x1G 16 u.length ++ hBits u:=rfl
      have hu : (u.length : Int) <= p:=by
        rcases hv3.2 with h | h <;> omega
      rw [hs,he,List.length_append,x0N,hBits_len]
      exact ⟨by omega,fun h=>absurd h (by decide),fun h=>absurd rfl h,by omega⟩
  . subst e
    obtain ⟨_,b1⟩:=va4 hva
    obtain ⟨_,p1,_⟩:=ty4 hty
    exact fin (a:=u) rfl (b:=p) hsz (by rw [<- x0H]; exact b1) (by omega)
  . subst e
    obtain rfl:=ty5 hty
    have hw:=va5w hty hva
    obtain ⟨_,b1⟩:=va5 hva
    have hs : szS 5 p q false pic = 8 * (u.length : Int):=hsz.trans (by show IntKind.wrap .i64 (8 * (picS pic).1.2.2.1) = _; rw [<- hw,w64 (by omega) (by omega)])
    exact fin (a:=hBits u) rfl hs (by rw [hBits_len]; omega) (by omega)
  . subst e
    exact fin (a:=x1G 32 n.toNat) rfl (b:= 32) hsz (by rw [x0N]; rfl) (by decide)
  . exact absurd e h7
  . unfold tyS at hty
    rw [decide_eq_false h1,decide_eq_false h2,decide_eq_false h3,decide_eq_false h4,decide_eq_false h5,decide_eq_false h6,decide_eq_false h7] at hty
    cases hty
noncomputable def x9T (k p q : Int) (v : Bool) (pic : List UInt8) (n : Int) (u : List UInt8) (f : UInt8) : List UInt8:=encS k p v n u ++ List.replicate ((szS k p q v pic) - (encS k p v n u).length).toNat f
theorem y1M {k p q n : Int} {v : Bool} {pic u : List UInt8} (hty : tyS k p q v pic = true) (h7 : k ≠ 7) (hva : vaS k p v pic n u = true) : BitL (encS k p v n u):=by
  rcases z8A k with e | e | e | e | e | e | e | ⟨h1,h2,h3,h4,h5,h6,h7⟩
  . subst e; exact z7J _ _ _
  . subst e
    show BitL (cond (decide (p <= 15)) (x1G 16 _) (x1G 32 _))
    cases decide (p <= 15)
    . exact x1W _ 32
    . exact x1W _ 16
  . subst e
    cases v
    . exact x3Q u
    . exact (x1W _ 16).append (x3Q u)
  . subst e
    unfold vaS at hva
    have hva : ((decide (n = 0) && decide (slen u = p)) && bsS u) = true:=hva
    rw [Bool.and_eq_true] at hva
    exact bitL_of hva.2
  . subst e
    obtain rfl:=ty5 hty
    exact x3Q u
  . subst e; exact x1W _ 32
  . exact absurd e h7
  . unfold tyS at hty
    rw [decide_eq_false h1,decide_eq_false h2,decide_eq_false h3,decide_eq_false h4,decide_eq_false h5,decide_eq_false h6,decide_eq_false h7] at hty
    cases hty
theorem wrap16 {s : List UInt8} (hs : s.length = 16) {n : Int} (h0 : -32768 <= n) (h1 : n < 32768) {p q : Int} {v : Bool} {pic : List UInt8} {y : Int} (hy : y = n % 65536) (e1 : z5V N s = some y) : F_74 N 2 p q v pic s = some ((n,[]),true):=by
  have e2 : IntKind.wrap .i64 (IntKind.wrap .i16 y) = n:=by
    have ew16 : IntKind.wrap .i16 y = (y + 32768) % 65536 - 32768:=by simp [IntKind.wrap,IntKind.bits,IntKind.signed]; split <;> omega
    rw [ew16,w64 (by omega) (by omega)]
    omega
  have e3 : decide (slen s = 16) = true:=decide_eq_true (by rw [x0H]; omega)
  unfold F_74
  simp only [decide_true,cond_true,cond_false,show decide ((2 : Int) = 1) = false from rfl]
  rw [e3,e1]
  simp only [cond_true,Option.bind_some]
  rw [e2]
theorem dec16 {n : Int} (h0 : -32768 <= n) (h1 : n < 32768) {p q : Int} {v : Bool} {pic : List UInt8} (hN : 1100 <= N) : F_74 N 2 p q v pic (x1G 16 (n % 65536).toNat) = some ((n,[]),true):=by
  refine wrap16 (x0N _ _) h0 h1 rfl ?_
  rw [v6X (x1W _ 16) (by rw [x0N]; decide) (by omega),x7R,Nat.mod_eq_of_lt (show (n % 65536).toNat < 2 ^ 16 by omega),Int.toNat_of_nonneg (Int.emod_nonneg _ (by decide))]
theorem dec_own {k p q n : Int} {v : Bool} {pic u : List UInt8} {f : UInt8} (hN : 6100 <= N) (hty : tyS k p q v pic = true) (h7 : k ≠ 7) (hva : vaS k p v pic n u = true) : F_74 N k p q v pic (x9T k p q v pic n u f) = some ((n, u), true) := by
  obtain ⟨l1,l2,l3,l4⟩:=z4J hty h7 hva
  have whole : ((encS k p v n u).length : Int) = szS k p q v pic -> x9T k p q v pic n u f = encS k p v n u:=fun h=>by
    unfold x9T
    rw [h,Int.sub_self]
    exact List.append_nil _
  have hb:=y1M hty h7 hva
  rcases z8A k with e | e | e | e | e | e | e | ⟨h1,h2,h3,h4,h5,h6,h7⟩
  . subst e
    rw [whole (l3 (by decide))]
    obtain ⟨a1,a2⟩:=x5X (.inl rfl) hty
    obtain ⟨hu,b1,b2⟩:=va12 (.inl rfl) hva
    subst hu
    rw [bnd1_eq] at b1 b2
    have hn : n.natAbs < 10 ^ p.toNat:=by
      generalize 10 ^ p.toNat = x at b1 b2 |-
      omega
    have:=u1L (N:=N) (p:=p.toNat) (n:=n) (by omega) (by omega) hn (by omega)
    rw [show ((p.toNat : Nat) : Int) = p by omega] at this
    show Option.bind (v4N N p (pack p.toNat n.natAbs (cond (decide (n < 0)) 13 12))) _ = _
    rw [this]; rfl
  . subst e
    rw [whole (l3 (by decide))]
    obtain ⟨a1,a2⟩:=x5X (.inr rfl) hty
    obtain ⟨hu,b1,b2⟩:=va12 (.inr rfl) hva
    subst hu
    have l5:=bnd2 31 (p:=p) (by omega)
    have he : encS 2 p v n [] = cond (decide (p <= 15)) (x1G 16 (n % 65536).toNat) (x1G 32 (n % 4294967296).toNat):=rfl
    rw [he] at hb |-
    have ew16 : ∀ n : Int,IntKind.wrap .i16 n = (n + 32768) % 65536 - 32768:=fun n=>by simp [IntKind.wrap,IntKind.bits,IntKind.signed]; split <;> omega
    have ew32 : ∀ n : Int,IntKind.wrap .i32 n = (n + 2147483648) % 4294967296 - 2147483648:=fun n=>by simp [IntKind.wrap,IntKind.bits,IntKind.signed]; split <;> omega
    cases hp : decide (p <= 15)
    . rw [hp, cond_false] at hb
      rw [cond_false]
      have hl : (x1G 32 (n % 4294967296).toNat).length = 32:=x0N _ _
      have e1:=num112 (N:=N) hb (by omega) (by omega)
      have hy0 : 0 <= n % 4294967296:=Int.emod_nonneg _ (by decide)
      have hy1 : n % 4294967296 < 4294967296:=Int.emod_lt_of_pos _ (by decide)
      rw [x7R,Nat.mod_eq_of_lt (show (n % 4294967296).toNat < 2 ^ 32 by omega),Int.toNat_of_nonneg hy0] at e1
      clear hb
      generalize x1G 32 (n % 4294967296).toNat = s at hl e1 |-
      show cond (decide (slen s = 16)) _ (Option.bind (u1J N s) _) = _
      rw [decide_eq_false (by rw [x0H]; omega),cond_false,e1,Option.bind_some,ew32,w64 (by omega) (by omega),show (n % 4294967296 + 2147483648) % 4294967296 - 2147483648 = n by omega]
    . have l6 := bnd2 15 (p := p) (of_decide_eq_true hp)
      rw [cond_true]
      exact dec16 (by omega) (by omega) (by omega)
  . subst e
    obtain ⟨p0,p1⟩:=ty3 hty
    obtain ⟨rfl,b1⟩:=va3 hva
    rw [x0H] at b1
    cases v
    . rw [whole (l2 rfl)]
      show Option.bind (u1H N (hBits u)) _ = _
      rw [y1S (x3Q u) (m:=u.length) (by omega) (hBits_len u) (by omega),y0V]; rfl
    . have hs : szS 3 p q true pic = 16 + 8 * p := by
        unfold szS
        rw [hty]
        show IntKind.wrap .i64 (16 + (IntKind.wrap .i64 (8 * p))) = _
        rw [w64 (n:= 8 * p) (by omega) (by omega),w64 (by omega) (by omega)]
      have he : encS 3 p true 0 u = x1G 16 u.length ++ hBits u:=rfl
      have hf : x9T 3 p q true pic 0 u f = x1G 16 u.length ++ (hBits u ++ List.replicate (szS 3 p q true pic - (encS 3 p true 0 u).length).toNat f):=by unfold x9T; rw [he,List.append_assoc]
      have hlen : (x9T 3 p q true pic 0 u f).length = 16 + 8 * p.toNat:=by
        unfold x9T
        rw [List.length_append,List.length_replicate,hs]
        rw [hs] at l1
        omega
      generalize List.replicate (szS 3 p q true pic - (encS 3 p true 0 u).length).toNat f = t at hf
      have t1 : ssub (x9T 3 p q true pic 0 u f) 0 16 = x1G 16 u.length:=(x5D (n:= 16)).trans (by rw [hf,take_left (x0N _ 16)])
      have t2 : ((x9T 3 p q true pic 0 u f).drop 16).take (8 * u.length) = hBits u:=by rw [hf,drop_left (x0N _ 16),take_left (hBits_len u)]
      generalize x9T 3 p q true pic 0 u f = s at hlen t1 t2 |-
      have e1:=v6X (N:=N) (x1W u.length 16) (by rw [x0N]; decide) (by omega)
      rw [x7R,Nat.mod_eq_of_lt (show u.length < 2 ^ 16 by omega)] at e1
      show cond (decide ((0 : Int) <= 16 /\ (16 : Int) <= slen s)) (Option.bind (z5V N (ssub s 0 16)) _) none = _
      have c8 : IntKind.wrap .i64 (8 * (u.length : Int)) = 8 * (u.length : Int):=w64 (by omega) (by omega)
      have c16 : IntKind.wrap .i64 (16 + 8 * (u.length : Int)) = ((16 + 8 * u.length : Nat) : Int):=by rw [w64 (by omega) (by omega)]; omega
      have t3 : ssub s 16 ((16 + 8 * u.length : Nat) : Int) = hBits u:=(x8F (a:= 16) (b:= 8 * u.length)).trans t2
      rw [decide_eq_true (by rw [x0H]; omega),cond_true,t1,e1,Option.bind_some,w64 (n:=(u.length : Int)) (by omega) (by omega),decide_eq_false (by omega),cond_false,c8,c16,decide_eq_true (by rw [x0H]; omega),cond_true,t3,
        y1S (x3Q u) (m:=u.length) (by omega) (hBits_len u) (by omega),y0V]
      rfl
  . subst e
    obtain ⟨rfl,b1⟩:=va4 hva
    rw [whole (l3 (by decide))]; rfl
  . subst e
    obtain rfl:=ty5 hty
    obtain ⟨rfl,b1⟩:=va5 hva
    rw [whole (l3 (by decide))]
    show Option.bind (u1H N (hBits u)) _ = _
    rw [y1S (x3Q u) (m:=u.length) (by omega) (hBits_len u) (by omega),y0V]; rfl
  . subst e
    obtain ⟨rfl,b0,b1⟩:=va6 hva
    rw [whole (l3 (by decide))]
    have e1:=num112 (N:=N) (x1W n.toNat 32) (by rw [x0N]; decide) (by omega)
    rw [x7R,Nat.mod_eq_of_lt (show n.toNat < 2 ^ 32 by omega),show ((n.toNat : Nat) : Int) = n by omega] at e1
    have he : encS 6 p v n [] = x1G 32 n.toNat:=rfl
    rw [he]
    generalize x1G 32 n.toNat = s at e1 |-
    show Option.bind (u1J N s) _ = _
    rw [e1,Option.bind_some,w64 (by omega) (by omega)]
  . exact absurd e h7
  . unfold tyS at hty
    rw [decide_eq_false h1,decide_eq_false h2,decide_eq_false h3,decide_eq_false h4,decide_eq_false h5,decide_eq_false h6,decide_eq_false h7] at hty
    cases hty
theorem dec_back {k p q n : Int} {v : Bool} {pic u : List UInt8} {f : UInt8} (hf : f = 48 \/ f = 49) (hl : pic.length <= 1000) (hN : 6100 <= N) (hty : tyS k p q v pic = true) (h7 : k ≠ 7) (hva : vaS k p v pic n u = true) : F_25 N k p q v pic (x9T k p q v pic n u f) = some ((n,u), 0):=by
  obtain ⟨l1,_,_,l4⟩:=z4J hty h7 hva
  have hlen : ((x9T k p q v pic n u f).length : Int) = szS k p q v pic:=by
    unfold x9T
    rw [List.length_append,List.length_replicate]
    omega
  have hb : BitL (x9T k p q v pic n u f):=(y1M hty h7 hva).append (rep_bitL hf _)
  have e74:=dec_own (f:=f) hN hty h7 hva
  generalize x9T k p q v pic n u f = s at hlen hb e74 |-
  have hty2 : (tyS k p q v pic && !(decide (k = 7))) = true:=by rw [hty,decide_eq_false h7]; rfl
  have e62 : F_62 N k p q v pic = some true:=by
    unfold F_62
    rw [y5W hl (by omega),hty,decide_eq_false h7]; rfl
  unfold F_25
  rw [e62,z6P hl (by omega),y9K (by omega) (by omega),bsS_of hb,e74]
  simp only [Option.bind_some]
  rw [decide_eq_true (show slen s = szS k p q v pic from hlen),u6Y hl (by omega),hty2,hva]
  rfl
end Go.Yec
