/-
  BITS, PLAIN LEAN: a number's binary digits as text: digits of the own text, number of the other.; BITS, PLAIN LEAN: digits of the own text; number, characters of the other.; BITS, PLAIN LEAN: packed numbers of both texts.; BITS, PLAIN LEAN: packed numbers of the other text; digits of a remainder.; BITS, PLAIN LEAN: Encode of both texts is the same.; BITS, PLAIN LEAN: what binary digits stand for: number of the own text, read of the other; characters of both.; BITS, PLAIN LEAN: unpacked of both texts.; BITS, PLAIN LEAN: Decode of both texts is the same.
-/
import Derived.Test.YtadaoelabimmkaaGreatDoorZ7
import Derived.Test.YtadaoelabimmkaaGreatDoorG3
set_option linter.all false
namespace Go.Yec
open Go
variable {N : Nat}
def dgN (x i : Nat) : UInt8:=(48 + x / 2 ^ i % 2).toUInt8
def x1G : Nat -> Nat -> List UInt8
  | 0,_=>[]
  | w + 1,x=>dgN x w :: x1G w x
theorem x0N (x : Nat) : ∀ w,(x1G w x).length = w
  | 0=>rfl
  | w + 1=>by unfold x1G; rw [List.length_cons,x0N x w]
theorem z5A (x : Nat) : ∀ (w k : Nat),k < w -> (x1G w x).getD k 0 = dgN x (w - 1 - k)
  | 0,k,h=>by omega
  | w + 1, 0,h=>rfl
  | w + 1, k + 1, h => by
    show (x1G w x).getD k 0 = _
    rw [z5A x w k (by omega),show w + 1 - 1 - (k + 1) = w - 1 - k by omega]
theorem w0P (x i : Nat) : ((dgN x i).toNat : Int) = 48 + ((x / 2 ^ i % 2 : Nat) : Int):=by
  unfold dgN
  have : x / 2 ^ i % 2 < 2:=Nat.mod_lt _ (by decide)
  rw [Nat.toUInt8,UInt8.toNat_ofNat']
  omega
theorem y0E : ∀ n,repI n = List.replicate n 0
  | 0=>rfl
  | n + 1 => by
    show 0 :: repI n = _
    rw [y0E n]; rfl
theorem set_low (k : Nat) (d : Int) (r : List Int) : x4Y (List.replicate (k + 1) 0 ++ r) (k : Int) d = List.replicate k 0 ++ d :: r:=by
  unfold x4Y
  rw [Int.toNat_natCast,List.replicate_succ',List.append_assoc,List.set_append_right _ _ (by simp)]
  simp
theorem half (x j : Nat) : Int.fdiv ((x / 2 ^ j : Nat) : Int) 2 = ((x / 2 ^ (j + 1) : Nat) : Int):=by
  rw [Int.fdiv_eq_ediv_of_nonneg _ (by decide),Nat.pow_succ, <- Nat.div_div_eq_div_mul]
  omega
theorem digs {L : (Int × Int × List Int -> Option (List UInt8)) -> Int × Int × List Int -> Option (List UInt8)} (x w : Nat) (hw : w <= 1000000)
    (hL : ∀ again (j k : Nat) (r : List Int),k < 1000000 -> L again (((x / 2 ^ j : Nat) : Int),(k : Int),r) = cond (inB (k : Int) (ilen r)) (again (Int.fdiv ((x / 2 ^ j : Nat) : Int) 2,(k : Int) - 1,x4Y r (k : Int) ((dgN x j).toNat : Int))) none)
    (h0 : ∀ again y r,L again (y, -1,r) = some (x0X r)) : ∀ (k M : Nat),k <= w -> k + 1 <= M -> iter M L (((x / 2 ^ (w - k) : Nat) : Int),(k : Int) - 1,List.replicate k 0 ++ x0J (x1G w x |>.drop k)) = some (x1G w x)
  | 0, M, hk, hM => by
    obtain ⟨M,rfl,_⟩:=x2X hM
    rw [x1E]
    show L _ (_, -1,_) = _
    rw [h0]
    simp only [List.replicate_zero,List.nil_append,List.drop_zero,x2M]
  | k + 1, M, hk, hM => by
    obtain ⟨M,rfl,hM'⟩:=x2X hM
    rw [x1E,show ((k + 1 : Nat) : Int) - 1 = (k : Int) by omega,hL _ _ _ _ (by omega)]
    have hl : (List.replicate (k + 1) (0 : Int) ++ x0J ((x1G w x).drop (k + 1))).length = w:=by
      rw [List.length_append,List.length_replicate,x1B,List.length_drop,x0N]; omega
    rw [x6V (by omega) (by rw [x2B,hl]; omega),cond_true,half,set_low]
    have e : (((dgN x (w - (k + 1))).toNat : Int) :: x0J ((x1G w x).drop (k + 1))) = x0J ((x1G w x).drop k):=by
      have hlt : k < (x1G w x).length:=by rw [x0N]; omega
      rw [List.drop_eq_getElem_cons hlt]
      have:=z5A x w k (by omega)
      rw [List.getD_eq_getElem?_getD,List.getElem?_eq_getElem hlt] at this
      have this : (x1G w x)[k] = dgN x (w - 1 - k):=this
      rw [this,show w - 1 - k = w - (k + 1) by omega]
      rfl
    rw [e,show w - (k + 1) + 1 = w - k by omega]
    exact digs x w hw hL h0 k M (by omega) (by omega)
theorem and1 {k : IntKind} {j : Nat} (hj : j <= k.bits) (h1 : 1 <= j) (hk : ∀ n : Int, 0 <= n -> n < 2 ^ j -> k.wrap n = n) {x : Nat} (hx : x < 2 ^ j) : y2Q .and k (x : Int) 1 = ((x % 2 : Nat) : Int):=by
  have:=bits_mask k j hj hk 1 h1 (x : Int) (by omega) (by exact_mod_cast hx)
  show bits .and k (x : Int) 1 = _
  rw [show (1 : Int) = 2 ^ 1 - 1 from rfl,this]
  omega
end Go.Yec
namespace Go.Yec
open Go
variable {N : Nat}
theorem wu8 : ∀ n : Int, 0 <= n -> n < 2 ^ 8 -> IntKind.u8.wrap n = n:=fun n h0 h1=>by rw [IntKind.wrap_u8]; omega
theorem wu16 : ∀ n : Int, 0 <= n -> n < 2 ^ 16 -> IntKind.u16.wrap n = n:=fun n h0 h1=>by
  have e : IntKind.u16.wrap n = n % 65536:=by simp [IntKind.wrap,IntKind.bits,IntKind.signed]
  rw [e]; omega
theorem wu64 : ∀ n : Int, 0 <= n -> n < 2 ^ 64 -> IntKind.u64.wrap n = n:=fun n h0 h1=>by rw [IntKind.wrap_u64]; omega
theorem w0J {x b : Nat} (h : x < b) (j : Nat) : x / 2 ^ j < b:=Nat.lt_of_le_of_lt (Nat.div_le_self _ _) h
theorem dg_u8 (x j : Nat) : IntKind.wrap .u8 (48 + ((x / 2 ^ j % 2 : Nat) : Int)) = ((dgN x j).toNat : Int):=by
  rw [w0P,w8 (by omega) (by omega)]
theorem w0K {x w : Nat} (hx : x < 2 ^ 8) (hw : w <= 1000000) (hN : w + 1 <= N) : z5W N (x : Int) (w : Int) = some (x1G w x):=by
  unfold z5W
  rw [decide_eq_true (by omega),cond_true,w64 (by omega) (by omega),Int.toNat_natCast,y0E]
  have:=digs (L:=u6G N) x w hw (fun again j k r hk=>by
    unfold u6G
    simp only
    rw [decide_eq_true (by omega),cond_true,and1 (k:= .u8) (j:= 8) (by decide) (by decide) wu8 (w0J hx j),dg_u8,w64 (n:=(k : Int) - 1) (by omega) (by omega)]
    rfl) (fun again y r=>rfl) w N (Nat.le_refl _) hN
  rw [Nat.sub_self,Nat.pow_zero,Nat.div_one,List.drop_eq_nil_of_le (by rw [x0N]; omega)] at this
  simpa [x0J] using this
theorem dig71 {x w : Nat} (hx : x < 2 ^ 16) (hw : w <= 1000000) (hN : w + 1 <= N) : F_71 N (x : Int) (w : Int) = some (x1G w x):=by
  unfold F_71
  rw [decide_eq_true (by omega),cond_true,w64 (by omega) (by omega),Int.toNat_natCast,y0E]
  have:=digs (L:=w2C N) x w hw (fun again j k r hk=>by
    unfold w2C
    simp only
    rw [decide_eq_true (by omega),cond_true,and1 (k:= .u16) (j:= 16) (by decide) (by decide) wu16 (w0J hx j),w8 (n:=((x / 2 ^ j % 2 : Nat) : Int)) (by omega) (by omega),dg_u8,w64 (n:=(k : Int) - 1) (by omega) (by omega)]
    rfl) (fun again y r=>rfl) w N (Nat.le_refl _) hN
  rw [Nat.sub_self,Nat.pow_zero,Nat.div_one,List.drop_eq_nil_of_le (by rw [x0N]; omega)] at this
  simpa [x0J] using this
theorem dig70 {x w : Nat} (hx : x < 2 ^ 64) (hw : w <= 1000000) (hN : w + 1 <= N) : F_70 N (x : Int) (w : Int) = some (x1G w x):=by
  unfold F_70
  rw [decide_eq_true (by omega),cond_true,w64 (by omega) (by omega),Int.toNat_natCast,y0E]
  have:=digs (L:=w2D N) x w hw (fun again j k r hk=>by
    unfold w2D
    simp only
    rw [decide_eq_true (by omega),cond_true,and1 (k:= .u64) (j:= 64) (by decide) (by decide) wu64 (w0J hx j),w8 (n:=((x / 2 ^ j % 2 : Nat) : Int)) (by omega) (by omega),dg_u8,w64 (n:=(k : Int) - 1) (by omega) (by omega)]
    rfl) (fun again y r=>rfl) w N (Nat.le_refl _) hN
  rw [Nat.sub_self,Nat.pow_zero,Nat.div_one,List.drop_eq_nil_of_le (by rw [x0N]; omega)] at this
  simpa [x0J] using this
theorem bitsB_eq (c : UInt8) : bitsB c = x1G 8 c.toNat:=rfl
end Go.Yec
namespace Go.Yec
open Go
variable {N : Nat}
def pkS (m : Nat) : Nat -> List UInt8
  | 0=>[]
  | k + 1=>x1G 4 (m / 10 ^ k % 10) ++ pkS m k
theorem y2H (m : Nat) : ∀ k,(pkS m k).length = 4 * k
  | 0=>rfl
  | k + 1=>by unfold pkS; rw [List.length_append,x0N,y2H m k]; omega
def pack (p m sg : Nat) : List UInt8:=(cond (decide (p % 2 = 0)) (x1G 4 0) []) ++ pkS m p ++ x1G 4 sg
theorem pk_mod (m k : Nat) : m / 10 ^ k % 10 < 256:=by have : m / 10 ^ k % 10 < 10:=Nat.mod_lt _ (by decide); omega
theorem tmod10 (x : Nat) : Int.tmod (x : Int) 10 = ((x % 10 : Nat) : Int):=by rw [Int.tmod_eq_emod_of_nonneg (by omega)]; omega
theorem tdiv10 (m k : Nat) (h : m < 10 ^ 18) : IntKind.wrap .i64 (Int.tdiv ((m / 10 ^ k : Nat) : Int) 10) = ((m / 10 ^ (k + 1) : Nat) : Int):=by
  have h2 : m / 10 ^ k <= m:=Nat.div_le_self _ _
  rw [Nat.pow_succ, <- Nat.div_div_eq_div_mul]
  generalize m / 10 ^ k = y at h2 |-
  rw [Int.tdiv_eq_ediv_of_nonneg (by omega),w64 (by omega) (by omega)]
  omega
theorem u8A {p m : Nat} (hp : p <= 15) (hm : m < 10 ^ 18) (sg : Nat) (hN : 64 <= N) : iter N (u1A N (p : Int)) ((m : Int),x1G 4 sg, 0) = some (pack p m sg):=by
  have h0 : ((m : Int),x1G 4 sg,(0 : Int)) = (((m / 10 ^ 0 : Nat) : Int),pkS m 0 ++ x1G 4 sg,((0 : Nat) : Int)):=by simp [pkS]
  rw [h0]
  refine x3M (n:=p) (P:=Unit) (fun _ i=>(((m / 10 ^ i : Nat) : Int),pkS m i ++ x1G 4 sg,(i : Int))) (fun _ _=>True) (fun x=>x = some (pack p m sg)) ?_ ?_ () trivial (by omega)
  . intro again _ _
    unfold u1A
    simp only
    rw [decide_eq_false (by omega),cond_false]
    have e : decide (Int.tmod (p : Int) 2 = 0) = decide (p % 2 = 0):=decide_eq_decide.2 (by rw [Int.tmod_eq_emod_of_nonneg (by omega)]; omega)
    rw [e]
    unfold pack
    cases decide (p % 2 = 0)
    . rw [cond_false,cond_false,List.nil_append]
    . rw [cond_true,cond_true,decide_eq_true (by simp [y2H,x0N]; omega),cond_true,List.append_assoc]; rfl
  . intro again _ i _ hi hag
    unfold u1A
    simp only
    rw [decide_eq_true (by omega),cond_true,tmod10]
    have hd:=pk_mod m i
    rw [w8 (by omega) (by omega),show (4 : Int) = ((4 : Nat) : Int) from rfl,w0K (x:=m / 10 ^ i % 10) (w:= 4) hd (by decide) (by omega),Option.bind_some,decide_eq_true (by simp [y2H,x0N]; omega),cond_true,tdiv10 m i hm,x1N (by omega), <- List.append_assoc]
    exact hag () trivial
theorem pack_own {p : Nat} {n : Int} (hp : p <= 15) (hn : n.natAbs < 10 ^ 18) (hN : 64 <= N) : F_69 N (p : Int) n = some (pack p n.natAbs (cond (decide (n < 0)) 13 12)):=by
  unfold F_69
  have e13 : z5W N 13 4 = some (x1G 4 13):=w0K (x:= 13) (w:= 4) (by decide) (by decide) (by omega)
  have e12 : z5W N 12 4 = some (x1G 4 12):=w0K (x:= 12) (w:= 4) (by decide) (by decide) (by omega)
  rw [e13,e12]
  cases h : decide (n < 0)
  . have := of_decide_eq_false h
    rw [cond_false,cond_false,Option.bind_some]
    have:=u8A (p:=p) hp hn 12 hN
    rw [show ((n.natAbs : Nat) : Int) = n by omega] at this
    exact this
  . have := of_decide_eq_true h
    rw [cond_true,cond_true,Option.bind_some,w64 (by omega) (by omega)]
    have:=u8A (p:=p) hp hn 13 hN
    rw [show ((n.natAbs : Nat) : Int) = 0 - n by omega] at this
    exact this
end Go.Yec
namespace Go.Yec
open Go
variable {N : Nat}
theorem w1T {x w i : Nat} (h : i < w) : x % 2 ^ w / 2 ^ i % 2 = x / 2 ^ i % 2:=by
  have e : (x % 2 ^ w).testBit i = x.testBit i:=by rw [Nat.testBit_mod_two_pow,decide_eq_true h,Bool.true_and]
  rw [Nat.testBit_eq_decide_div_mod_eq,Nat.testBit_eq_decide_div_mod_eq,decide_eq_decide] at e
  omega
theorem y9L (x : Nat) {w : Nat} : ∀ k,k <= w -> x1G k (x % 2 ^ w) = x1G k x
  | 0,_=>rfl
  | k + 1, h => by
    unfold x1G
    rw [y9L x k (by omega)]
    unfold dgN
    rw [w1T (by omega)]
end Go.Yec
namespace Go.Yec
open Go
variable {N : Nat}
noncomputable def encS (k p : Int) (v : Bool) (n : Int) (u : List UInt8) : List UInt8 :=
  cond (decide (k = 1)) (pack p.toNat n.natAbs (cond (decide (n < 0)) 13 12))
  (cond (decide (k = 2)) (cond (decide (p <= 15)) (x1G 16 (n % 65536).toNat) (x1G 32 (n % 4294967296).toNat))
  (cond (decide (k = 4)) u
  (cond (decide (k = 6)) (x1G 32 n.toNat)
  (cond v (x1G 16 u.length ++ hBits u) (hBits u)))))
theorem va12 {k p n : Int} {v : Bool} {pic u : List UInt8} (hk : k = 1 \/ k = 2) (h : vaS k p v pic n u = true) : u = [] /\ 0 - bndS k p < n /\ n < bndS k p:=by
  unfold vaS at h
  have h : (decide (u = []) && (!(decide (n <= 0 - bndS k p)) && !(decide (bndS k p <= n)))) = true:=by
    rcases hk with rfl | rfl
    . exact h
    . exact h
  simp only [Bool.and_eq_true,decide_eq_true_eq,Bool.not_eq_true',decide_eq_false_iff_not] at h
  exact ⟨h.1,by omega,by omega⟩
theorem va3 {p n : Int} {v : Bool} {pic u : List UInt8} (h : vaS 3 p v pic n u = true) : n = 0 /\ slen u <= p:=by
  unfold vaS at h
  have h : (decide (n = 0) && (decide (slen u = p) || (v && decide (slen u < p)))) = true:=h
  simp only [Bool.and_eq_true,Bool.or_eq_true,decide_eq_true_eq] at h
  exact ⟨h.1,by rcases h.2 with h | h <;> omega⟩
theorem va4 {p n : Int} {v : Bool} {pic u : List UInt8} (h : vaS 4 p v pic n u = true) : n = 0 /\ slen u = p:=by
  unfold vaS at h
  have h : ((decide (n = 0) && decide (slen u = p)) && bsS u) = true:=h
  simp only [Bool.and_eq_true,decide_eq_true_eq] at h
  exact h.1
theorem va5 {p n : Int} {v : Bool} {pic u : List UInt8} (h : vaS 5 p v pic n u = true) : n = 0 /\ u.length <= 32:=by
  unfold vaS at h
  have h : (decide (n = 0) && x8Y pic u) = true:=h
  simp only [Bool.and_eq_true,decide_eq_true_eq] at h
  refine ⟨h.1, ?_⟩
  have h2:=h.2
  unfold x8Y at h2
  split at h2
  . cases h2
  . rename_i o ho
    have hl:=x8M ho
    split at h2
    . simp only [Bool.and_eq_true,decide_eq_true_eq] at h2; omega
    . split at h2
      . simp only [Bool.and_eq_true,decide_eq_true_eq] at h2; omega
      . cases h2
theorem va6 {p n : Int} {v : Bool} {pic u : List UInt8} (h : vaS 6 p v pic n u = true) : u = [] /\ 0 <= n /\ n <= 524288:=by
  unfold vaS at h
  have h : (decide (u = []) && (decide (0 <= n) && decide (n <= 524288))) = true:=h
  simp only [Bool.and_eq_true,decide_eq_true_eq] at h
  exact h
theorem ty3 {p q : Int} {v : Bool} {pic : List UInt8} (h : tyS 3 p q v pic = true) : 0 <= p /\ p <= 255:=by
  unfold tyS at h
  have h : (decide (pic = []) && ((decide (0 <= p) && decide (p <= 255)) && decide (q = 0))) = true:=h
  simp only [Bool.and_eq_true,decide_eq_true_eq] at h
  exact h.2.1
theorem ty5 {p q : Int} {v : Bool} {pic : List UInt8} (h : tyS 5 p q v pic = true) : v = false:=by
  unfold tyS at h
  have h : (!v && ((decide (p = 0) && decide (q = 0)) && decide ((picS pic).2 = 0))) = true:=h
  simp only [Bool.and_eq_true,Bool.not_eq_true'] at h
  exact h.1
theorem bnd2 {p : Int} (m : Nat) (h : p <= m) : bndS 2 p <= ((2 ^ m : Nat) : Int):=by
  unfold bndS
  have : 2 ^ p.toNat <= 2 ^ m:=Nat.pow_le_pow_right (by omega) (by omega)
  generalize 2 ^ p.toNat = x at this |-
  generalize 2 ^ m = y at this |-
  show (x : Int) <= _
  omega
theorem sz2 {p q : Int} {v : Bool} {pic : List UInt8} (h : tyS 2 p q v pic = true) : szS 2 p q v pic = cond (decide (p <= 15)) 16 32:=by unfold szS; rw [h]; rfl
theorem sz6 {p q : Int} {v : Bool} {pic : List UInt8} (h : tyS 6 p q v pic = true) : szS 6 p q v pic = 32:=by unfold szS; rw [h]; rfl
theorem hOk {u : List UInt8} (h : u.length <= 300) : x7K u = true:=decide_eq_true (by omega)
theorem neg16 {n : Int} (hN : 1100 <= N) : F_70 N (IntKind.wrap .u64 n) 16 = some (x1G 16 (n % 65536).toNat):=by
  have e : IntKind.wrap .u64 n = (((n % 18446744073709551616).toNat : Nat) : Int):=by rw [IntKind.wrap_u64]; omega
  rw [e,show (16 : Int) = ((16 : Nat) : Int) from rfl,dig70 (by omega) (by omega) (by omega), <- y9L (w:= 16) _ 16 (Nat.le_refl _)]
  rw [show (n % 18446744073709551616).toNat % 2 ^ 16 = (n % 65536).toNat by omega]
theorem neg32 {n : Int} (hN : 1100 <= N) : F_70 N (IntKind.wrap .u64 n) 32 = some (x1G 32 (n % 4294967296).toNat):=by
  have e : IntKind.wrap .u64 n = (((n % 18446744073709551616).toNat : Nat) : Int):=by rw [IntKind.wrap_u64]; omega
  rw [e,show (32 : Int) = ((32 : Nat) : Int) from rfl,dig70 (by omega) (by omega) (by omega), <- y9L (w:= 32) _ 32 (Nat.le_refl _)]
  rw [show (n % 18446744073709551616).toNat % 2 ^ 32 = (n % 4294967296).toNat by omega]
noncomputable def encR (k p q : Int) (v : Bool) (pic : List UInt8) (n : Int) (u : List UInt8) : List UInt8 × Int :=
  cond (tyS k p q v pic && !(decide (k = 7))) (cond (vaS k p v pic n u) (encS k p v n u, 0) ([], 6)) ([], 5)
theorem enc_own {k p q n : Int} {v : Bool} {pic u : List UInt8} (hl : pic.length <= 1000) (hN : 1100 <= N) : F_23 N k p q v pic n u = some (encR k p q v pic n u) := by
  unfold F_23 encR
  rw [u6Y hl hN]
  simp only [Option.bind_some]
  cases hty : (tyS k p q v pic && !(decide (k = 7)))
  . rfl
  . cases hva : vaS k p v pic n u
    . rfl
    . rw [Bool.and_eq_true, Bool.not_eq_true'] at hty
      obtain ⟨hty,h7⟩:=hty
      have h7:=of_decide_eq_false h7
      simp only [cond_true,decide_true,Bool.not_true,cond_false]
      unfold encS
      rcases z8A k with e | e | e | e | e | e | e | ⟨h1,h2,h3,h4,h5,h6,h7⟩
      . subst e
        obtain ⟨a1,a2⟩:=x5X (.inl rfl) hty
        obtain ⟨l1,l2⟩:=y9G a1
        obtain ⟨_,b1,b2⟩:=va12 (.inl rfl) hva
        simp only [decide_true,cond_true]
        have:=pack_own (N:=N) (p:=p.toNat) (n:=n) (by omega) (by omega) (by omega)
        rw [show ((p.toNat : Nat) : Int) = p by omega] at this
        rw [this]; rfl
      . subst e
        rw [z6P hl hN,sz2 hty]
        cases hp : decide (p <= 15)
        . simp only [cond_true, cond_false, Option.bind_some, decide_true, show decide ((2 : Int) = 1) = false from rfl]
          rw [neg32 hN]; rfl
        . simp only [cond_true, cond_false, Option.bind_some, decide_true, show decide ((2 : Int) = 1) = false from rfl]
          rw [neg16 hN]; rfl
      . subst e
        obtain ⟨p0,p1⟩:=ty3 hty
        obtain ⟨_,b1⟩:=va3 hva
        rw [x0H] at b1
        have hu:=hOk (u:=u) (by omega)
        cases v
        . show cond (x7K u) _ _ = _
          rw [hu]; rfl
        . have := dig71 (N := N) (x := u.length) (w := 16) (by omega) (by decide) (by omega)
          have ew : IntKind.wrap .u16 (slen u) = (u.length : Int):=wu16 _ (by rw [x0H]; omega) (by rw [x0H]; omega)
          show Option.bind (F_71 N (IntKind.wrap .u16 (slen u)) 16) _ = _
          rw [ew,show (16 : Int) = ((16 : Nat) : Int) from rfl,this,Option.bind_some,hu,cond_true,decide_eq_true (by rw [x0N,hBits_len]; omega)]
          rfl
      . subst e; rfl
      . subst e
        obtain ⟨_,b1⟩:=va5 hva
        obtain rfl:=ty5 hty
        have hu:=hOk (u:=u) (by omega)
        show cond (x7K u) _ _ = _
        rw [hu]; rfl
      . subst e
        obtain ⟨_,b0,b1⟩:=va6 hva
        rw [z6P hl hN,sz6 hty]
        show Option.bind (F_70 N (IntKind.wrap .u64 n) 32) _ = _
        rw [neg32 hN,show (n % 4294967296).toNat = n.toNat by omega]; rfl
      . exact absurd e h7
      . unfold tyS at hty
        rw [decide_eq_false h1,decide_eq_false h2,decide_eq_false h3,decide_eq_false h4,decide_eq_false h5,decide_eq_false h6,decide_eq_false h7] at hty
        cases hty
end Go.Yec
namespace Go.Yec
open Go
variable {N : Nat}
def BitL (s : List UInt8) : Prop:= ∀ c,c ∈ s -> c = 48 \/ c = 49
theorem bitL_of {s : List UInt8} (h : bsS s = true) : BitL s:=fun c hc=>by
  obtain ⟨i,hi,rfl⟩:=mem_bt.1 hc
  unfold bsS at h
  rw [List.all_eq_true] at h
  have:=h i (List.mem_range.2 hi)
  simpa using this
theorem BitL.sub {s t : List UInt8} (h : BitL s) (ht : ∀ c,c ∈ t -> c ∈ s) : BitL t:=fun c hc=>h c (ht c hc)
theorem BitL.part {s : List UInt8} (h : BitL s) (a b : Nat) : BitL ((s.drop a).take b):=h.sub fun _ hc=>List.mem_of_mem_drop (List.mem_of_mem_take hc)
theorem BitL.at {s : List UInt8} (h : BitL s) {i : Nat} (hi : i < s.length) : bt s i = 48 \/ bt s i = 49:=h _ (mem_bt.2 ⟨i,hi,rfl⟩)
def bvT (s : List UInt8) : Nat -> Nat
  | 0=> 0
  | i + 1=> 2 * bvT s i + ((bt s i).toNat - 48)
def bv (s : List UInt8) : Nat:=bvT s s.length
theorem w1K {s : List UInt8} (h : BitL s) : ∀ i,i <= s.length -> bvT s i < 2 ^ i
  | 0,_=>by simp [bvT]
  | i + 1, hi => by
    have ih:=w1K h i (by omega)
    unfold bvT
    rw [Nat.pow_succ]
    rcases h.at (i:=i) (by omega) with e | e <;> rw [e]
    . show 2 * bvT s i + 0 < _; omega
    . show 2 * bvT s i + 1 < _; omega
theorem bv_lt {s : List UInt8} (h : BitL s) : bv s < 2 ^ s.length:=w1K h _ (Nat.le_refl _)
theorem bit_num {s : List UInt8} (h : BitL s) {i : Nat} (hi : i < s.length) : IntKind.wrap .u8 (sget s (i : Int) - 48) = (((bt s i).toNat - 48 : Nat) : Int) /\ (bt s i).toNat - 48 < 2:=by
  rw [x1L]
  rcases h.at hi with e | e <;> rw [e] <;> exact ⟨by decide,by decide⟩
theorem y1C {s : List UInt8} (h : BitL s) {L : (Int × Int -> Option Int) -> Int × Int -> Option Int} {w : Nat} (hl : s.length <= w) (hw : w <= 60)
    (hL : ∀ again (i x b : Nat),i < s.length -> x < 2 ^ i -> IntKind.wrap .u8 (sget s (i : Int) - 48) = (b : Int) -> b < 2 -> L again ((x : Int),(i : Int)) = again (((2 * x + b : Nat) : Int),((i + 1 : Nat) : Int)))
    (h0 : ∀ again x,L again (x,((s.length : Nat) : Int)) = some x) (hN : 64 <= N) : iter N L (0, 0) = some ((bv s : Nat) : Int):=by
  refine x3M (n:=s.length) (P:=Unit) (fun _ i=>(((bvT s i : Nat) : Int),(i : Int))) (fun _ _=>True) (fun x=>x = some ((bv s : Nat) : Int)) ?_ ?_ () trivial (by omega)
  . intro again _ _
    exact h0 _ _
  . intro again _ i _ hi hag
    obtain ⟨e1,e2⟩:=bit_num h hi
    rw [hL again i (bvT s i) _ hi (w1K h i (by omega)) e1 e2]
    exact hag () trivial
theorem v6L {k : IntKind} {j : Nat} (hj : j <= k.bits) (h1 : 1 <= j) (hk : ∀ n : Int, 0 <= n -> n < 2 ^ j -> k.wrap n = n) {x b : Nat} (hx : 2 * x < 2 ^ j) (hb : b < 2) : y2Q .or k ((2 * x : Nat) : Int) (b : Int) = ((2 * x + b : Nat) : Int):=by
  have h2 : (2 : Nat) ^ 1 <= 2 ^ j:=Nat.pow_le_pow_right (by decide) h1
  have:=bits_join k j hj hk 1 ((2 * x : Nat) : Int) (b : Int) (by omega) (by omega) (by exact_mod_cast hx) (by omega) (by omega) (by
    have : b < 2 ^ j:=by omega
    exact_mod_cast this)
  show bits .or k _ _ = _
  rw [this]; omega
theorem wu32 : ∀ n : Int, 0 <= n -> n < 2 ^ 32 -> IntKind.u32.wrap n = n:=fun n h0 h1=>by rw [IntKind.wrap_u32]; omega
theorem u7T {i w : Nat} (h : i < w) {x : Nat} (hx : x < 2 ^ i) : 2 * x < 2 ^ w:=by
  have : 2 ^ (i + 1) <= 2 ^ w:=Nat.pow_le_pow_right (by decide) h
  rw [Nat.pow_succ] at this
  omega
theorem v6X {s : List UInt8} (h : BitL s) (hl : s.length <= 16) (hN : 64 <= N) : z5V N s = some ((bv s : Nat) : Int):=by
  unfold z5V
  refine y1C h hl (by decide) (fun again i x b hi hx e hb=> ?_) (fun again x=> ?_) hN
  . have hx2 := u7T (w := 16) (by omega) hx
    unfold u6F
    simp only
    rw [x2P hi,cond_true,x0T hi,cond_true,e,wu16 (b : Int) (by omega) (by omega),show ((x : Int) * (2 ^ min (Int.toNat 1) (IntKind.bits .u16))) = ((2 * x : Nat) : Int) by (show (x : Int) * 2 = _; omega),wu16 _ (by omega) (by omega),v6L (j:= 16) (by decide) (by decide) wu16 hx2 hb,x1N (by omega)]
  . unfold u6F
    simp only
    rw [x2N,cond_false]
theorem num112 {s : List UInt8} (h : BitL s) (hl : s.length <= 32) (hN : 64 <= N) : u1J N s = some ((bv s : Nat) : Int):=by
  unfold u1J
  refine y1C h hl (by decide) (fun again i x b hi hx e hb=> ?_) (fun again x=> ?_) hN
  . have hx2 := u7T (w := 32) (by omega) hx
    unfold u6E
    simp only
    rw [x2P hi,cond_true,x0T hi,cond_true,e,wu32 (b : Int) (by omega) (by omega),show ((x : Int) * (2 ^ min (Int.toNat 1) (IntKind.bits .u32))) = ((2 * x : Nat) : Int) by (show (x : Int) * 2 = _; omega),wu32 _ (by omega) (by omega),v6L (j:= 32) (by decide) (by decide) wu32 hx2 hb,x1N (by omega)]
  . unfold u6E
    simp only
    rw [x2N,cond_false]
theorem v6W {s : List UInt8} (h : BitL s) (hl : s.length <= 8) (hN : 64 <= N) : u6N N s = some ((bv s : Nat) : Int):=by
  unfold u6N
  refine y1C h hl (by decide) (fun again i x b hi hx e hb=> ?_) (fun again x=> ?_) hN
  . have hx2 := u7T (w := 8) (by omega) hx
    unfold u5Y
    simp only
    rw [x2P hi,cond_true,x0T hi,cond_true,e,show ((x : Int) * (2 ^ min (Int.toNat 1) (IntKind.bits .u8))) = ((2 * x : Nat) : Int) by (show (x : Int) * 2 = _; omega),wu8 _ (by omega) (by omega),v6L (j:= 8) (by decide) (by decide) wu8 hx2 hb,x1N (by omega)]
  . unfold u5Y
    simp only
    rw [x2N,cond_false]
theorem z6W {s : List UInt8} (h : BitL s) (hl : s.length <= 60) (hN : 64 <= N) : F_115 N s = some ((bv s : Nat) : Int):=by
  unfold F_115
  refine y1C h hl (by decide) (fun again i x b hi hx e hb=> ?_) (fun again x=> ?_) hN
  . have hx2 := u7T (w := 60) (by omega) hx
    unfold u6C
    simp only
    rw [x2P hi,cond_true,x0T hi,cond_true,e,w64 (n:=(b : Int)) (by omega) (by omega),w64 (n:= 2 * (x : Int)) (by omega) (by omega),w64 (by omega) (by omega),x1N (by omega)]
    rfl
  . unfold u6C
    simp only
    rw [x2N,cond_false]
def txt (s : List UInt8) (m : Nat) : List UInt8:=(List.range m).map fun i=>(bv ((s.drop (8 * i)).take 8)).toUInt8
theorem u1M (s : List UInt8) (m : Nat) : (txt s m).length = m:=by unfold txt; rw [List.length_map,List.length_range]
theorem txt_succ (s : List UInt8) (m : Nat) : txt s (m + 1) = txt s m ++ [(bv ((s.drop (8 * m)).take 8)).toUInt8]:=by unfold txt; rw [List.range_succ,List.map_append]; rfl
theorem x9F {s : List UInt8} {a b : Nat} (h : a + b <= s.length) : ((s.drop a).take b).length = b:=by rw [List.length_take,List.length_drop]; omega
theorem v6J {s : List UInt8} (hb : BitL s) {a b : Nat} (h : a + b <= s.length) : bv ((s.drop a).take b) < 2 ^ b:=by
  have:=bv_lt (hb.part a b)
  rw [x9F h] at this
  exact this
theorem byte_nat {x : Nat} (h : x < 256) : ((x.toUInt8.toNat : Nat) : Int) = (x : Int):=by
  rw [Nat.toUInt8,UInt8.toNat_ofNat']; omega
theorem one_byte {x : Nat} (h : x < 256) : x0J [x.toUInt8] = [(x : Int)]:=congrArg (fun y=>[y]) (byte_nat h)
theorem x8F {s : List UInt8} {a b : Nat} : ssub s (a : Int) ((a + b : Nat) : Int) = (s.drop a).take b:=by
  unfold ssub
  rw [Int.toNat_natCast,Int.toNat_natCast,show a + b - a = b by omega]
theorem y1S {s : List UInt8} (hb : BitL s) {m : Nat} (hm : m <= 1000) (hl : s.length = 8 * m) (hN : 1100 <= N) : u1H N s = some (txt s m):=by
  unfold u1H
  have e : IntKind.wrap .i64 (Int.tdiv (slen s) 8) = (m : Int):=by
    rw [x0H,Int.tdiv_eq_ediv_of_nonneg (by omega),w64 (by omega) (by omega)]; omega
  rw [e,decide_eq_true (by omega),cond_true,Int.toNat_natCast,y0E]
  have e0 : ((0 : Int),List.replicate m (0 : Int)) = (((0 : Nat) : Int),x0J (txt s 0) ++ List.replicate (m - 0) 0):=rfl
  rw [e0]
  refine x3M (n:=m) (P:=Unit) (fun _ i=>((i : Int),x0J (txt s i) ++ List.replicate (m - i) 0)) (fun _ _=>True) (fun x=>x = some (txt s m)) ?_ ?_ () trivial (by omega)
  . intro again _ _
    unfold u6D
    simp only
    rw [e,Int.toNat_natCast,y0E,decide_eq_false (by rw [x2B,List.length_replicate]; omega),cond_false,Nat.sub_self]
    simp only [List.replicate_zero,List.append_nil,x2M]
  . intro again _ i _ hi hag
    unfold u6D
    simp only
    have hp : 8 * i + 8 <= s.length:=by omega
    have hlt:=v6J hb hp
    have c1 : IntKind.wrap .i64 (8 * (i : Int)) = ((8 * i : Nat) : Int):=by rw [w64 (by omega) (by omega)]; omega
    have c2 : IntKind.wrap .i64 (((8 * i : Nat) : Int) + 8) = ((8 * i + 8 : Nat) : Int):=by rw [w64 (by omega) (by omega)]; omega
    rw [e,Int.toNat_natCast,y0E,decide_eq_true (by rw [x2B,List.length_replicate]; omega),cond_true,c1,c2,decide_eq_true (by rw [x0H]; omega),cond_true,x8F,v6W (hb.part _ _) (by rw [x9F hp]; decide) (by omega),Option.bind_some,
      x6V (by omega) (by rw [x2B,List.length_append,x1B,u1M,List.length_replicate]; omega),cond_true,x1N (by omega)]
    have e3 : x4Y (x0J (txt s i) ++ List.replicate (m - i) 0) (i : Int) ((bv ((s.drop (8 * i)).take 8) : Nat) : Int) = x0J (txt s (i + 1)) ++ List.replicate (m - (i + 1)) 0:=by
      unfold x4Y
      rw [Int.toNat_natCast,List.set_append_right _ _ (by rw [x1B,u1M]; omega),x1B,u1M,Nat.sub_self,show m - i = (m - (i + 1)) + 1 by omega,List.replicate_succ,List.set_cons_zero,txt_succ,x7C,List.append_assoc,one_byte (by omega)]
      rfl
    rw [e3]
    exact hag () trivial
end Go.Yec
namespace Go.Yec
open Go
variable {N : Nat}
def nib (s : List UInt8) (i : Nat) : Nat:=bv ((s.drop (4 * i)).take 4)
def un (s : List UInt8) : Nat -> Nat -> Nat -> Option Nat
  | 0,_,a=>some a
  | k + 1,i,a=>cond (decide (9 < nib s i)) none (un s k (i + 1) (10 * a + nib s i))
theorem nib_lt {s : List UInt8} (hb : BitL s) {i : Nat} (h : 4 * i + 4 <= s.length) : nib s i < 16:=v6J hb h
def unR (s : List UInt8) (c : Nat) : Option Nat -> Option (Int × Bool)
  | none=>some (0,false)
  | some m=>cond (decide (nib s c = 13)) (some (0 - (m : Int),true)) (some ((m : Int),decide (nib s c = 12)))
def unO (s : List UInt8) (c : Nat) : Option Nat -> Option (Int × Bool)
  | none=>some (0,false)
  | some m=>cond (decide (nib s c = 12)) (some ((m : Int),true)) (cond (decide (nib s c = 13)) (some (0 - (m : Int),true)) (some (0,false)))
theorem v7C (a b : Nat) : decide ((a : Int) = (b : Int)) = decide (a = b):=decide_eq_decide.2 (by omega)
theorem z7U (a : Nat) : decide ((a : Int) = 13) = decide (a = 13):=v7C a 13
theorem z7V (a : Nat) : decide ((a : Int) = 12) = decide (a = 12):=v7C a 12
theorem u8G (a : Nat) : decide ((9 : Int) < (a : Int)) = decide (9 < a):=decide_eq_decide.2 (by omega)
theorem un_ref {s : List UInt8} (hb : BitL s) {c : Nat} (hc : c <= 11) (hl : s.length = 4 * c + 4) (hN : 1100 <= N) : ∀ (k M i a : Nat),i + k = c -> a < 10 ^ i -> k + 1 <= M -> iter M (z5P N s) ((a : Int),((4 * i : Nat) : Int)) = unR s c (un s k i a)
  | 0, M, i, a, hi, ha, hM => by
    obtain ⟨M,rfl,_⟩:=x2X hM
    obtain rfl : i = c:=by omega
    have hp : 10 ^ i <= 10 ^ 11:=Nat.pow_le_pow_right (by decide) hc
    rw [x1E]
    unfold z5P
    simp only
    have e1 : IntKind.wrap .i64 (slen s - 4) = ((4 * i : Nat) : Int):=by rw [x0H,w64 (by omega) (by omega)]; omega
    have e2 : slen s = ((4 * i + 4 : Nat) : Int):=by rw [x0H,hl]
    rw [e1,decide_eq_false (by omega),cond_false,decide_eq_true (by rw [x0H]; omega),cond_true,e2,x8F,z6W (hb.part _ _) (by rw [x9F (by omega)]; decide) (by omega),Option.bind_some,z7U,z7V,w64 (n:= 0 - (a : Int)) (by omega) (by omega)]
    rfl
  | k + 1, M, i, a, hi, ha, hM => by
    obtain ⟨M,rfl,hM'⟩:=x2X hM
    have hp : 10 ^ i <= 10 ^ 11:=Nat.pow_le_pow_right (by decide) (by omega)
    have ih:=un_ref hb hc hl hN k M (i + 1) (10 * a + nib s i) (by omega)
    have hn:=nib_lt hb (i:=i) (by omega)
    rw [x1E]
    generalize iter M (z5P N s) = again at ih |-
    unfold z5P
    simp only
    have e1 : IntKind.wrap .i64 (slen s - 4) = ((4 * c : Nat) : Int):=by rw [x0H,w64 (by omega) (by omega)]; omega
    have e2 : IntKind.wrap .i64 (((4 * i : Nat) : Int) + 4) = ((4 * i + 4 : Nat) : Int):=by rw [w64 (by omega) (by omega)]; omega
    rw [e1,decide_eq_true (by omega),cond_true,e2,decide_eq_true (by rw [x0H]; omega),cond_true,x8F,z6W (hb.part _ _) (by rw [x9F (by omega)]; decide) (by omega),Option.bind_some]
    show cond (decide ((9 : Int) < ((nib s i : Nat) : Int))) _ (again (IntKind.wrap .i64 (IntKind.wrap .i64 (10 * (a : Int)) + ((nib s i : Nat) : Int)),_)) = unR s c (cond (decide (9 < nib s i)) none (un s k (i + 1) (10 * a + nib s i)))
    rw [u8G]
    cases hd : decide (9 < nib s i)
    . rw [cond_false, cond_false]
      have hd:=of_decide_eq_false hd
      rw [w64 (n:= 10 * (a : Int)) (by omega) (by omega),w64 (by omega) (by omega)]
      have:=ih (by rw [Nat.pow_succ]; omega) hM'
      rw [show 4 * (i + 1) = 4 * i + 4 by omega] at this
      rw [<- this]
      congr 1
    . rfl
theorem v5C {s : List UInt8} (hb : BitL s) {c : Nat} (hc : c <= 11) (hl : s.length = 4 * c + 4) (hN : 1100 <= N) : ∀ (k M i a : Nat),i + k = c -> a < 10 ^ i -> k + 1 <= M -> iter M (y3J N) (s.drop (4 * i),(a : Int)) = unO s c (un s k i a)
  | 0, M, i, a, hi, ha, hM => by
    obtain ⟨M,rfl,_⟩:=x2X hM
    obtain rfl : i = c:=by omega
    have hp : 10 ^ i <= 10 ^ 11:=Nat.pow_le_pow_right (by decide) hc
    have h4 : (s.drop (4 * i)).length = 4:=by rw [List.length_drop]; omega
    have e4 : (s.drop (4 * i)).take 4 = s.drop (4 * i):=List.take_of_length_le (by omega)
    rw [x1E]
    unfold y3J
    simp only
    rw [decide_eq_false (by rw [x0H,h4]; decide),cond_false, <- e4,v6W (hb.part _ _) (by rw [x9F (by omega)]; decide) (by omega),Option.bind_some,z7U,z7V,w64 (n:= 0 - (a : Int)) (by omega) (by omega)]
    rfl
  | k + 1, M, i, a, hi, ha, hM => by
    obtain ⟨M,rfl,hM'⟩:=x2X hM
    have hp : 10 ^ i <= 10 ^ 11:=Nat.pow_le_pow_right (by decide) (by omega)
    have ih:=v5C hb hc hl hN k M (i + 1) (10 * a + nib s i) (by omega)
    have hn:=nib_lt hb (i:=i) (by omega)
    have h4 : (s.drop (4 * i)).length = 4 * k + 8:=by rw [List.length_drop]; omega
    rw [x1E]
    generalize iter M (y3J N) = again at ih |-
    unfold y3J
    simp only
    have d1 : decide ((4 : Int) < slen (s.drop (4 * i))) = true:=decide_eq_true (by rw [x0H,h4]; omega)
    have d2 : decide ((0 : Int) <= 4 /\ (4 : Int) <= slen (s.drop (4 * i))) = true:=decide_eq_true (by rw [x0H,h4]; omega)
    have t1 : ssub (s.drop (4 * i)) 0 4 = (s.drop (4 * i)).take 4:=x5D (n:= 4)
    have t2 : ssub (s.drop (4 * i)) 4 (slen (s.drop (4 * i))) = s.drop (4 * (i + 1)):=by
      have:=y6A (s:=s.drop (4 * i)) (n:= 4)
      rw [List.drop_drop,show 4 * i + 4 = 4 * (i + 1) by omega] at this
      exact this
    rw [d1,cond_true,d2,cond_true,t1,v6W (hb.part _ _) (by rw [x9F (by omega)]; decide) (by omega),Option.bind_some,t2,cond_true]
    show cond (decide ((9 : Int) < ((nib s i : Nat) : Int))) _ (again (_,IntKind.wrap .i64 (IntKind.wrap .i64 (10 * (a : Int)) + IntKind.wrap .i64 ((nib s i : Nat) : Int)))) = unO s c (cond (decide (9 < nib s i)) none (un s k (i + 1) (10 * a + nib s i)))
    rw [u8G]
    cases hd : decide (9 < nib s i)
    . rw [cond_false, cond_false]
      have hd:=of_decide_eq_false hd
      rw [w64 (n:= 10 * (a : Int)) (by omega) (by omega),w64 (n:=((nib s i : Nat) : Int)) (by omega) (by omega),w64 (by omega) (by omega)]
      have:=ih (by rw [Nat.pow_succ]; omega) hM'
      rw [<- this]
      congr 1
    . rfl
end Go.Yec
namespace Go.Yec
open Go
variable {N : Nat}
def up (r : Int × Bool) : (Int × List UInt8) × Bool:=((r.1,[]),r.2)
end Go.Yec
