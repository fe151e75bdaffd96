/-
  BITS, PLAIN LEAN: unpacked of both texts.; BITS, PLAIN LEAN: Decode of both texts is the same.
-/
import Derived.Test.YtadaoelabimmkaaGreatDoorZ8
set_option linter.all false
namespace Go.Yec
open Go
variable {N : Nat}
def nib (s : List UInt8) (i : Nat) : Nat := bv ((s.drop (4 * i)).take 4)
def un (s : List UInt8) : Nat → Nat → Nat → Option Nat
 | 0, _, a => some a
 | k + 1, i, a => cond (decide (9 < nib s i)) none (un s k (i + 1) (10 * a + nib s i))
theorem un_ge {s : List UInt8} : ∀ (k i a m : Nat), un s k i a = some m → a * 10 ^ k ≤ m
 | 0, i, a, m, h => by
  have : a = m := Option.some.inj h
  omega
 | k + 1, i, a, m, h => by
  unfold un at h
  cases hd : decide (9 < nib s i)
  ·rw [hd, cond_false] at h
   have ih := un_ge k (i + 1) _ m h
   rw [Nat.pow_succ]
   have h1 : a * (10 ^ k * 10) = (10 * a) * 10 ^ k := by rw [Nat.mul_comm 10 a, Nat.mul_assoc, Nat.mul_comm (10 ^ k) 10]
   have h2 : (10 * a) * 10 ^ k ≤ (10 * a + nib s i) * 10 ^ k := Nat.mul_le_mul_right _ (by omega)
   omega
  ·rw [hd] at h; cases h
theorem nib_lt {s : List UInt8} (hb : BitL s) {i : Nat} (h : 4 * i + 4 ≤ s.length) : nib s i < 16 := part_lt hb h
def unR (s : List UInt8) (c : Nat) : Option Nat → Option (Int × Bool)
 | none => some (0, false)
 | some m => cond (decide (nib s c = 13)) (some (0 - (m : Int), true)) (some ((m : Int), decide (nib s c = 12)))
def unO (s : List UInt8) (c : Nat) : Option Nat → Option (Int × Bool)
 | none => some (0, false)
 | some m => cond (decide (nib s c = 12)) (some ((m : Int), true)) (cond (decide (nib s c = 13)) (some (0 - (m : Int), true)) (some (0, false)))
theorem nat_dec (a b : Nat) : decide ((a : Int) = (b : Int)) = decide (a = b) := decide_eq_decide.2 (by omega)
theorem nat_dec13 (a : Nat) : decide ((a : Int) = 13) = decide (a = 13) := nat_dec a 13
theorem nat_dec12 (a : Nat) : decide ((a : Int) = 12) = decide (a = 12) := nat_dec a 12
theorem nat_dec9 (a : Nat) : decide ((9 : Int) < (a : Int)) = decide (9 < a) := decide_eq_decide.2 (by omega)
theorem un_ref {s : List UInt8} (hb : BitL s) {c : Nat} (hc : c ≤ 11) (hl : s.length = 4 * c + 4) (hN : 1100 ≤ N) : ∀ (k M i a : Nat), i + k = c → a < 10 ^ i → k + 1 ≤ M → iter M (L_114_1 N s) ((a : Int), ((4 * i : Nat) : Int)) = unR s c (un s k i a)
 | 0, M, i, a, hi, ha, hM => by
  obtain ⟨M, rfl, _⟩ := iter_ge hM
  obtain rfl : i = c := by omega
  have hp : 10 ^ i ≤ 10 ^ 11 := Nat.pow_le_pow_right (by decide) hc
  rw [iter_succ]
  unfold L_114_1
  simp only
  have e1 : IntKind.wrap .i64 (slen s - 4) = ((4 * i : Nat) : Int) := by rw [slen_nat, w64 (by omega) (by omega)]; omega
  have e2 : slen s = ((4 * i + 4 : Nat) : Int) := by rw [slen_nat, hl]
  rw [e1, decide_eq_false (by omega), cond_false, decide_eq_true (by rw [slen_nat]; omega), cond_true, e2, ssub_part, read_ref' (hb.part _ _) (by rw [part_len (by omega)]; decide) (by omega), Option.bind_some, nat_dec13, nat_dec12, w64 (n := 0 - (a : Int)) (by omega) (by omega)]
  rfl
 | k + 1, M, i, a, hi, ha, hM => by
  obtain ⟨M, rfl, hM'⟩ := iter_ge hM
  have hp : 10 ^ i ≤ 10 ^ 11 := Nat.pow_le_pow_right (by decide) (by omega)
  have ih := un_ref hb hc hl hN k M (i + 1) (10 * a + nib s i) (by omega)
  have hn := nib_lt hb (i := i) (by omega)
  rw [iter_succ]
  generalize iter M (L_114_1 N s) = again at ih ⊢
  unfold L_114_1
  simp only
  have e1 : IntKind.wrap .i64 (slen s - 4) = ((4 * c : Nat) : Int) := by rw [slen_nat, w64 (by omega) (by omega)]; omega
  have e2 : IntKind.wrap .i64 (((4 * i : Nat) : Int) + 4) = ((4 * i + 4 : Nat) : Int) := by rw [w64 (by omega) (by omega)]; omega
  rw [e1, decide_eq_true (by omega), cond_true, e2, decide_eq_true (by rw [slen_nat]; omega), cond_true, ssub_part, read_ref' (hb.part _ _) (by rw [part_len (by omega)]; decide) (by omega), Option.bind_some]
  show cond (decide ((9 : Int) < ((nib s i : Nat) : Int))) _ (again (IntKind.wrap .i64 (IntKind.wrap .i64 (10 * (a : Int)) + ((nib s i : Nat) : Int)), _)) = unR s c (cond (decide (9 < nib s i)) none (un s k (i + 1) (10 * a + nib s i)))
  rw [nat_dec9]
  cases hd : decide (9 < nib s i)
  ·rw [cond_false, cond_false]
   have hd := of_decide_eq_false hd
   rw [w64 (n := 10 * (a : Int)) (by omega) (by omega), w64 (by omega) (by omega)]
   have := ih (by rw [Nat.pow_succ]; omega) hM'
   rw [show 4 * (i + 1) = 4 * i + 4 by omega] at this
   rw [← this]
   congr 1
  ·rfl
theorem un_own {s : List UInt8} (hb : BitL s) {c : Nat} (hc : c ≤ 11) (hl : s.length = 4 * c + 4) (hN : 1100 ≤ N) : ∀ (k M i a : Nat), i + k = c → a < 10 ^ i → k + 1 ≤ M → iter M (L_110_1 N) (s.drop (4 * i), (a : Int)) = unO s c (un s k i a)
 | 0, M, i, a, hi, ha, hM => by
  obtain ⟨M, rfl, _⟩ := iter_ge hM
  obtain rfl : i = c := by omega
  have hp : 10 ^ i ≤ 10 ^ 11 := Nat.pow_le_pow_right (by decide) hc
  have h4 : (s.drop (4 * i)).length = 4 := by rw [List.length_drop]; omega
  have e4 : (s.drop (4 * i)).take 4 = s.drop (4 * i) := List.take_of_length_le (by omega)
  rw [iter_succ]
  unfold L_110_1
  simp only
  rw [decide_eq_false (by rw [slen_nat, h4]; decide), cond_false, ← e4, num148 (hb.part _ _) (by rw [part_len (by omega)]; decide) (by omega), Option.bind_some, nat_dec13, nat_dec12, w64 (n := 0 - (a : Int)) (by omega) (by omega)]
  rfl
 | k + 1, M, i, a, hi, ha, hM => by
  obtain ⟨M, rfl, hM'⟩ := iter_ge hM
  have hp : 10 ^ i ≤ 10 ^ 11 := Nat.pow_le_pow_right (by decide) (by omega)
  have ih := un_own hb hc hl hN k M (i + 1) (10 * a + nib s i) (by omega)
  have hn := nib_lt hb (i := i) (by omega)
  have h4 : (s.drop (4 * i)).length = 4 * k + 8 := by rw [List.length_drop]; omega
  rw [iter_succ]
  generalize iter M (L_110_1 N) = again at ih ⊢
  unfold L_110_1
  simp only
  have d1 : decide ((4 : Int) < slen (s.drop (4 * i))) = true := decide_eq_true (by rw [slen_nat, h4]; omega)
  have d2 : decide ((0 : Int) ≤ 4 ∧ (4 : Int) ≤ slen (s.drop (4 * i))) = true := decide_eq_true (by rw [slen_nat, h4]; omega)
  have t1 : ssub (s.drop (4 * i)) 0 4 = (s.drop (4 * i)).take 4 := ssub_take (n := 4)
  have t2 : ssub (s.drop (4 * i)) 4 (slen (s.drop (4 * i))) = s.drop (4 * (i + 1)) := by
   have := ssub_drop (s := s.drop (4 * i)) (n := 4)
   rw [List.drop_drop, show 4 * i + 4 = 4 * (i + 1) by omega] at this
   exact this
  rw [d1, cond_true, d2, cond_true, t1, num148 (hb.part _ _) (by rw [part_len (by omega)]; decide) (by omega), Option.bind_some, t2, cond_true]
  show cond (decide ((9 : Int) < ((nib s i : Nat) : Int))) _ (again (_, IntKind.wrap .i64 (IntKind.wrap .i64 (10 * (a : Int)) + IntKind.wrap .i64 ((nib s i : Nat) : Int)))) = unO s c (cond (decide (9 < nib s i)) none (un s k (i + 1) (10 * a + nib s i)))
  rw [nat_dec9]
  cases hd : decide (9 < nib s i)
  ·rw [cond_false, cond_false]
   have hd := of_decide_eq_false hd
   rw [w64 (n := 10 * (a : Int)) (by omega) (by omega), w64 (n := ((nib s i : Nat) : Int)) (by omega) (by omega), w64 (by omega) (by omega)]
   have := ih (by rw [Nat.pow_succ]; omega) hM'
   rw [← this]
   congr 1
  ·rfl
theorem nib0 {t : List UInt8} (hb : BitL t) (hl : t.length = 4) : decide (t = [48, 48, 48, 48]) = decide (bv t = 0) := by
 match t, hl with
 | [a, b, c, d], _ =>
  rcases hb a (by simp) with rfl | rfl <;> rcases hb b (by simp) with rfl | rfl <;> rcases hb c (by simp) with rfl | rfl <;> rcases hb d (by simp) with rfl | rfl <;> rfl
end Go.Yec
namespace Go.Yec
open Go
variable {N : Nat}
noncomputable def finR (k p : Int) (v : Bool) (pic : List UInt8) (r : (Int × List UInt8) × Bool) : (Int × List UInt8) × Int := cond (!r.2) ((0, []), 6) (cond (vaS k p v pic r.1.1 r.1.2) (r.1, 0) ((0, []), 6))
theorem top_bit {s : List UInt8} (hb : BitL s) : ∀ i, i + 1 ≤ s.length → ∃ r, r < 2 ^ i ∧ bvT s (i + 1) = ((bt s 0).toNat - 48) * 2 ^ i + r
 | 0, h => ⟨0, by decide, by simp [bvT]⟩
 | i + 1, h => by
  obtain ⟨r, h1, h2⟩ := top_bit hb i (by omega)
  have hd : (bt s (i + 1)).toNat - 48 < 2 := (bit_num hb (i := i + 1) (by omega)).2
  refine ⟨2 * r + ((bt s (i + 1)).toNat - 48), by rw [Nat.pow_succ]; omega, ?_⟩
  show 2 * bvT s (i + 1) + _ = _
  rw [h2, Nat.pow_succ, Nat.mul_add, ← Nat.mul_assoc, Nat.mul_comm 2, Nat.mul_assoc, Nat.mul_comm 2]
  omega
theorem va1_no {p n : Int} {v : Bool} {pic : List UInt8} (h : n ≤ 0 - bndS 1 p ∨ bndS 1 p ≤ n) : vaS 1 p v pic n [] = false := by
 unfold vaS
 show (decide (([] : List UInt8) = []) && (!(decide (n ≤ 0 - bndS 1 p)) && !(decide (bndS 1 p ≤ n)))) = false
 rcases h with h | h
 ·rw [decide_eq_true h]; simp
 ·rw [decide_eq_true h]; simp
theorem fin_no {k p : Int} {v : Bool} {pic : List UInt8} {r : (Int × List UInt8) × Bool} (h : r.2 = false) : finR k p v pic r = ((0, []), 6) := by unfold finR; rw [h]; rfl
theorem fin_va {k p : Int} {v : Bool} {pic : List UInt8} {r : (Int × List UInt8) × Bool} (h : vaS k p v pic r.1.1 r.1.2 = false) : finR k p v pic r = ((0, []), 6) := by unfold finR; rw [h]; cases r.2 <;> rfl
def up (r : Int × Bool) : (Int × List UInt8) × Bool := ((r.1, []), r.2)
theorem dec1 {p : Int} {v : Bool} {pic s : List UInt8} (hb : BitL s) (h1 : 1 ≤ p) (h9 : p ≤ 9) (hl : (s.length : Int) = 8 * (p / 2 + 1)) (hN : 1100 ≤ N) :
  ∃ a b, F_110 N p s = some a ∧ F_114 N s = some b ∧ finR 1 p v pic (up a) = finR 1 p v pic (up b) := by
 obtain ⟨c, hc⟩ : ∃ c, s.length = 4 * c + 4 := ⟨s.length / 4 - 1, by omega⟩
 have hc11 : c ≤ 11 := by omega
 have eR := un_ref hb hc11 hc hN c N 0 0 (by omega) (by decide) (by omega)
 have same : ∀ o : Option Nat, ∃ a b, unO s c o = some a ∧ unR s c o = some b ∧ finR 1 p v pic (up a) = finR 1 p v pic (up b) := fun o => by
  cases o with
  | none => exact ⟨_, _, rfl, rfl, rfl⟩
  | some m =>
   unfold unO unR
   simp only
   cases e12 : decide (nib s c = 12)
   ·cases e13 : decide (nib s c = 13)
    ·exact ⟨_, _, rfl, rfl, by rw [fin_no rfl, fin_no rfl]⟩
    ·exact ⟨_, _, rfl, rfl, rfl⟩
   ·have : decide (nib s c = 13) = false := decide_eq_false (by have := of_decide_eq_true e12; omega)
    rw [this]
    exact ⟨_, _, rfl, rfl, rfl⟩
 have eR : F_114 N s = unR s c (un s c 0 0) := eR
 rw [eR]
 unfold F_110
 have hev : decide (Int.tmod p 2 = 0) = decide (p % 2 = 0) := decide_eq_decide.2 (by rw [Int.tmod_eq_emod_of_nonneg (by omega)])
 rw [hev]
 cases hp : decide (p % 2 = 0)
 ·rw [cond_false]
  have eO := un_own hb hc11 hc hN c N 0 0 (by omega) (by decide) (by omega)
  have eO : iter N (L_110_1 N) (s, 0) = unO s c (un s c 0 0) := eO
  rw [eO]
  exact same _
 ·have hp := of_decide_eq_true hp
  obtain ⟨d, rfl⟩ : ∃ d, c = d + 1 := ⟨c - 1, by omega⟩
  have hd : p.toNat = d := by omega
  have d2 : decide ((0 : Int) ≤ 4 ∧ (4 : Int) ≤ slen s) = true := decide_eq_true (by rw [slen_nat]; omega)
  have t1 : ssub s 0 4 = s.take 4 := ssub_take (n := 4)
  have t2 : ssub s 4 (slen s) = s.drop (4 * (0 + 1)) := ssub_drop (n := 4)
  have n0 : nib s 0 = bv (s.take 4) := rfl
  have hz := nib0 (t := s.take 4) (hb.sub fun _ h => List.mem_of_mem_take h) (by rw [List.length_take]; omega)
  rw [cond_true, d2, cond_true, t1, t2, cond_true, hz, ← n0]
  have hun : un s (d + 1) 0 0 = cond (decide (9 < nib s 0)) none (un s d 1 (nib s 0)) := by
   show cond _ none (un s d (0 + 1) (10 * 0 + nib s 0)) = _
   rw [Nat.mul_zero, Nat.zero_add, Nat.zero_add]
  rw [hun]
  cases hn : decide (nib s 0 = 0)
  ·have hn := of_decide_eq_false hn
   rw [Bool.not_false, cond_true]
   cases h9' : decide (9 < nib s 0)
   ·rw [cond_false]
    cases hu : un s d 1 (nib s 0) with
    | none => exact ⟨_, _, rfl, rfl, rfl⟩
    | some m =>
     have hg := un_ge d 1 _ m hu
     have hge : 10 ^ d ≤ m := Nat.le_trans (by have := Nat.mul_le_mul_right (10 ^ d) (show 1 ≤ nib s 0 by omega); rw [Nat.one_mul] at this; exact this) hg
     have hbd : bndS 1 p = ((10 ^ d : Nat) : Int) := by unfold bndS; rw [hd]; rfl
     unfold unR
     simp only
     cases e13 : decide (nib s (d + 1) = 13)
     ·refine ⟨_, _, rfl, rfl, ?_⟩
      rw [fin_no rfl, fin_va (va1_no (.inr (by rw [hbd]; exact Int.ofNat_le.2 hge)))]
     ·refine ⟨_, _, rfl, rfl, ?_⟩
      rw [fin_no rfl, fin_va (va1_no (.inl (by rw [hbd]; have := Int.ofNat_le.2 hge; show (0 : Int) - (m : Int) ≤ _; omega)))]
   ·exact ⟨_, _, rfl, rfl, rfl⟩
  ·have hn := of_decide_eq_true hn
   rw [Bool.not_true, cond_false, hn]
   have eO := un_own hb hc11 hc hN d N 1 0 (by omega) (by decide) (by omega)
   have eO : iter N (L_110_1 N) (s.drop (4 * (0 + 1)), 0) = unO s (d + 1) (un s d 1 0) := eO
   rw [eO]
   exact same _
theorem dec2_16 {s : List UInt8} (hb : BitL s) (hl : s.length = 16) : IntKind.wrap .i64 (IntKind.wrap .i16 ((bv s : Nat) : Int)) = cond (decide (sget s 0 = 49)) (((bv s : Nat) : Int) - 65536) ((bv s : Nat) : Int) := by
 obtain ⟨r, h1, h2⟩ := top_bit hb 15 (by omega)
 have hv : bv s = bvT s (15 + 1) := by unfold bv; rw [hl]
 have ew : ∀ n : Int, IntKind.wrap .i16 n = (n + 32768) % 65536 - 32768 := fun n => by simp [IntKind.wrap, IntKind.bits, IntKind.signed]; split <;> omega
 have hs : sget s 0 = ((bt s 0).toNat : Int) := rfl
 rw [hv, h2, hs]
 rcases hb.at (i := 0) (by omega) with e | e <;> rw [e]
 ·show IntKind.wrap .i64 (IntKind.wrap .i16 ((0 * 2 ^ 15 + r : Nat) : Int)) = ((0 * 2 ^ 15 + r : Nat) : Int)
  rw [ew, w64 (by omega) (by omega)]; omega
 ·show IntKind.wrap .i64 (IntKind.wrap .i16 ((1 * 2 ^ 15 + r : Nat) : Int)) = ((1 * 2 ^ 15 + r : Nat) : Int) - 65536
  rw [ew, w64 (by omega) (by omega)]; omega
theorem dec2_32 {s : List UInt8} (hb : BitL s) (hl : s.length = 32) : IntKind.wrap .i64 (IntKind.wrap .i32 ((bv s : Nat) : Int)) = cond (decide (sget s 0 = 49)) (((bv s : Nat) : Int) - 4294967296) ((bv s : Nat) : Int) := by
 obtain ⟨r, h1, h2⟩ := top_bit hb 31 (by omega)
 have hv : bv s = bvT s (31 + 1) := by unfold bv; rw [hl]
 have ew : ∀ n : Int, IntKind.wrap .i32 n = (n + 2147483648) % 4294967296 - 2147483648 := fun n => by simp [IntKind.wrap, IntKind.bits, IntKind.signed]; split <;> omega
 have hs : sget s 0 = ((bt s 0).toNat : Int) := rfl
 rw [hv, h2, hs]
 rcases hb.at (i := 0) (by omega) with e | e <;> rw [e]
 ·show IntKind.wrap .i64 (IntKind.wrap .i32 ((0 * 2 ^ 31 + r : Nat) : Int)) = ((0 * 2 ^ 31 + r : Nat) : Int)
  rw [ew, w64 (by omega) (by omega)]; omega
 ·show IntKind.wrap .i64 (IntKind.wrap .i32 ((1 * 2 ^ 31 + r : Nat) : Int)) = ((1 * 2 ^ 31 + r : Nat) : Int) - 4294967296
  rw [ew, w64 (by omega) (by omega)]; omega
theorem dec_mid {k p q : Int} {v : Bool} {pic s : List UInt8} (hty : tyS k p q v pic = true) (h7 : k ≠ 7) (hb : BitL s) (hs : s.length ≤ 5000) (hl : slen s = szS k p q v pic) (hN : 1100 ≤ N) :
  ∃ a b, F_74 N k p q v pic s = some a ∧ F_76 N k p q v pic s = some b ∧ finR k p v pic a = finR k p v pic b := by
 have hsz : szS k p q v pic = (cond (decide (k = 1)) (IntKind.wrap .i64 (8 * (IntKind.wrap .i64 ((IntKind.wrap .i64 (Int.tdiv p 2)) + 1))))
   (cond (decide (k = 2)) (cond (decide (p ≤ 15)) 16 32)
   (cond (decide (k = 3)) (cond v (IntKind.wrap .i64 (16 + (IntKind.wrap .i64 (8 * p)))) (IntKind.wrap .i64 (8 * p)))
   (cond (decide (k = 4)) p
   (cond (decide (k = 5)) (IntKind.wrap .i64 (8 * (picS pic).1.2.2.1))
   (cond (decide (k = 6)) 32 (IntKind.wrap .i64 (8 * p)))))))) := by unfold szS; rw [hty]; rfl
 rw [hsz, slen_nat] at hl
 clear hsz
 unfold F_74 F_76
 rcases kinds k with e | e | e | e | e | e | e | ⟨h1, h2, h3, h4, h5, h6, h7⟩
 ·subst e
  obtain ⟨a1, a2⟩ := ty_arith (.inl rfl) hty
  have h9 : p ≤ 9 := by omega
  have hl : (s.length : Int) = IntKind.wrap .i64 (8 * (IntKind.wrap .i64 ((IntKind.wrap .i64 (Int.tdiv p 2)) + 1))) := hl
  rw [Int.tdiv_eq_ediv_of_nonneg (by omega), w64 (n := p / 2) (by omega) (by omega), w64 (n := p / 2 + 1) (by omega) (by omega), w64 (by omega) (by omega)] at hl
  obtain ⟨a, b, e1, e2, e3⟩ := dec1 (N := N) (v := v) (pic := pic) hb a2 h9 hl hN
  exact ⟨up a, up b, by rw [e1]; rfl, by rw [e2]; rfl, e3⟩
 ·subst e
  have hl : (s.length : Int) = cond (decide (p ≤ 15)) 16 32 := hl
  cases hp : decide (p ≤ 15)
  ·rw [hp] at hl
   have hl : s.length = 32 := by have : (s.length : Int) = 32 := hl; omega
   have d1 : decide (slen s = 16) = false := decide_eq_false (by rw [slen_nat]; omega)
   have hx := dec2_32 hb hl
   have e1 := num112 (N := N) hb (by omega) (by omega)
   have e2 := read_ref' (N := N) hb (by omega) (by omega)
   have c1 : (IntKind.wrap .i64 (1 * (2 ^ min (Int.toNat (IntKind.wrap .u64 32)) (IntKind.bits .i64)))) = 4294967296 := by decide
   have c2 : decide (0 ≤ (IntKind.wrap .u64 32)) = true := by decide
   have e16 : slen s = 32 := by rw [slen_nat, hl]; rfl
   have hlt := bv_lt hb
   rw [hl] at hlt
   simp only [decide_true, cond_true, cond_false, show decide ((2 : Int) = 1) = false from rfl]
   rw [d1, cond_false, e1, e2]
   simp only [Option.bind_some]
   rw [hx, inB_of (by omega) (by omega), cond_true, e16, c1, c2, cond_true, w64 (n := ((bv s : Nat) : Int) - 4294967296) (by omega) (by omega)]
   cases decide (sget s 0 = 49)
   ·exact ⟨_, _, rfl, rfl, rfl⟩
   ·exact ⟨_, _, rfl, rfl, rfl⟩
  ·rw [hp] at hl
   have hl : s.length = 16 := by have : (s.length : Int) = 16 := hl; omega
   have d1 : decide (slen s = 16) = true := decide_eq_true (by rw [slen_nat]; omega)
   have hx := dec2_16 hb hl
   have e1 := num111 (N := N) hb (by omega) (by omega)
   have e2 := read_ref' (N := N) hb (by omega) (by omega)
   have c1 : (IntKind.wrap .i64 (1 * (2 ^ min (Int.toNat (IntKind.wrap .u64 16)) (IntKind.bits .i64)))) = 65536 := by decide
   have c2 : decide (0 ≤ (IntKind.wrap .u64 16)) = true := by decide
   have e16 : slen s = 16 := by rw [slen_nat, hl]; rfl
   have hlt := bv_lt hb
   rw [hl] at hlt
   simp only [decide_true, cond_true, cond_false, show decide ((2 : Int) = 1) = false from rfl]
   rw [d1, cond_true, e1, e2]
   simp only [Option.bind_some]
   rw [hx, inB_of (by omega) (by omega), cond_true, e16, c1, c2, cond_true, w64 (n := ((bv s : Nat) : Int) - 65536) (by omega) (by omega)]
   cases decide (sget s 0 = 49)
   ·exact ⟨_, _, rfl, rfl, rfl⟩
   ·exact ⟨_, _, rfl, rfl, rfl⟩
 ·subst e
  obtain ⟨p0, p1⟩ := ty3 hty
  cases v
  ·have hl : (s.length : Int) = IntKind.wrap .i64 (8 * p) := hl
   rw [w64 (by omega) (by omega)] at hl
   have e1 := chars_own (N := N) hb (m := p.toNat) (by omega) (by omega) hN
   have e2 := text_ref (N := N) hb (m := p.toNat) (by omega) (by omega) hN
   refine ⟨((0, txt s p.toNat), true), ((0, txt s p.toNat), true), ?_, ?_, rfl⟩
   ·show Option.bind (F_113 N s) _ = _
    rw [e1]; rfl
   ·show Option.bind (F_116 N s) _ = _
    rw [e2]; rfl
  ·have hl : (s.length : Int) = IntKind.wrap .i64 (16 + (IntKind.wrap .i64 (8 * p))) := hl
   rw [w64 (n := 8 * p) (by omega) (by omega), w64 (by omega) (by omega)] at hl
   have hb16 : BitL (s.take 16) := hb.sub fun _ h => List.mem_of_mem_take h
   have h16 : (s.take 16).length = 16 := by rw [List.length_take]; omega
   have e1 := num111 (N := N) hb16 (by omega) (by omega)
   have e2 := read_ref' (N := N) hb16 (by omega) (by omega)
   have t1 : ssub s 0 16 = s.take 16 := ssub_take (n := 16)
   have d2 : decide ((0 : Int) ≤ 16 ∧ (16 : Int) ≤ slen s) = true := decide_eq_true (by rw [slen_nat]; omega)
   have hlt := bv_lt hb16
   rw [h16] at hlt
   generalize bv (s.take 16) = n at e1 e2 hlt
   show ∃ a b, cond (decide ((0 : Int) ≤ 16 ∧ (16 : Int) ≤ slen s)) (Option.bind (F_111 N (ssub s 0 16)) _) none = some a ∧ cond (decide ((0 : Int) ≤ 16 ∧ (16 : Int) ≤ slen s)) (Option.bind (F_115 N (ssub s 0 16)) _) none = some b ∧ _
   rw [d2, cond_true, cond_true, t1, e1, e2]
   simp only [Option.bind_some]
   rw [w64 (n := (n : Int)) (by omega) (by omega)]
   cases hn : decide (p < (n : Int))
   ·have hn := of_decide_eq_false hn
    have c8 : IntKind.wrap .i64 (8 * (n : Int)) = 8 * (n : Int) := w64 (by omega) (by omega)
    have c16 : IntKind.wrap .i64 (16 + 8 * (n : Int)) = ((16 + 8 * n : Nat) : Int) := by rw [w64 (by omega) (by omega)]; omega
    have hbp := hb.part 16 (8 * n)
    have hlp : ((s.drop 16).take (8 * n)).length = 8 * n := part_len (by omega)
    have t2 : ssub s 16 ((16 + 8 * n : Nat) : Int) = (s.drop 16).take (8 * n) := ssub_part (a := 16) (b := 8 * n)
    rw [c8, c16, cond_false, cond_false, decide_eq_true (by rw [slen_nat]; omega), cond_true, cond_true, t2, chars_own hbp (m := n) (by omega) hlp hN, text_ref hbp (m := n) (by omega) hlp hN]
    exact ⟨_, _, rfl, rfl, rfl⟩
   ·exact ⟨_, _, rfl, rfl, rfl⟩
 ·subst e; exact ⟨_, _, rfl, rfl, rfl⟩
 ·subst e
  obtain rfl := ty5 hty
  have hl : (s.length : Int) = IntKind.wrap .i64 (8 * (picS pic).1.2.2.1) := hl
  obtain ⟨m, hm⟩ : ∃ m, s.length = 8 * m := by
   rw [IntKind.wrap_i64] at hl
   exact ⟨s.length / 8, by omega⟩
  have e1 := chars_own (N := N) hb (m := m) (by omega) hm hN
  have e2 := text_ref (N := N) hb (m := m) (by omega) hm hN
  refine ⟨((0, txt s m), true), ((0, txt s m), true), ?_, ?_, rfl⟩
  ·show Option.bind (F_113 N s) _ = _
   rw [e1]; rfl
  ·show Option.bind (F_116 N s) _ = _
   rw [e2]; rfl
 ·subst e
  have hl : s.length = 32 := by have : (s.length : Int) = 32 := hl; omega
  have e1 := num112 (N := N) hb (by omega) (by omega)
  have e2 := read_ref' (N := N) hb (by omega) (by omega)
  have hlt := bv_lt hb
  rw [hl] at hlt
  refine ⟨((((bv s : Nat) : Int), []), true), ((((bv s : Nat) : Int), []), true), ?_, ?_, rfl⟩
  ·show Option.bind (F_112 N s) _ = _
   rw [e1, Option.bind_some, w64 (by omega) (by omega)]
  ·show Option.bind (F_115 N s) _ = _
   rw [e2]; rfl
 ·exact absurd e h7
 ·unfold tyS at hty
  rw [decide_eq_false h1, decide_eq_false h2, decide_eq_false h3, decide_eq_false h4, decide_eq_false h5, decide_eq_false h6, decide_eq_false h7] at hty
  cases hty
theorem dec_both {k p q : Int} {v : Bool} {pic s : List UInt8} (hl : pic.length ≤ 1000) (hs : s.length ≤ 5000) (hN : 6100 ≤ N) : ∃ r, F_25 N k p q v pic s = some r ∧ F_26 N k p q v pic s = some r := by
 unfold F_25 F_26
 have e62 : F_62 N k p q v pic = some (tyS k p q v pic && !(decide (k = 7))) := by
  unfold F_62
  rw [ty_own hl (by omega)]
  cases tyS k p q v pic <;> cases decide (k = 7) <;> rfl
 rw [e62, ty61 hl (by omega), sz_own hl (by omega), sz_ref hl (by omega), bits75, bits_spec (by omega) (by omega)]
 simp only [Option.bind_some]
 cases hty : (tyS k p q v pic && !(decide (k = 7)))
 ·exact ⟨_, rfl, rfl⟩
 ·simp only [cond_true, decide_true, Bool.not_true, cond_false]
  cases hsl : decide (slen s = szS k p q v pic)
  ·exact ⟨_, rfl, rfl⟩
  ·simp only [Bool.not_true, Bool.not_false, cond_true, cond_false, Option.bind_some]
   cases hbs : bsS s
   ·exact ⟨_, rfl, rfl⟩
   ·simp only [Bool.not_true, cond_false]
    have hty2 := hty
    rw [Bool.and_eq_true, Bool.not_eq_true'] at hty
    obtain ⟨a, b, e1, e2, e3⟩ := dec_mid (N := N) hty.1 (of_decide_eq_false hty.2) (bitL_of hbs) hs (of_decide_eq_true hsl) (by omega)
    rw [e1, e2]
    simp only [Option.bind_some]
    rw [va_own hl (by omega), va_ref hl (by omega), hty2]
    simp only [cond_true]
    have key : ∀ r : (Int × List UInt8) × Bool, Option.bind (cond (!(!r.2)) (some (cond (vaS k p v pic r.1.1 r.1.2) (0 : Int) 6)) (some (default : Int))) (fun r4 => cond (cond (!r.2) true (!(decide (r4 = 0)))) (some ((0, ([] : List UInt8)), (6 : Int))) (some ((r.1.1, r.1.2), 0))) = some (finR k p v pic r) := fun r => by
     unfold finR
     cases r.2 <;> cases vaS k p v pic r.1.1 r.1.2 <;> rfl
    rw [key, key, e3]
    exact ⟨_, rfl, rfl⟩
end Go.Yec
