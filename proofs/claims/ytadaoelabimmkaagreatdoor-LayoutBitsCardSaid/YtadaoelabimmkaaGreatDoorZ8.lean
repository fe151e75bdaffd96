/-
  BITS, PLAIN LEAN: a number's binary digits as text: digits of the own text, number of the other.; BITS, PLAIN LEAN: digits of the own text; number, characters of the other.; BITS, PLAIN LEAN: packed numbers of both texts.; BITS, PLAIN LEAN: packed numbers of the other text; digits of a remainder.; BITS, PLAIN LEAN: Encode of both texts is the same.; BITS, PLAIN LEAN: what binary digits stand for: number of the own text, read of the other; characters of both.
-/
import Derived.Test.YtadaoelabimmkaaGreatDoorZ7
import Derived.Test.YtadaoelabimmkaaGreatDoorG3
set_option linter.all false
namespace Go.Yec
open Go
variable {N : Nat}
def dgN (x i : Nat) : UInt8 := (48 + x / 2 ^ i % 2).toUInt8
def bitsN : Nat → Nat → List UInt8
 | 0, _ => []
 | w + 1, x => dgN x w :: bitsN w x
theorem bitsN_len (x : Nat) : ∀ w, (bitsN w x).length = w
 | 0 => rfl
 | w + 1 => by unfold bitsN; rw [List.length_cons, bitsN_len x w]
theorem bitsN_drop (x : Nat) : ∀ (w k : Nat), k ≤ w → (bitsN w x).drop (w - k) = bitsN k x
 | 0, k, h => by
  obtain rfl : k = 0 := by omega
  rfl
 | w + 1, k, h => by
  by_cases e : k = w + 1
  ·subst e; rw [Nat.sub_self]; rfl
  ·rw [show w + 1 - k = (w - k) + 1 by omega]
   show (bitsN w x).drop (w - k) = _
   exact bitsN_drop x w k (by omega)
theorem bitsN_at (x : Nat) : ∀ (w k : Nat), k < w → (bitsN w x).getD k 0 = dgN x (w - 1 - k)
 | 0, k, h => by omega
 | w + 1, 0, h => rfl
 | w + 1, k + 1, h => by
  show (bitsN w x).getD k 0 = _
  rw [bitsN_at x w k (by omega), show w + 1 - 1 - (k + 1) = w - 1 - k by omega]
theorem dgN_nat (x i : Nat) : ((dgN x i).toNat : Int) = 48 + ((x / 2 ^ i % 2 : Nat) : Int) := by
 unfold dgN
 have : x / 2 ^ i % 2 < 2 := Nat.mod_lt _ (by decide)
 rw [Nat.toUInt8, UInt8.toNat_ofNat']
 omega
theorem repI_eq : ∀ n, repI n = List.replicate n 0
 | 0 => rfl
 | n + 1 => by
  show 0 :: repI n = _
  rw [repI_eq n]; rfl
theorem set_low (k : Nat) (d : Int) (r : List Int) : isetI (List.replicate (k + 1) 0 ++ r) (k : Int) d = List.replicate k 0 ++ d :: r := by
 unfold isetI
 rw [Int.toNat_natCast, List.replicate_succ', List.append_assoc, List.set_append_right _ _ (by simp)]
 simp
theorem half (x j : Nat) : Int.fdiv ((x / 2 ^ j : Nat) : Int) 2 = ((x / 2 ^ (j + 1) : Nat) : Int) := by
 rw [Int.fdiv_eq_ediv_of_nonneg _ (by decide), Nat.pow_succ, ← Nat.div_div_eq_div_mul]
 omega
theorem digs {L : (Int × Int × List Int → Option (List UInt8)) → Int × Int × List Int → Option (List UInt8)} (x w : Nat) (hw : w ≤ 1000000)
  (hL : ∀ again (j k : Nat) (r : List Int), k < 1000000 → L again (((x / 2 ^ j : Nat) : Int), (k : Int), r) = cond (inB (k : Int) (ilen r)) (again (Int.fdiv ((x / 2 ^ j : Nat) : Int) 2, (k : Int) - 1, isetI r (k : Int) ((dgN x j).toNat : Int))) none)
  (h0 : ∀ again y r, L again (y, -1, r) = some (ofInts r)) : ∀ (k M : Nat), k ≤ w → k + 1 ≤ M → iter M L (((x / 2 ^ (w - k) : Nat) : Int), (k : Int) - 1, List.replicate k 0 ++ toInts (bitsN w x |>.drop k)) = some (bitsN w x)
 | 0, M, hk, hM => by
  obtain ⟨M, rfl, _⟩ := iter_ge hM
  rw [iter_succ]
  show L _ (_, -1, _) = _
  rw [h0]
  simp only [List.replicate_zero, List.nil_append, List.drop_zero, ofInts_toInts]
 | k + 1, M, hk, hM => by
  obtain ⟨M, rfl, hM'⟩ := iter_ge hM
  rw [iter_succ, show ((k + 1 : Nat) : Int) - 1 = (k : Int) by omega, hL _ _ _ _ (by omega)]
  have hl : (List.replicate (k + 1) (0 : Int) ++ toInts ((bitsN w x).drop (k + 1))).length = w := by
   rw [List.length_append, List.length_replicate, toInts_len, List.length_drop, bitsN_len]; omega
  rw [inB_of (by omega) (by rw [ilen_nat, hl]; omega), cond_true, half, set_low]
  have e : (((dgN x (w - (k + 1))).toNat : Int) :: toInts ((bitsN w x).drop (k + 1))) = toInts ((bitsN w x).drop k) := by
   have hlt : k < (bitsN w x).length := by rw [bitsN_len]; omega
   rw [List.drop_eq_getElem_cons hlt]
   have := bitsN_at x w k (by omega)
   rw [List.getD_eq_getElem?_getD, List.getElem?_eq_getElem hlt] at this
   have this : (bitsN w x)[k] = dgN x (w - 1 - k) := this
   rw [this, show w - 1 - k = w - (k + 1) by omega]
   rfl
  rw [e, show w - (k + 1) + 1 = w - k by omega]
  exact digs x w hw hL h0 k M (by omega) (by omega)
theorem and1 {k : IntKind} {j : Nat} (hj : j ≤ k.bits) (h1 : 1 ≤ j) (hk : ∀ n : Int, 0 ≤ n → n < 2 ^ j → k.wrap n = n) {x : Nat} (hx : x < 2 ^ j) : ibits .and k (x : Int) 1 = ((x % 2 : Nat) : Int) := by
 have := bits_mask k j hj hk 1 h1 (x : Int) (by omega) (by exact_mod_cast hx)
 show bits .and k (x : Int) 1 = _
 rw [show (1 : Int) = 2 ^ 1 - 1 from rfl, this]
 omega
end Go.Yec
namespace Go.Yec
open Go
variable {N : Nat}
theorem wu8 : ∀ n : Int, 0 ≤ n → n < 2 ^ 8 → IntKind.u8.wrap n = n := fun n h0 h1 => by rw [IntKind.wrap_u8]; omega
theorem wu16 : ∀ n : Int, 0 ≤ n → n < 2 ^ 16 → IntKind.u16.wrap n = n := fun n h0 h1 => by
 have e : IntKind.u16.wrap n = n % 65536 := by simp [IntKind.wrap, IntKind.bits, IntKind.signed]
 rw [e]; omega
theorem wu64 : ∀ n : Int, 0 ≤ n → n < 2 ^ 64 → IntKind.u64.wrap n = n := fun n h0 h1 => by rw [IntKind.wrap_u64]; omega
theorem wi63 : ∀ n : Int, 0 ≤ n → n < 2 ^ 63 → IntKind.i64.wrap n = n := fun n h0 h1 => w64 (by omega) (by omega)
theorem div_lt {x b : Nat} (h : x < b) (j : Nat) : x / 2 ^ j < b := Nat.lt_of_le_of_lt (Nat.div_le_self _ _) h
theorem dg_u8 (x j : Nat) : IntKind.wrap .u8 (48 + ((x / 2 ^ j % 2 : Nat) : Int)) = ((dgN x j).toNat : Int) := by
 rw [dgN_nat, w8 (by omega) (by omega)]
theorem dig106 {x w : Nat} (hx : x < 2 ^ 8) (hw : w ≤ 1000000) (hN : w + 1 ≤ N) : F_106 N (x : Int) (w : Int) = some (bitsN w x) := by
 unfold F_106
 rw [decide_eq_true (by omega), cond_true, w64 (by omega) (by omega), Int.toNat_natCast, repI_eq]
 have := digs (L := L_106_1 N) x w hw (fun again j k r hk => by
  unfold L_106_1
  simp only
  rw [decide_eq_true (by omega), cond_true, and1 (k := .u8) (j := 8) (by decide) (by decide) wu8 (div_lt hx j), dg_u8, w64 (n := (k : Int) - 1) (by omega) (by omega)]
  rfl) (fun again y r => rfl) w N (Nat.le_refl _) hN
 rw [Nat.sub_self, Nat.pow_zero, Nat.div_one, List.drop_eq_nil_of_le (by rw [bitsN_len]; omega)] at this
 simpa [toInts] using this
theorem dig71 {x w : Nat} (hx : x < 2 ^ 16) (hw : w ≤ 1000000) (hN : w + 1 ≤ N) : F_71 N (x : Int) (w : Int) = some (bitsN w x) := by
 unfold F_71
 rw [decide_eq_true (by omega), cond_true, w64 (by omega) (by omega), Int.toNat_natCast, repI_eq]
 have := digs (L := L_71_1 N) x w hw (fun again j k r hk => by
  unfold L_71_1
  simp only
  rw [decide_eq_true (by omega), cond_true, and1 (k := .u16) (j := 16) (by decide) (by decide) wu16 (div_lt hx j), w8 (n := ((x / 2 ^ j % 2 : Nat) : Int)) (by omega) (by omega), dg_u8, w64 (n := (k : Int) - 1) (by omega) (by omega)]
  rfl) (fun again y r => rfl) w N (Nat.le_refl _) hN
 rw [Nat.sub_self, Nat.pow_zero, Nat.div_one, List.drop_eq_nil_of_le (by rw [bitsN_len]; omega)] at this
 simpa [toInts] using this
theorem dig70 {x w : Nat} (hx : x < 2 ^ 64) (hw : w ≤ 1000000) (hN : w + 1 ≤ N) : F_70 N (x : Int) (w : Int) = some (bitsN w x) := by
 unfold F_70
 rw [decide_eq_true (by omega), cond_true, w64 (by omega) (by omega), Int.toNat_natCast, repI_eq]
 have := digs (L := L_70_1 N) x w hw (fun again j k r hk => by
  unfold L_70_1
  simp only
  rw [decide_eq_true (by omega), cond_true, and1 (k := .u64) (j := 64) (by decide) (by decide) wu64 (div_lt hx j), w8 (n := ((x / 2 ^ j % 2 : Nat) : Int)) (by omega) (by omega), dg_u8, w64 (n := (k : Int) - 1) (by omega) (by omega)]
  rfl) (fun again y r => rfl) w N (Nat.le_refl _) hN
 rw [Nat.sub_self, Nat.pow_zero, Nat.div_one, List.drop_eq_nil_of_le (by rw [bitsN_len]; omega)] at this
 simpa [toInts] using this
theorem num_loop {R : Type} {x : Nat} (hx : x < 2 ^ 63) (k0 : List Int → Option R) : ∀ (k M : Nat) (l : List Int), k ≤ 63 → l.length + k ≤ 1000000 → k + 1 ≤ M → iter M (L_108_1 N (x : Int) k0) (l, (k : Int) - 1) = k0 (l ++ toInts (bitsN k x))
 | 0, M, l, hk, hl, hM => by
  obtain ⟨M, rfl, _⟩ := iter_ge hM
  rw [iter_succ]
  show k0 l = _
  simp [bitsN, toInts]
 | k + 1, M, l, hk, hl, hM => by
  obtain ⟨M, rfl, hM'⟩ := iter_ge hM
  have ih := num_loop hx k0 k M (l ++ [((dgN x k).toNat : Int)]) (by omega) (by simp; omega) hM'
  rw [iter_succ, show ((k + 1 : Nat) : Int) - 1 = (k : Int) by omega]
  generalize iter M (L_108_1 N (x : Int) k0) = again at ih ⊢
  unfold L_108_1
  simp only
  have e1 : IntKind.wrap .u64 (k : Int) = (k : Int) := wu64 _ (by omega) (by omega)
  have e2 : min (Int.toNat (k : Int)) (IntKind.bits .i64) = k := by
   rw [Int.toNat_natCast]
   show min k 64 = k
   omega
  have e3 : Int.fdiv (x : Int) (2 ^ k) = ((x / 2 ^ k : Nat) : Int) := by
   rw [Int.fdiv_eq_ediv_of_nonneg _ (Int.le_of_lt (Int.pow_pos (by decide)))]
   push_cast
   rfl
  rw [decide_eq_true (by omega), cond_true, e1, decide_eq_true (by omega), cond_true, e2, e3, and1 (k := .i64) (j := 63) (by decide) (by decide) wi63 (div_lt hx k), w8 (n := ((x / 2 ^ k % 2 : Nat) : Int)) (by omega) (by omega), dg_u8, apOk_one (by omega), cond_true, w64 (n := (k : Int) - 1) (by omega) (by omega)]
  rw [ih, List.append_assoc]
  rfl
theorem num_ref {R : Type} {x w : Nat} (hx : x < 2 ^ 63) (hw : w ≤ 63) (hN : 64 ≤ N) (k0 : List Int → Option R) : Fk_108 N (x : Int) (w : Int) k0 = k0 (toInts (bitsN w x)) := by
 unfold Fk_108
 rw [w64 (by omega) (by omega), num_loop hx k0 w N [] hw (by simp; omega) (by omega)]; rfl
theorem num_ref2 {R : Type} {x w : Nat} {l : List Int} (hx : x < 2 ^ 63) (hw : w ≤ 63) (hl : l.length ≤ 900000) (hN : 64 ≤ N) (k0 : List Int → Option R) : Fk_108_2 N (x : Int) (w : Int) l k0 = k0 (l ++ toInts (bitsN w x)) := by
 unfold Fk_108_2
 rw [w64 (by omega) (by omega), num_loop hx k0 w N l hw (by omega) (by omega)]
theorem bitsB_eq (c : UInt8) : bitsB c = bitsN 8 c.toNat := rfl
theorem chr_loop {R : Type} {s : List UInt8} (hs : s.length ≤ 100000) (hN : 64 ≤ N) (k0 : List Int → Option R) (l0 : List UInt8) (hl0 : l0.length ≤ 50000) : ∀ (k M i : Nat), i + k = s.length → k + 1 ≤ M →
  iter M (L_109_1 N s k0) (toInts (l0 ++ hBits (s.take i)), (i : Int)) = k0 (toInts (l0 ++ hBits s))
 | 0, M, i, hi, hM => by
  obtain ⟨M, rfl, _⟩ := iter_ge hM
  obtain rfl : i = s.length := by omega
  rw [iter_succ]
  unfold L_109_1
  simp only
  rw [nlt_slen, cond_false, List.take_length]
 | k + 1, M, i, hi, hM => by
  obtain ⟨M, rfl, hM'⟩ := iter_ge hM
  have hlt : i < s.length := by omega
  have ih := chr_loop hs hN k0 l0 hl0 k M (i + 1) (by omega) hM'
  rw [iter_succ]
  generalize iter M (L_109_1 N s k0) = again at ih ⊢
  unfold L_109_1
  simp only
  have hc := (bt s i).toNat_lt
  rw [lt_slen hlt, cond_true, inB_slen hlt, cond_true, sget_bt]
  have e : IntKind.wrap .i64 (ci (bt s i)) = (((bt s i).toNat : Nat) : Int) := w64 (by have := ci_nonneg (bt s i); omega) (by have := ci_lt (bt s i); omega)
  rw [e, show (8 : Int) = ((8 : Nat) : Int) from rfl, num_ref2 (w := 8) (by omega) (by decide) (by rw [toInts_len, List.length_append, hBits_len, List.length_take]; omega) hN, wsucc (by omega), ← toInts_append, List.append_assoc, ← bitsB_eq, bt_getElem hlt, ← hBits_take hlt]
  exact ih
theorem chr_ref {R : Type} {s : List UInt8} (hs : s.length ≤ 100000) (hN : s.length + 64 ≤ N) (k0 : List Int → Option R) (l0 : List UInt8) (hl0 : l0.length ≤ 50000) : Fk_109 N s (toInts l0) k0 = k0 (toInts (l0 ++ hBits s)) := by
 unfold Fk_109
 have := chr_loop (N := N) hs (by omega) k0 l0 hl0 s.length N 0 (by omega) (by omega)
 simpa [hBits] using this
theorem chr_ref2 {R : Type} {s : List UInt8} (hs : s.length ≤ 100000) (hN : s.length + 64 ≤ N) (k0 : List Int → Option R) : Fk_109_2 N s k0 = k0 (toInts (hBits s)) := by
 unfold Fk_109_2
 have := chr_loop (N := N) hs (by omega) k0 [] (by simp) s.length N 0 (by omega) (by omega)
 simpa [hBits, toInts] using this
end Go.Yec
namespace Go.Yec
open Go
variable {N : Nat}
def pkS (m : Nat) : Nat → List UInt8
 | 0 => []
 | k + 1 => bitsN 4 (m / 10 ^ k % 10) ++ pkS m k
theorem pkS_len (m : Nat) : ∀ k, (pkS m k).length = 4 * k
 | 0 => rfl
 | k + 1 => by unfold pkS; rw [List.length_append, bitsN_len, pkS_len m k]; omega
def pack (p m sg : Nat) : List UInt8 := (cond (decide (p % 2 = 0)) (bitsN 4 0) []) ++ pkS m p ++ bitsN 4 sg
theorem pk_mod (m k : Nat) : m / 10 ^ k % 10 < 256 := by have : m / 10 ^ k % 10 < 10 := Nat.mod_lt _ (by decide); omega
theorem tmod10 (x : Nat) : Int.tmod (x : Int) 10 = ((x % 10 : Nat) : Int) := by rw [Int.tmod_eq_emod_of_nonneg (by omega)]; omega
theorem tdiv10 (m k : Nat) (h : m < 10 ^ 18) : IntKind.wrap .i64 (Int.tdiv ((m / 10 ^ k : Nat) : Int) 10) = ((m / 10 ^ (k + 1) : Nat) : Int) := by
 have h2 : m / 10 ^ k ≤ m := Nat.div_le_self _ _
 rw [Nat.pow_succ, ← Nat.div_div_eq_div_mul]
 generalize m / 10 ^ k = y at h2 ⊢
 rw [Int.tdiv_eq_ediv_of_nonneg (by omega), w64 (by omega) (by omega)]
 omega
theorem own_loop {p m : Nat} (hp : p ≤ 15) (hm : m < 10 ^ 18) (sg : Nat) (hN : 64 ≤ N) : iter N (L_69_1 N (p : Int)) ((m : Int), bitsN 4 sg, 0) = some (pack p m sg) := by
 have h0 : ((m : Int), bitsN 4 sg, (0 : Int)) = (((m / 10 ^ 0 : Nat) : Int), pkS m 0 ++ bitsN 4 sg, ((0 : Nat) : Int)) := by simp [pkS]
 rw [h0]
 refine walk0 (n := p) (P := Unit) (fun _ i => (((m / 10 ^ i : Nat) : Int), pkS m i ++ bitsN 4 sg, (i : Int))) (fun _ _ => True) (fun x => x = some (pack p m sg)) ?_ ?_ () trivial (by omega)
 ·intro again _ _
  unfold L_69_1
  simp only
  rw [decide_eq_false (by omega), cond_false]
  have e : decide (Int.tmod (p : Int) 2 = 0) = decide (p % 2 = 0) := decide_eq_decide.2 (by rw [Int.tmod_eq_emod_of_nonneg (by omega)]; omega)
  rw [e]
  unfold pack
  cases decide (p % 2 = 0)
  ·rw [cond_false, cond_false, List.nil_append]
  ·rw [cond_true, cond_true, decide_eq_true (by simp [pkS_len, bitsN_len]; omega), cond_true, List.append_assoc]; rfl
 ·intro again _ i _ hi hag
  unfold L_69_1
  simp only
  rw [decide_eq_true (by omega), cond_true, tmod10]
  have hd := pk_mod m i
  rw [w8 (by omega) (by omega), show (4 : Int) = ((4 : Nat) : Int) from rfl, dig106 (x := m / 10 ^ i % 10) (w := 4) hd (by decide) (by omega), Option.bind_some, decide_eq_true (by simp [pkS_len, bitsN_len]; omega), cond_true, tdiv10 m i hm, wsucc (by omega), ← List.append_assoc]
  exact hag () trivial
theorem pack_own {p : Nat} {n : Int} (hp : p ≤ 15) (hn : n.natAbs < 10 ^ 18) (hN : 64 ≤ N) : F_69 N (p : Int) n = some (pack p n.natAbs (cond (decide (n < 0)) 13 12)) := by
 unfold F_69
 have e13 : F_106 N 13 4 = some (bitsN 4 13) := dig106 (x := 13) (w := 4) (by decide) (by decide) (by omega)
 have e12 : F_106 N 12 4 = some (bitsN 4 12) := dig106 (x := 12) (w := 4) (by decide) (by decide) (by omega)
 rw [e13, e12]
 cases h : decide (n < 0)
 ·have := of_decide_eq_false h
  rw [cond_false, cond_false, Option.bind_some]
  have := own_loop (p := p) hp hn 12 hN
  rw [show ((n.natAbs : Nat) : Int) = n by omega] at this
  exact this
 ·have := of_decide_eq_true h
  rw [cond_true, cond_true, Option.bind_some, w64 (by omega) (by omega)]
  have := own_loop (p := p) hp hn 13 hN
  rw [show ((n.natAbs : Nat) : Int) = 0 - n by omega] at this
  exact this
def dgsS (m k : Nat) : List Int := (List.range k).map fun i => ((m / 10 ^ i % 10 : Nat) : Int)
theorem dgs_len (m k : Nat) : (dgsS m k).length = k := by unfold dgsS; rw [List.length_map, List.length_range]
theorem dgs_at {m k i : Nat} (h : i < k) : igetI (dgsS m k) (i : Int) = ((m / 10 ^ i % 10 : Nat) : Int) := by
 unfold igetI dgsS
 rw [Int.toNat_natCast, List.getD_eq_getElem?_getD, List.getElem?_map, List.getElem?_range h]; rfl
theorem dgs_succ (m k : Nat) : dgsS m (k + 1) = dgsS m k ++ [((m / 10 ^ k % 10 : Nat) : Int)] := by
 unfold dgsS
 rw [List.range_succ, List.map_append]; rfl
theorem low_loop {R : Type} {m p sg : Nat} (hsg : sg < 16) (hN : 64 ≤ N) (k0 : List Int → Option R) {L : (List Int × Int → Option R) → List Int × Int → Option R}
  (hL : ∀ again (k : Nat) (l : List Int), k < p → L again (l, (k : Int)) = cond (inB (k : Int) (ilen (dgsS m p))) (Fk_108_2 N (igetI (dgsS m p) (k : Int)) 4 l fun r => again (r, IntKind.wrap .i64 ((k : Int) - 1))) none)
  (h0 : ∀ again l, L again (l, -1) = Fk_108_2 N (sg : Int) 4 l fun r => k0 r) : ∀ (k M : Nat) (l : List UInt8), k ≤ p → l.length + 4 * k ≤ 1000 → k + 1 ≤ M → iter M L (toInts l, (k : Int) - 1) = k0 (toInts (l ++ (pkS m k ++ bitsN 4 sg)))
 | 0, M, l, hk, hl, hM => by
  obtain ⟨M, rfl, _⟩ := iter_ge hM
  rw [iter_succ]
  show L _ (_, -1) = _
  rw [h0, show (4 : Int) = ((4 : Nat) : Int) from rfl, num_ref2 (by omega) (by decide) (by rw [toInts_len]; omega) hN, ← toInts_append]; rfl
 | k + 1, M, l, hk, hl, hM => by
  obtain ⟨M, rfl, hM'⟩ := iter_ge hM
  have hd := pk_mod m k
  rw [iter_succ, show ((k + 1 : Nat) : Int) - 1 = (k : Int) by omega, hL _ _ _ (by omega), inB_of (by omega) (by rw [ilen_nat, dgs_len]; omega), cond_true, dgs_at (by omega), show (4 : Int) = ((4 : Nat) : Int) from rfl, num_ref2 (by omega) (by decide) (by rw [toInts_len]; omega) hN, ← toInts_append, w64 (by omega) (by omega),
   low_loop hsg hN k0 hL h0 k M _ (by omega) (by rw [List.length_append, bitsN_len]; omega) hM', List.append_assoc]
  show _ = k0 (toInts (l ++ ((bitsN 4 (m / 10 ^ k % 10) ++ pkS m k) ++ bitsN 4 sg)))
  rw [List.append_assoc (bitsN 4 _)]
end Go.Yec
namespace Go.Yec
open Go
variable {N : Nat}
theorem fin_loop {R : Type} {m p sg : Nat} (hp : p ≤ 15) (hm : m < 10 ^ 18) (hsg : sg < 16) (hN : 64 ≤ N) (k0 : List Int → Option R) (L3 : (Int × List Int × Int → Option R) → Int × List Int × Int → Option R) (L1 L2 : Int × List Int × Int → (List Int × Int → Option R) → List Int × Int → Option R)
  (h3 : ∀ again x, L3 again x = (cond (decide (x.2.2 < (p : Int))) (cond (apOk (List.length x.2.1) ([(Int.tmod x.1 10)] : List Int)) (again ((IntKind.wrap .i64 (Int.tdiv x.1 10)), (x.2.1 ++ ([(Int.tmod x.1 10)] : List Int)), (IntKind.wrap .i64 (x.2.2 + 1)))) none) (cond (decide ((Int.tmod (p : Int) 2) = 0)) (Fk_108 N 0 4 (fun r1 => (iter N (L1 x) (r1, (IntKind.wrap .i64 ((p : Int) - 1)))))) (iter N (L2 x) (([] : List Int), (IntKind.wrap .i64 ((p : Int) - 1)))))))
  (h1 : ∀ x again y, L1 x again y = cond (decide (0 ≤ y.2)) (cond (inB y.2 (ilen x.2.1)) (Fk_108_2 N (igetI x.2.1 y.2) 4 y.1 (fun r => again (r, IntKind.wrap .i64 (y.2 - 1)))) none) (Fk_108_2 N (sg : Int) 4 y.1 (fun r => k0 r)))
  (h2 : ∀ x again y, L2 x again y = L1 x again y) : iter N L3 ((m : Int), [], 0) = k0 (toInts (pack p m sg)) := by
 have e0 : ((m : Int), ([] : List Int), (0 : Int)) = (((m / 10 ^ 0 : Nat) : Int), dgsS m 0, ((0 : Nat) : Int)) := by simp [dgsS]
 rw [e0]
 have hlow : ∀ l : List UInt8, l.length ≤ 10 → iter N (L1 (((m / 10 ^ p : Nat) : Int), dgsS m p, (p : Int))) (toInts l, (p : Int) - 1) = k0 (toInts (l ++ (pkS m p ++ bitsN 4 sg))) := fun l hl =>
  low_loop (m := m) (p := p) hsg hN k0 (fun again k l hk => by
   rw [h1]
   simp only
   rw [decide_eq_true (by omega), cond_true]) (fun again l => by rw [h1]; rfl) p N l (Nat.le_refl _) (by omega) (by omega)
 have hL2 : ∀ x, L2 x = L1 x := fun x => funext fun again => funext fun y => h2 x again y
 refine walk0 (n := p) (P := Unit) (fun _ i => (((m / 10 ^ i : Nat) : Int), dgsS m i, (i : Int))) (fun _ _ => True) (fun x => x = k0 (toInts (pack p m sg))) ?_ ?_ () trivial (by omega)
 ·intro again _ _
  rw [h3]
  simp only
  rw [decide_eq_false (by omega), cond_false]
  have e : decide (Int.tmod (p : Int) 2 = 0) = decide (p % 2 = 0) := decide_eq_decide.2 (by rw [Int.tmod_eq_emod_of_nonneg (by omega)]; omega)
  rw [e, w64 (n := (p : Int) - 1) (by omega) (by omega), hL2]
  unfold pack
  cases decide (p % 2 = 0)
  ·rw [cond_false, cond_false, show ([] : List Int) = toInts [] from rfl, hlow [] (by simp), List.nil_append, List.nil_append]
  ·rw [cond_true, cond_true, show (0 : Int) = ((0 : Nat) : Int) from rfl, show (4 : Int) = ((4 : Nat) : Int) from rfl, num_ref (by decide) (by decide) hN, hlow _ (by rw [bitsN_len]; decide), List.append_assoc]
 ·intro again _ i _ hi hag
  rw [h3]
  simp only
  rw [decide_eq_true (by omega), cond_true, tmod10, apOk_one (by rw [dgs_len]; omega), cond_true, tdiv10 m i hm, wsucc (by omega), ← dgs_succ]
  exact hag () trivial
theorem pack_ref {R : Type} {p : Nat} {n : Int} (hp : p ≤ 15) (hn : n.natAbs < 10 ^ 18) (hN : 64 ≤ N) (k0 : List Int → Option R) : Fk_107 N n (p : Int) k0 = k0 (toInts (pack p n.natAbs (cond (decide (n < 0)) 13 12))) := by
 unfold Fk_107
 have hmax : max n (IntKind.wrap .i64 (0 - n)) = ((n.natAbs : Nat) : Int) := by
  rw [w64 (by omega) (by omega)]; omega
 rw [hmax]
 cases h : decide (n < 0)
 ·rw [cond_false, cond_false]
  exact fin_loop hp hn (by decide) hN k0 _ (fun x => L_107_4 N x k0) (fun x => L_107_5 N x k0) (fun _ _ => rfl) (fun _ _ _ => rfl) (fun _ _ _ => rfl)
 ·rw [cond_true, cond_true]
  exact fin_loop hp hn (by decide) hN k0 _ (fun x => L_107_1 N x k0) (fun x => L_107_2 N x k0) (fun _ _ => rfl) (fun _ _ _ => rfl) (fun _ _ _ => rfl)
theorem bit_mod {x w i : Nat} (h : i < w) : x % 2 ^ w / 2 ^ i % 2 = x / 2 ^ i % 2 := by
 have e : (x % 2 ^ w).testBit i = x.testBit i := by rw [Nat.testBit_mod_two_pow, decide_eq_true h, Bool.true_and]
 rw [Nat.testBit_eq_decide_div_mod_eq, Nat.testBit_eq_decide_div_mod_eq, decide_eq_decide] at e
 omega
theorem bitsN_mod (x : Nat) {w : Nat} : ∀ k, k ≤ w → bitsN k (x % 2 ^ w) = bitsN k x
 | 0, _ => rfl
 | k + 1, h => by
  unfold bitsN
  rw [bitsN_mod x k (by omega)]
  unfold dgN
  rw [bit_mod (by omega)]
end Go.Yec
namespace Go.Yec
open Go
variable {N : Nat}
noncomputable def encS (k p : Int) (v : Bool) (n : Int) (u : List UInt8) : List UInt8 :=
 cond (decide (k = 1)) (pack p.toNat n.natAbs (cond (decide (n < 0)) 13 12))
 (cond (decide (k = 2)) (cond (decide (p ≤ 15)) (bitsN 16 (n % 65536).toNat) (bitsN 32 (n % 4294967296).toNat))
 (cond (decide (k = 4)) u
 (cond (decide (k = 6)) (bitsN 32 n.toNat)
 (cond v (bitsN 16 u.length ++ hBits u) (hBits u)))))
theorem va12 {k p n : Int} {v : Bool} {pic u : List UInt8} (hk : k = 1 ∨ k = 2) (h : vaS k p v pic n u = true) : u = [] ∧ 0 - bndS k p < n ∧ n < bndS k p := by
 unfold vaS at h
 have h : (decide (u = []) && (!(decide (n ≤ 0 - bndS k p)) && !(decide (bndS k p ≤ n)))) = true := by
  rcases hk with rfl | rfl
  ·exact h
  ·exact h
 simp only [Bool.and_eq_true, decide_eq_true_eq, Bool.not_eq_true', decide_eq_false_iff_not] at h
 exact ⟨h.1, by omega, by omega⟩
theorem va3 {p n : Int} {v : Bool} {pic u : List UInt8} (h : vaS 3 p v pic n u = true) : n = 0 ∧ slen u ≤ p := by
 unfold vaS at h
 have h : (decide (n = 0) && (decide (slen u = p) || (v && decide (slen u < p)))) = true := h
 simp only [Bool.and_eq_true, Bool.or_eq_true, decide_eq_true_eq] at h
 exact ⟨h.1, by rcases h.2 with h | h <;> omega⟩
theorem va5 {p n : Int} {v : Bool} {pic u : List UInt8} (h : vaS 5 p v pic n u = true) : n = 0 ∧ u.length ≤ 32 := by
 unfold vaS at h
 have h : (decide (n = 0) && HoldsS pic u) = true := h
 simp only [Bool.and_eq_true, decide_eq_true_eq] at h
 refine ⟨h.1, ?_⟩
 have h2 := h.2
 unfold HoldsS at h2
 split at h2
 ·cases h2
 ·rename_i o ho
  have hl := mch_len ho
  split at h2
  ·simp only [Bool.and_eq_true, decide_eq_true_eq] at h2; omega
  ·split at h2
   ·simp only [Bool.and_eq_true, decide_eq_true_eq] at h2; omega
   ·cases h2
theorem va6 {p n : Int} {v : Bool} {pic u : List UInt8} (h : vaS 6 p v pic n u = true) : u = [] ∧ 0 ≤ n ∧ n ≤ 524288 := by
 unfold vaS at h
 have h : (decide (u = []) && (decide (0 ≤ n) && decide (n ≤ 524288))) = true := h
 simp only [Bool.and_eq_true, decide_eq_true_eq] at h
 exact h
theorem ty3 {p q : Int} {v : Bool} {pic : List UInt8} (h : tyS 3 p q v pic = true) : 0 ≤ p ∧ p ≤ 255 := by
 unfold tyS at h
 have h : (decide (pic = []) && ((decide (0 ≤ p) && decide (p ≤ 255)) && decide (q = 0))) = true := h
 simp only [Bool.and_eq_true, decide_eq_true_eq] at h
 exact h.2.1
theorem ty5 {p q : Int} {v : Bool} {pic : List UInt8} (h : tyS 5 p q v pic = true) : v = false := by
 unfold tyS at h
 have h : (!v && ((decide (p = 0) && decide (q = 0)) && decide ((picS pic).2 = 0))) = true := h
 simp only [Bool.and_eq_true, Bool.not_eq_true'] at h
 exact h.1
theorem bnd2 {p : Int} (m : Nat) (h : p ≤ m) : bndS 2 p ≤ ((2 ^ m : Nat) : Int) := by
 unfold bndS
 have : 2 ^ p.toNat ≤ 2 ^ m := Nat.pow_le_pow_right (by omega) (by omega)
 generalize 2 ^ p.toNat = x at this ⊢
 generalize 2 ^ m = y at this ⊢
 show (x : Int) ≤ _
 omega
theorem sz2 {p q : Int} {v : Bool} {pic : List UInt8} (h : tyS 2 p q v pic = true) : szS 2 p q v pic = cond (decide (p ≤ 15)) 16 32 := by unfold szS; rw [h]; rfl
theorem sz6 {p q : Int} {v : Bool} {pic : List UInt8} (h : tyS 6 p q v pic = true) : szS 6 p q v pic = 32 := by unfold szS; rw [h]; rfl
theorem hOk {u : List UInt8} (h : u.length ≤ 300) : hBitsOk u = true := decide_eq_true (by omega)
theorem neg16 {n : Int} (hN : 1100 ≤ N) : F_70 N (IntKind.wrap .u64 n) 16 = some (bitsN 16 (n % 65536).toNat) := by
 have e : IntKind.wrap .u64 n = (((n % 18446744073709551616).toNat : Nat) : Int) := by rw [IntKind.wrap_u64]; omega
 rw [e, show (16 : Int) = ((16 : Nat) : Int) from rfl, dig70 (by omega) (by omega) (by omega), ← bitsN_mod (w := 16) _ 16 (Nat.le_refl _)]
 rw [show (n % 18446744073709551616).toNat % 2 ^ 16 = (n % 65536).toNat by omega]
theorem neg32 {n : Int} (hN : 1100 ≤ N) : F_70 N (IntKind.wrap .u64 n) 32 = some (bitsN 32 (n % 4294967296).toNat) := by
 have e : IntKind.wrap .u64 n = (((n % 18446744073709551616).toNat : Nat) : Int) := by rw [IntKind.wrap_u64]; omega
 rw [e, show (32 : Int) = ((32 : Nat) : Int) from rfl, dig70 (by omega) (by omega) (by omega), ← bitsN_mod (w := 32) _ 32 (Nat.le_refl _)]
 rw [show (n % 18446744073709551616).toNat % 2 ^ 32 = (n % 4294967296).toNat by omega]
noncomputable def encR (k p q : Int) (v : Bool) (pic : List UInt8) (n : Int) (u : List UInt8) : List UInt8 × Int :=
 cond (tyS k p q v pic && !(decide (k = 7))) (cond (vaS k p v pic n u) (encS k p v n u, 0) ([], 6)) ([], 5)
theorem enc_own {k p q n : Int} {v : Bool} {pic u : List UInt8} (hl : pic.length ≤ 1000) (hN : 1100 ≤ N) : F_23 N k p q v pic n u = some (encR k p q v pic n u) := by
 unfold F_23 encR
 rw [va_own hl hN]
 simp only [Option.bind_some]
 cases hty : (tyS k p q v pic && !(decide (k = 7)))
 ·rfl
 ·cases hva : vaS k p v pic n u
  ·rfl
  ·rw [Bool.and_eq_true, Bool.not_eq_true'] at hty
   obtain ⟨hty, h7⟩ := hty
   have h7 := of_decide_eq_false h7
   simp only [cond_true, decide_true, Bool.not_true, cond_false]
   unfold encS
   rcases kinds k with e | e | e | e | e | e | e | ⟨h1, h2, h3, h4, h5, h6, h7⟩
   ·subst e
    obtain ⟨a1, a2⟩ := ty_arith (.inl rfl) hty
    obtain ⟨l1, l2⟩ := bnd_lim a1
    obtain ⟨_, b1, b2⟩ := va12 (.inl rfl) hva
    simp only [decide_true, cond_true]
    have := pack_own (N := N) (p := p.toNat) (n := n) (by omega) (by omega) (by omega)
    rw [show ((p.toNat : Nat) : Int) = p by omega] at this
    rw [this]; rfl
   ·subst e
    rw [sz_own hl hN, sz2 hty]
    cases hp : decide (p ≤ 15)
    ·simp only [cond_true, cond_false, Option.bind_some, decide_true, show decide ((2 : Int) = 1) = false from rfl]
     rw [neg32 hN]; rfl
    ·simp only [cond_true, cond_false, Option.bind_some, decide_true, show decide ((2 : Int) = 1) = false from rfl]
     rw [neg16 hN]; rfl
   ·subst e
    obtain ⟨p0, p1⟩ := ty3 hty
    obtain ⟨_, b1⟩ := va3 hva
    rw [slen_nat] at b1
    have hu := hOk (u := u) (by omega)
    cases v
    ·show cond (hBitsOk u) _ _ = _
     rw [hu]; rfl
    ·have := dig71 (N := N) (x := u.length) (w := 16) (by omega) (by decide) (by omega)
     have ew : IntKind.wrap .u16 (slen u) = (u.length : Int) := wu16 _ (by rw [slen_nat]; omega) (by rw [slen_nat]; omega)
     show Option.bind (F_71 N (IntKind.wrap .u16 (slen u)) 16) _ = _
     rw [ew, show (16 : Int) = ((16 : Nat) : Int) from rfl, this, Option.bind_some, hu, cond_true, decide_eq_true (by rw [bitsN_len, hBits_len]; omega)]
     rfl
   ·subst e; rfl
   ·subst e
    obtain ⟨_, b1⟩ := va5 hva
    obtain rfl := ty5 hty
    have hu := hOk (u := u) (by omega)
    show cond (hBitsOk u) _ _ = _
    rw [hu]; rfl
   ·subst e
    obtain ⟨_, b0, b1⟩ := va6 hva
    rw [sz_own hl hN, sz6 hty]
    show Option.bind (F_70 N (IntKind.wrap .u64 n) 32) _ = _
    rw [neg32 hN, show (n % 4294967296).toNat = n.toNat by omega]; rfl
   ·exact absurd e h7
   ·unfold tyS at hty
    rw [decide_eq_false h1, decide_eq_false h2, decide_eq_false h3, decide_eq_false h4, decide_eq_false h5, decide_eq_false h6, decide_eq_false h7] at hty
    cases hty
theorem enc_ref {k p q n : Int} {v : Bool} {pic u : List UInt8} (hl : pic.length ≤ 1000) (hN : 1100 ≤ N) : F_24 N k p q v pic n u = some (encR k p q v pic n u) := by
 unfold F_24 encR
 rw [va_ref hl hN]
 simp only [Option.bind_some]
 cases hty : (tyS k p q v pic && !(decide (k = 7)))
 ·rfl
 ·cases hva : vaS k p v pic n u
  ·rfl
  ·rw [Bool.and_eq_true, Bool.not_eq_true'] at hty
   obtain ⟨hty, h7⟩ := hty
   have h7 := of_decide_eq_false h7
   simp only [cond_true, decide_true, Bool.not_true, cond_false]
   suffices h : F_73 N k p q v pic n u = some (encS k p v n u) by rw [h]; rfl
   unfold F_73 encS
   rcases kinds k with e | e | e | e | e | e | e | ⟨h1, h2, h3, h4, h5, h6, h7⟩
   ·subst e
    obtain ⟨a1, a2⟩ := ty_arith (.inl rfl) hty
    obtain ⟨l1, l2⟩ := bnd_lim a1
    obtain ⟨_, b1, b2⟩ := va12 (.inl rfl) hva
    simp only [decide_true, cond_true]
    have := pack_ref (N := N) (p := p.toNat) (n := n) (by omega) (by omega) (by omega) (fun r => some (ofInts r))
    rw [show ((p.toNat : Nat) : Int) = p by omega, ofInts_toInts] at this
    exact this
   ·subst e
    obtain ⟨a1, a2⟩ := ty_arith (.inr rfl) hty
    obtain ⟨_, b1, b2⟩ := va12 (.inr rfl) hva
    have l2 := bnd2 31 (p := p) (by omega)
    rw [sz_ref hl hN, sz2 hty]
    simp only [decide_true, cond_true, cond_false, show decide ((2 : Int) = 1) = false from rfl, Option.bind_some]
    cases hp : decide (p ≤ 15)
    ·simp only [cond_false, cond_true]
     have c1 : (IntKind.wrap .i64 (1 * (2 ^ min (Int.toNat (IntKind.wrap .u64 32)) (IntKind.bits .i64)))) = 4294967296 := by decide
     have c2 : decide (0 ≤ (IntKind.wrap .u64 32)) = true := by decide
     rw [c1, c2, cond_true]
     cases hn : decide (n < 0)
     ·have hn := of_decide_eq_false hn
      have := num_ref (N := N) (x := n.toNat) (w := 32) (by omega) (by decide) (by omega) (fun r => some (ofInts r))
      rw [show ((n.toNat : Nat) : Int) = n by omega, ofInts_toInts] at this
      rw [cond_false, show (n % 4294967296).toNat = n.toNat by omega]
      exact this
     ·have hn := of_decide_eq_true hn
      have := num_ref (N := N) (x := (n + 4294967296).toNat) (w := 32) (by omega) (by decide) (by omega) (fun r => some (ofInts r))
      rw [show (((n + 4294967296).toNat : Nat) : Int) = n + 4294967296 by omega, ofInts_toInts] at this
      rw [cond_true, w64 (n := n + 4294967296) (by omega) (by omega), show (n % 4294967296).toNat = (n + 4294967296).toNat by omega]
      exact this
    ·have l3 := bnd2 15 (p := p) (of_decide_eq_true hp)
     simp only [cond_false, cond_true]
     have c1 : (IntKind.wrap .i64 (1 * (2 ^ min (Int.toNat (IntKind.wrap .u64 16)) (IntKind.bits .i64)))) = 65536 := by decide
     have c2 : decide (0 ≤ (IntKind.wrap .u64 16)) = true := by decide
     rw [c1, c2, cond_true]
     cases hn : decide (n < 0)
     ·have hn := of_decide_eq_false hn
      have := num_ref (N := N) (x := n.toNat) (w := 16) (by omega) (by decide) (by omega) (fun r => some (ofInts r))
      rw [show ((n.toNat : Nat) : Int) = n by omega, ofInts_toInts] at this
      rw [cond_false, show (n % 65536).toNat = n.toNat by omega]
      exact this
     ·have hn := of_decide_eq_true hn
      have := num_ref (N := N) (x := (n + 65536).toNat) (w := 16) (by omega) (by decide) (by omega) (fun r => some (ofInts r))
      rw [show (((n + 65536).toNat : Nat) : Int) = n + 65536 by omega, ofInts_toInts] at this
      rw [cond_true, w64 (n := n + 65536) (by omega) (by omega), show (n % 65536).toNat = (n + 65536).toNat by omega]
      exact this
   ·subst e
    obtain ⟨p0, p1⟩ := ty3 hty
    obtain ⟨_, b1⟩ := va3 hva
    rw [slen_nat] at b1
    cases v
    ·show Fk_109_2 N u _ = _
     rw [chr_ref2 (by omega) (by omega), ofInts_toInts]; rfl
    ·show Fk_108 N (slen u) ((16 : Nat) : Int) _ = _
     rw [slen_nat, num_ref (by omega) (by decide) (by omega), chr_ref (by omega) (by omega) _ _ (by rw [bitsN_len]; decide), ofInts_toInts]; rfl
   ·subst e; rfl
   ·subst e
    obtain ⟨_, b1⟩ := va5 hva
    obtain rfl := ty5 hty
    show Fk_109_2 N u _ = _
    rw [chr_ref2 (by omega) (by omega), ofInts_toInts]; rfl
   ·subst e
    obtain ⟨_, b0, b1⟩ := va6 hva
    have := num_ref (N := N) (x := n.toNat) (w := 32) (by omega) (by decide) (by omega) (fun r => some (ofInts r))
    rw [show ((n.toNat : Nat) : Int) = n by omega, ofInts_toInts] at this
    exact this
   ·exact absurd e h7
   ·unfold tyS at hty
    rw [decide_eq_false h1, decide_eq_false h2, decide_eq_false h3, decide_eq_false h4, decide_eq_false h5, decide_eq_false h6, decide_eq_false h7] at hty
    cases hty
end Go.Yec
namespace Go.Yec
open Go
variable {N : Nat}
def BitL (s : List UInt8) : Prop := ∀ c, c ∈ s → c = 48 ∨ c = 49
theorem bitL_of {s : List UInt8} (h : bsS s = true) : BitL s := fun c hc => by
 obtain ⟨i, hi, rfl⟩ := mem_bt.1 hc
 unfold bsS at h
 rw [List.all_eq_true] at h
 have := h i (List.mem_range.2 hi)
 simpa using this
theorem BitL.sub {s t : List UInt8} (h : BitL s) (ht : ∀ c, c ∈ t → c ∈ s) : BitL t := fun c hc => h c (ht c hc)
theorem BitL.part {s : List UInt8} (h : BitL s) (a b : Nat) : BitL ((s.drop a).take b) := h.sub fun _ hc => List.mem_of_mem_drop (List.mem_of_mem_take hc)
theorem BitL.at {s : List UInt8} (h : BitL s) {i : Nat} (hi : i < s.length) : bt s i = 48 ∨ bt s i = 49 := h _ (mem_bt.2 ⟨i, hi, rfl⟩)
def bvT (s : List UInt8) : Nat → Nat
 | 0 => 0
 | i + 1 => 2 * bvT s i + ((bt s i).toNat - 48)
def bv (s : List UInt8) : Nat := bvT s s.length
theorem bvT_lt {s : List UInt8} (h : BitL s) : ∀ i, i ≤ s.length → bvT s i < 2 ^ i
 | 0, _ => by simp [bvT]
 | i + 1, hi => by
  have ih := bvT_lt h i (by omega)
  unfold bvT
  rw [Nat.pow_succ]
  rcases h.at (i := i) (by omega) with e | e <;> rw [e]
  ·show 2 * bvT s i + 0 < _; omega
  ·show 2 * bvT s i + 1 < _; omega
theorem bv_lt {s : List UInt8} (h : BitL s) : bv s < 2 ^ s.length := bvT_lt h _ (Nat.le_refl _)
theorem bit_num {s : List UInt8} (h : BitL s) {i : Nat} (hi : i < s.length) : IntKind.wrap .u8 (sget s (i : Int) - 48) = (((bt s i).toNat - 48 : Nat) : Int) ∧ (bt s i).toNat - 48 < 2 := by
 rw [sget_bt]
 rcases h.at hi with e | e <;> rw [e] <;> exact ⟨by decide, by decide⟩
theorem read_loop {s : List UInt8} (h : BitL s) {L : (Int × Int → Option Int) → Int × Int → Option Int} {w : Nat} (hl : s.length ≤ w) (hw : w ≤ 60)
  (hL : ∀ again (i x b : Nat), i < s.length → x < 2 ^ i → IntKind.wrap .u8 (sget s (i : Int) - 48) = (b : Int) → b < 2 → L again ((x : Int), (i : Int)) = again (((2 * x + b : Nat) : Int), ((i + 1 : Nat) : Int)))
  (h0 : ∀ again x, L again (x, ((s.length : Nat) : Int)) = some x) (hN : 64 ≤ N) : iter N L (0, 0) = some ((bv s : Nat) : Int) := by
 refine walk0 (n := s.length) (P := Unit) (fun _ i => (((bvT s i : Nat) : Int), (i : Int))) (fun _ _ => True) (fun x => x = some ((bv s : Nat) : Int)) ?_ ?_ () trivial (by omega)
 ·intro again _ _
  exact h0 _ _
 ·intro again _ i _ hi hag
  obtain ⟨e1, e2⟩ := bit_num h hi
  rw [hL again i (bvT s i) _ hi (bvT_lt h i (by omega)) e1 e2]
  exact hag () trivial
theorem or_bit {k : IntKind} {j : Nat} (hj : j ≤ k.bits) (h1 : 1 ≤ j) (hk : ∀ n : Int, 0 ≤ n → n < 2 ^ j → k.wrap n = n) {x b : Nat} (hx : 2 * x < 2 ^ j) (hb : b < 2) : ibits .or k ((2 * x : Nat) : Int) (b : Int) = ((2 * x + b : Nat) : Int) := by
 have h2 : (2 : Nat) ^ 1 ≤ 2 ^ j := Nat.pow_le_pow_right (by decide) h1
 have := bits_join k j hj hk 1 ((2 * x : Nat) : Int) (b : Int) (by omega) (by omega) (by exact_mod_cast hx) (by omega) (by omega) (by
  have : b < 2 ^ j := by omega
  exact_mod_cast this)
 show bits .or k _ _ = _
 rw [this]; omega
theorem wu32 : ∀ n : Int, 0 ≤ n → n < 2 ^ 32 → IntKind.u32.wrap n = n := fun n h0 h1 => by rw [IntKind.wrap_u32]; omega
theorem pow_lt {i w : Nat} (h : i < w) {x : Nat} (hx : x < 2 ^ i) : 2 * x < 2 ^ w := by
 have : 2 ^ (i + 1) ≤ 2 ^ w := Nat.pow_le_pow_right (by decide) h
 rw [Nat.pow_succ] at this
 omega
theorem num111 {s : List UInt8} (h : BitL s) (hl : s.length ≤ 16) (hN : 64 ≤ N) : F_111 N s = some ((bv s : Nat) : Int) := by
 unfold F_111
 refine read_loop h hl (by decide) (fun again i x b hi hx e hb => ?_) (fun again x => ?_) hN
 ·have hx2 := pow_lt (w := 16) (by omega) hx
  unfold L_111_1
  simp only
  rw [lt_slen hi, cond_true, inB_slen hi, cond_true, e, wu16 (b : Int) (by omega) (by omega), show ((x : Int) * (2 ^ min (Int.toNat 1) (IntKind.bits .u16))) = ((2 * x : Nat) : Int) by (show (x : Int) * 2 = _; omega), wu16 _ (by omega) (by omega), or_bit (j := 16) (by decide) (by decide) wu16 hx2 hb, wsucc (by omega)]
 ·unfold L_111_1
  simp only
  rw [nlt_slen, cond_false]
theorem num112 {s : List UInt8} (h : BitL s) (hl : s.length ≤ 32) (hN : 64 ≤ N) : F_112 N s = some ((bv s : Nat) : Int) := by
 unfold F_112
 refine read_loop h hl (by decide) (fun again i x b hi hx e hb => ?_) (fun again x => ?_) hN
 ·have hx2 := pow_lt (w := 32) (by omega) hx
  unfold L_112_1
  simp only
  rw [lt_slen hi, cond_true, inB_slen hi, cond_true, e, wu32 (b : Int) (by omega) (by omega), show ((x : Int) * (2 ^ min (Int.toNat 1) (IntKind.bits .u32))) = ((2 * x : Nat) : Int) by (show (x : Int) * 2 = _; omega), wu32 _ (by omega) (by omega), or_bit (j := 32) (by decide) (by decide) wu32 hx2 hb, wsucc (by omega)]
 ·unfold L_112_1
  simp only
  rw [nlt_slen, cond_false]
theorem num148 {s : List UInt8} (h : BitL s) (hl : s.length ≤ 8) (hN : 64 ≤ N) : F_148 N s = some ((bv s : Nat) : Int) := by
 unfold F_148
 refine read_loop h hl (by decide) (fun again i x b hi hx e hb => ?_) (fun again x => ?_) hN
 ·have hx2 := pow_lt (w := 8) (by omega) hx
  unfold L_148_1
  simp only
  rw [lt_slen hi, cond_true, inB_slen hi, cond_true, e, show ((x : Int) * (2 ^ min (Int.toNat 1) (IntKind.bits .u8))) = ((2 * x : Nat) : Int) by (show (x : Int) * 2 = _; omega), wu8 _ (by omega) (by omega), or_bit (j := 8) (by decide) (by decide) wu8 hx2 hb, wsucc (by omega)]
 ·unfold L_148_1
  simp only
  rw [nlt_slen, cond_false]
theorem read_ref' {s : List UInt8} (h : BitL s) (hl : s.length ≤ 60) (hN : 64 ≤ N) : F_115 N s = some ((bv s : Nat) : Int) := by
 unfold F_115
 refine read_loop h hl (by decide) (fun again i x b hi hx e hb => ?_) (fun again x => ?_) hN
 ·have hx2 := pow_lt (w := 60) (by omega) hx
  unfold L_115_1
  simp only
  rw [lt_slen hi, cond_true, inB_slen hi, cond_true, e, w64 (n := (b : Int)) (by omega) (by omega), w64 (n := 2 * (x : Int)) (by omega) (by omega), w64 (by omega) (by omega), wsucc (by omega)]
  rfl
 ·unfold L_115_1
  simp only
  rw [nlt_slen, cond_false]
def txt (s : List UInt8) (m : Nat) : List UInt8 := (List.range m).map fun i => (bv ((s.drop (8 * i)).take 8)).toUInt8
theorem txt_len (s : List UInt8) (m : Nat) : (txt s m).length = m := by unfold txt; rw [List.length_map, List.length_range]
theorem txt_succ (s : List UInt8) (m : Nat) : txt s (m + 1) = txt s m ++ [(bv ((s.drop (8 * m)).take 8)).toUInt8] := by unfold txt; rw [List.range_succ, List.map_append]; rfl
theorem part_len {s : List UInt8} {a b : Nat} (h : a + b ≤ s.length) : ((s.drop a).take b).length = b := by rw [List.length_take, List.length_drop]; omega
theorem part_lt {s : List UInt8} (hb : BitL s) {a b : Nat} (h : a + b ≤ s.length) : bv ((s.drop a).take b) < 2 ^ b := by
 have := bv_lt (hb.part a b)
 rw [part_len h] at this
 exact this
theorem byte_nat {x : Nat} (h : x < 256) : ((x.toUInt8.toNat : Nat) : Int) = (x : Int) := by
 rw [Nat.toUInt8, UInt8.toNat_ofNat']; omega
theorem one_byte {x : Nat} (h : x < 256) : toInts [x.toUInt8] = [(x : Int)] := congrArg (fun y => [y]) (byte_nat h)
theorem ssub_part {s : List UInt8} {a b : Nat} : ssub s (a : Int) ((a + b : Nat) : Int) = (s.drop a).take b := by
 unfold ssub
 rw [Int.toNat_natCast, Int.toNat_natCast, show a + b - a = b by omega]
theorem chars_own {s : List UInt8} (hb : BitL s) {m : Nat} (hm : m ≤ 1000) (hl : s.length = 8 * m) (hN : 1100 ≤ N) : F_113 N s = some (txt s m) := by
 unfold F_113
 have e : IntKind.wrap .i64 (Int.tdiv (slen s) 8) = (m : Int) := by
  rw [slen_nat, Int.tdiv_eq_ediv_of_nonneg (by omega), w64 (by omega) (by omega)]; omega
 rw [e, decide_eq_true (by omega), cond_true, Int.toNat_natCast, repI_eq]
 have e0 : ((0 : Int), List.replicate m (0 : Int)) = (((0 : Nat) : Int), toInts (txt s 0) ++ List.replicate (m - 0) 0) := rfl
 rw [e0]
 refine walk0 (n := m) (P := Unit) (fun _ i => ((i : Int), toInts (txt s i) ++ List.replicate (m - i) 0)) (fun _ _ => True) (fun x => x = some (txt s m)) ?_ ?_ () trivial (by omega)
 ·intro again _ _
  unfold L_113_1
  simp only
  rw [e, Int.toNat_natCast, repI_eq, decide_eq_false (by rw [ilen_nat, List.length_replicate]; omega), cond_false, Nat.sub_self]
  simp only [List.replicate_zero, List.append_nil, ofInts_toInts]
 ·intro again _ i _ hi hag
  unfold L_113_1
  simp only
  have hp : 8 * i + 8 ≤ s.length := by omega
  have hlt := part_lt hb hp
  have c1 : IntKind.wrap .i64 (8 * (i : Int)) = ((8 * i : Nat) : Int) := by rw [w64 (by omega) (by omega)]; omega
  have c2 : IntKind.wrap .i64 (((8 * i : Nat) : Int) + 8) = ((8 * i + 8 : Nat) : Int) := by rw [w64 (by omega) (by omega)]; omega
  rw [e, Int.toNat_natCast, repI_eq, decide_eq_true (by rw [ilen_nat, List.length_replicate]; omega), cond_true, c1, c2, decide_eq_true (by rw [slen_nat]; omega), cond_true, ssub_part, num148 (hb.part _ _) (by rw [part_len hp]; decide) (by omega), Option.bind_some,
   inB_of (by omega) (by rw [ilen_nat, List.length_append, toInts_len, txt_len, List.length_replicate]; omega), cond_true, wsucc (by omega)]
  have e3 : isetI (toInts (txt s i) ++ List.replicate (m - i) 0) (i : Int) ((bv ((s.drop (8 * i)).take 8) : Nat) : Int) = toInts (txt s (i + 1)) ++ List.replicate (m - (i + 1)) 0 := by
   unfold isetI
   rw [Int.toNat_natCast, List.set_append_right _ _ (by rw [toInts_len, txt_len]; omega), toInts_len, txt_len, Nat.sub_self, show m - i = (m - (i + 1)) + 1 by omega, List.replicate_succ, List.set_cons_zero, txt_succ, toInts_append, List.append_assoc, one_byte (by omega)]
   rfl
  rw [e3]
  exact hag () trivial
theorem text_ref {s : List UInt8} (hb : BitL s) {m : Nat} (hm : m ≤ 1000) (hl : s.length = 8 * m) (hN : 1100 ≤ N) : F_116 N s = some (txt s m) := by
 unfold F_116
 have e0 : (([] : List Int), (0 : Int)) = (toInts (txt s 0), ((8 * 0 : Nat) : Int)) := rfl
 rw [e0]
 refine walk0 (n := m) (P := Unit) (fun _ i => (toInts (txt s i), ((8 * i : Nat) : Int))) (fun _ _ => True) (fun x => x = some (txt s m)) ?_ ?_ () trivial (by omega)
 ·intro again _ _
  unfold L_116_1
  simp only
  rw [w64 (by omega) (by omega), decide_eq_false (by rw [slen_nat]; omega), cond_false, ofInts_toInts]
 ·intro again _ i _ hi hag
  have hp : 8 * i + 8 ≤ s.length := by omega
  have hlt := part_lt hb hp
  have c2 : IntKind.wrap .i64 (((8 * i : Nat) : Int) + 8) = ((8 * i + 8 : Nat) : Int) := by rw [w64 (by omega) (by omega)]; omega
  unfold L_116_1
  simp only
  rw [c2, decide_eq_true (by rw [slen_nat]; omega), cond_true, decide_eq_true (by rw [slen_nat]; omega), cond_true, ssub_part, read_ref' (hb.part _ _) (by rw [part_len hp]; decide) (by omega), Option.bind_some, wu8 _ (by omega) (by omega), apOk_one (by rw [toInts_len, txt_len]; omega), cond_true]
  have e3 : toInts (txt s i) ++ [((bv ((s.drop (8 * i)).take 8) : Nat) : Int)] = toInts (txt s (i + 1)) := by
   rw [txt_succ, toInts_append, one_byte (by omega)]
  rw [e3, show 8 * i + 8 = 8 * (i + 1) by omega]
  exact hag () trivial
end Go.Yec
