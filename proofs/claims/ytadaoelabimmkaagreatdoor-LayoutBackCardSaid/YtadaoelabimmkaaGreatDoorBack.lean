/-
  LAYOUTBACK: for every type, two values and a byte (values that are not good ones of the type, pictures of more than 200 bytes are let by), the law returns true and leaves its arguments as they were. Conditions: the eight listed package variables read as the program's text lays them.
-/
import Derived.Test.YtadaoelabimmkaaGreatDoorT1
import Derived.Test.YtadaoelabimmkaaGreatDoorT2
import Derived.Test.YtadaoelabimmkaaGreatDoorZ9
import Derived.ProofKit
import Derived.OpenShut
import Derived.LaidMore
import Derived.Lay
import Derived.SevenTiedAt
import Derived.Stop.Joined
import Derived.Lib.SmallJoins
import Derived.Lib.LaidU8
import Derived.Test.YtadaoelabimmkaaGreatDoorRows
import Derived.Test.YtadaoelabimmkaaGreatDoorY13
import Derived.Test.YtadaoelabimmkaaGreatDoorY14
import Derived.Test.YtadaoelabimmkaaGreatDoorCards
import Derived.Test.YtadaoelabimmkaaGreatDoorTie
import Derived.ChangeMaps5
import Derived.Carry
set_option linter.all false
namespace Go.Proofs
open Go.RowKit Go.Yec
open Go.Xec (Glob)
variable {k p q n : Int} {v : Bool} {s u b : ByteArray}
theorem z3Q (h : y2S k p q v s n u = true) : s.data.toList.length <= 200 /\ tyS k p q v s.data.toList = true /\ k ≠ 7 /\ vaS k p v s.data.toList n u.data.toList = true := by
  unfold y2S veS at h
  simp only [Bool.and_eq_true, decide_eq_true_eq] at h
  obtain ⟨h1, _, h2⟩ := h
  cases ht : (tyS k p q v s.data.toList && !(decide (k = 7)))
  . rw [ht] at h2; cases h2
  . cases hv : vaS k p v s.data.toList n u.data.toList
    . rw [ht, hv] at h2; cases h2
    . rw [Bool.and_eq_true, Bool.not_eq_true'] at ht
      exact ⟨h1, ht.1, of_decide_eq_false ht.2, rfl⟩
theorem u9D (h : y2S k p q v s n u = true) : encB k p q v s n u = ⟨(encS k p v n u.data.toList).toArray⟩ /\ encE k p q v s n u = 0 := by
  obtain ⟨_, h2, h3, h4⟩ := z3Q h
  unfold encB encE encR
  rw [h2, decide_eq_false h3, h4]
  exact ⟨rfl, rfl⟩
theorem c25_back {f : UInt8} (hf : f = 48 \/ f = 49) (h : y2S k p q v s n u = true) (w : World) (hg : Glob w) :
    Calls Tryz.prog 25 #[tyV k p q v s, .string ⟨(x4T k p q v s.data.toList n u.data.toList f).toArray⟩] w fun e w' => e = .returned (.tuple #[vaV n u, .int .i64 0]) /\ Below w.heap.size w w' := by
  obtain ⟨h1, h2, h3, h4⟩ := z3Q h
  have hd := z4J (N := 6100) (f := f) hf (by omega) (by omega) h2 h3 h4
  have := (x5K (D := Unit) (V := V0) u2L x2E x2D (y0L (v9H u2M 6100) (args := [tyP k p q v s, .str (x4T k p q v s.data.toList n u.data.toList f)]) rfl hd) (xs := [tyV k p q v s, .string ⟨(x4T k p q v s.data.toList n u.data.toList f).toArray⟩]) (.cons _ _ _ _ y6C (.cons _ _ _ _ (.str ⟨(x4T k p q v s.data.toList n u.data.toList f).toArray⟩) .nil)) rfl (fun _ _ _ _ h => rep_dec h) rfl w hg).mono fun _ _ h => x7S h
  exact this
end Go.Proofs
namespace Go.Proofs
open Go.RowKit Go.Yec
open Go.Xec (Glob)
def Box3 (A : Nat) (k p q : Int) (v : Bool) (s : ByteArray) (n : Int) (u : ByteArray) (m : Int) (x : ByteArray) (w : World) : Prop :=
  w.cell? ⟨A, 0, none⟩ = some (.int .i64 k) /\ w.cell? ⟨A, 1, none⟩ = some (.int .i64 p) /\ w.cell? ⟨A, 2, none⟩ = some (.int .i64 q) /\ w.cell? ⟨A, 3, none⟩ = some (.bool v) /\ w.cell? ⟨A, 4, none⟩ = some (.string s) /\ w.cell? ⟨A + 1, 0, none⟩ = some (.int .i64 n) /\ w.cell? ⟨A + 1, 1, none⟩ = some (.string u) /\ w.cell? ⟨A + 2, 0, none⟩ = some (.int .i64 m) /\ w.cell? ⟨A + 2, 1, none⟩ = some (.string x) /\ A + 2 < w.heap.size
theorem Box3.keep {A : Nat} {k p q n m : Int} {v : Bool} {s u x : ByteArray} {w w' : World} (h : Box3 A k p q v s n u m x w) (hb : Below w.heap.size w w') : Box3 A k p q v s n u m x w' := by
  obtain ⟨h0, h1, h2, h3, h4, h5, h6, h7, h8, h9⟩ := h
  exact ⟨(hb.cell (p := ⟨A, 0, none⟩) (by simp only; omega)).trans h0, (hb.cell (p := ⟨A, 1, none⟩) (by simp only; omega)).trans h1, (hb.cell (p := ⟨A, 2, none⟩) (by simp only; omega)).trans h2, (hb.cell (p := ⟨A, 3, none⟩) (by simp only; omega)).trans h3, (hb.cell (p := ⟨A, 4, none⟩) (by simp only; omega)).trans h4,
    (hb.cell (p := ⟨A + 1, 0, none⟩) (by simp only; omega)).trans h5, (hb.cell (p := ⟨A + 1, 1, none⟩) (by simp only; omega)).trans h6, (hb.cell (p := ⟨A + 2, 0, none⟩) (by simp only; omega)).trans h7, (hb.cell (p := ⟨A + 2, 1, none⟩) (by simp only; omega)).trans h8, by have := hb.size; omega⟩
theorem box3_new {w : World} {k p q n m : Int} {v : Bool} {s u x : ByteArray} : Box3 w.heap.size k p q v s n u m x (((w.alloc (.cells #[.int .i64 k, .int .i64 p, .int .i64 q, .bool v, .string s] 33)).alloc (.cells #[.int .i64 n, .string u] 35)).alloc (.cells #[.int .i64 m, .string x] 35)) := by
  generalize hW : ((w.alloc (.cells #[.int .i64 k, .int .i64 p, .int .i64 q, .bool v, .string s] 33)).alloc (.cells #[.int .i64 n, .string u] 35)) = W
  have hz : W.heap.size = w.heap.size + 2 := by rw [<- hW]; simp
  have k0 : W.cell? ⟨w.heap.size, 0, none⟩ = some (.int .i64 k) := by rw [<- hW]; simp
  have k1 : W.cell? ⟨w.heap.size, 1, none⟩ = some (.int .i64 p) := by rw [<- hW]; simp
  have k2 : W.cell? ⟨w.heap.size, 2, none⟩ = some (.int .i64 q) := by rw [<- hW]; simp
  have k3 : W.cell? ⟨w.heap.size, 3, none⟩ = some (.bool v) := by rw [<- hW]; simp
  have k4 : W.cell? ⟨w.heap.size, 4, none⟩ = some (.string s) := by rw [<- hW]; simp
  have j0 : W.cell? ⟨w.heap.size + 1, 0, none⟩ = some (.int .i64 n) := by rw [<- hW]; simp
  have j1 : W.cell? ⟨w.heap.size + 1, 1, none⟩ = some (.string u) := by rw [<- hW]; simp
  have l0 : w.heap.size < W.heap.size := by omega
  have l1 : w.heap.size + 1 < W.heap.size := by omega
  refine ⟨(World.cell?_alloc_past _ _ _ l0).trans k0, (World.cell?_alloc_past _ _ _ l0).trans k1, (World.cell?_alloc_past _ _ _ l0).trans k2, (World.cell?_alloc_past _ _ _ l0).trans k3, (World.cell?_alloc_past _ _ _ l0).trans k4, (World.cell?_alloc_past _ _ _ l1).trans j0, (World.cell?_alloc_past _ _ _ l1).trans j1, ?_, ?_, ?_⟩
  . rw [<- hz]; simp
  . rw [<- hz]; simp
  . have : (W.alloc (.cells #[.int .i64 m, .string x] 35)).heap.size = W.heap.size + 1 := by simp
    omega
theorem v5N (f : UInt8) : ∀ D : Nat, Lib.repeatL [f] D = List.replicate D f
  | 0 => rfl
  | D + 1 => by
    show [f] ++ Lib.repeatL [f] D = _
    rw [v5N f D]; rfl
theorem c28 {a : ByteArray} {z : Int} {f : UInt8} {D : Nat} (ha : a = ⟨#[f]⟩) (hz : z = D) (hD : D <= 3000) (w : World) : Calls Tryz.prog 28 #[.string a, .int .i64 z] w fun e w' => e = .returned (.string ⟨Array.replicate D f⟩) /\ Below w.heap.size w w' := by
  subst ha hz
  have := Tryz.repeat' ⟨#[f]⟩ D w (by omega) (by have : (⟨#[f]⟩ : ByteArray).size = 1 := rfl; rw [this]; omega)
  rw [show (⟨#[f]⟩ : ByteArray).data.toList = [f] from rfl, v5N, List.toArray_replicate] at this
  exact this
theorem fill_eq {k p q n : Int} {v : Bool} {s u ea : ByteArray} {f : UInt8} {D : Nat} (hE : (⟨(encS k p v n u.data.toList).toArray⟩ : ByteArray) = ea) (hD : szS k p q v s.data.toList - (ea.size : Int) = D) : ea ++ ⟨Array.replicate D f⟩ = ⟨(x4T k p q v s.data.toList n u.data.toList f).toArray⟩ := by
  subst hE
  unfold x4T
  have e : ((⟨(encS k p v n u.data.toList).toArray⟩ : ByteArray).size : Int) = ((encS k p v n u.data.toList).length : Int) := rfl
  rw [e] at hD
  rw [hD, Int.toNat_natCast]
  apply ByteArray.ext
  simp
end Go.Proofs
namespace Go.Proofs
open Go.RowKit
theorem z2G {w w' : World} {o : Obj} (h : Below (w.alloc o).heap.size (w.alloc o) w') : w.heap.size < w'.heap.size := by
  have := h.size
  have e : (w.alloc o).heap.size = w.heap.size + 1 := by simp
  omega
theorem y1S {w w' : World} {o : Obj} (h : Below (w.alloc o).heap.size (w.alloc o) w') (i : Nat) : w'.cell? ⟨w.heap.size, i, none⟩ = (w.alloc o).cell? ⟨w.heap.size, i, none⟩ := h.cell (p := ⟨w.heap.size, i, none⟩) (by simp)
theorem x9N {w w' : World} {o : Obj} (h : Below (w.alloc o).heap.size (w.alloc o) w') (i : Nat) : w'.frozen? ⟨w.heap.size, i, none⟩ = (w.alloc o).frozen? ⟨w.heap.size, i, none⟩ := h.frozen (p := ⟨w.heap.size, i, none⟩) (by simp)
theorem y9G {w w' : World} {o : Obj} (h : Below (w.alloc o).drew.heap.size (w.alloc o).drew w') : w.heap.size < w'.heap.size := by
  have := h.size
  have e : (w.alloc o).drew.heap.size = w.heap.size + 1 := by simp
  omega
theorem x9P {w w' : World} {o : Obj} (h : Below (w.alloc o).drew.heap.size (w.alloc o).drew w') (i : Nat) : w'.cell? ⟨w.heap.size, i, none⟩ = (w.alloc o).drew.cell? ⟨w.heap.size, i, none⟩ := h.cell (p := ⟨w.heap.size, i, none⟩) (by simp)
theorem x7R {w w' : World} {o : Obj} (h : Below (w.alloc o).drew.heap.size (w.alloc o).drew w') (i : Nat) : w'.frozen? ⟨w.heap.size, i, none⟩ = (w.alloc o).drew.frozen? ⟨w.heap.size, i, none⟩ := h.frozen (p := ⟨w.heap.size, i, none⟩) (by simp)
end Go.Proofs
namespace Go.Proofs
open Go.RowKit Go.Yec
open Go.Xec (Glob)
theorem y8T {a b : ByteArray} (h : a.toList = b.toList) : a = b := by
  rw [y1T, y1T] at h
  cases a; cases b
  exact congrArg ByteArray.mk (Array.ext' h)
set_option maxRecDepth 100000 in
set_option maxHeartbeats 8000000 in
theorem back_any (k p q n m c : Int) (v : Bool) (s u x : ByteArray) (hc : 0 <= c /\ c < 256) (w : World) (hg : Glob w) :
    Calls Tryz.prog 6 #[tyV k p q v s, vaV n u, vaV m x, .int .u8 c] w fun e w' => e = .returned (.bool true) /\ Below w.heap.size w w' := by
  have hB : Below w.heap.size w (((w.alloc (.cells #[.int .i64 k, .int .i64 p, .int .i64 q, .bool v, .string s] 33)).alloc (.cells #[.int .i64 n, .string u] 35)).alloc (.cells #[.int .i64 m, .string x] 35)) := (((Below.refl _ w).alloc (Nat.le_refl _) _).alloc (by simp) _).alloc (by simp <;> omega) _
  have hX : Box3 w.heap.size k p q v s n u m x (((w.alloc (.cells #[.int .i64 k, .int .i64 p, .int .i64 q, .bool v, .string s] 33)).alloc (.cells #[.int .i64 n, .string u] 35)).alloc (.cells #[.int .i64 m, .string x] 35)) := box3_new
  generalize hA : w.heap.size = A at hB hX
  generalize hW : (((w.alloc (.cells #[.int .i64 k, .int .i64 p, .int .i64 q, .bool v, .string s] 33)).alloc (.cells #[.int .i64 n, .string u] 35)).alloc (.cells #[.int .i64 m, .string x] 35)) = W at hB hX
  have hgW : Glob W := x2R (by rw [<- hA] at hB; exact hB) hg
  go_enter Tryz.func6, Tryz.ntmps6
  go_wp2_with (go_at_call 9; fail)
  refine (u6W W hgW).mono ?_
  rintro e w1 ⟨rfl, b1⟩
  have X1 := hX.keep b1
  have B1 : Below A w w1 := hB.trans (b1.mono (by have := hX.2.2.2.2.2.2.2.2.2; omega))
  have g1 : Glob w1 := x2R b1 hgW
  clear hX hB b1
  obtain ⟨h0, h1, h2, h3, h4, h5, h6, h7, h8, h9⟩ := id X1
  go_wp2_with (go_at_call 27; fail)
  refine (u8M k p q n v s u w1 g1).mono ?_
  rintro e w2 ⟨rfl, b2⟩
  have X2 := X1.keep b2
  have B2 : Below A w w2 := B1.trans (b2.mono (by omega))
  have g2 : Glob w2 := x2R b2 g1
  clear h0 h1 h2 h3 h4 h5 h6 h7 h8 h9 X1 B1 b2
  obtain ⟨h0, h1, h2, h3, h4, h5, h6, h7, h8, h9⟩ := id X2
  cases hgd : y2S k p q v s n u
  . go_wp2
    go_ret
    exact ⟨rfl, B2⟩
  . go_wp2_with (go_at_call 27; fail)
    refine (u8M k p q m v s x w2 g2).mono ?_
    rintro e w3 ⟨rfl, b3⟩
    have X3 := X2.keep b3
    have B3 : Below A w w3 := B2.trans (b3.mono (by omega))
    have g3 : Glob w3 := x2R b3 g2
    clear h0 h1 h2 h3 h4 h5 h6 h7 h8 h9 X2 B2 b3
    obtain ⟨h0, h1, h2, h3, h4, h5, h6, h7, h8, h9⟩ := id X3
    cases hgx : y2S k p q v s m x
    . go_wp2
      go_ret
      exact ⟨rfl, B3⟩
    . obtain ⟨hl, hty, h7', hva⟩ := z3Q hgd
      obtain ⟨_, _, _, hvx⟩ := z3Q hgx
      have c1 := c23 (k := k) (p := p) (q := q) (v := v) (n := n) (u := u) hl w3 g3
      rw [(u9D hgd).1, (u9D hgd).2] at c1
      go_wp2_with (go_at_call 23; fail)
      refine c1.mono ?_
      rintro e w4 ⟨rfl, b4⟩
      have X4 := X3.keep b4
      have B4 : Below A w w4 := B3.trans (b4.mono (by omega))
      have g4 : Glob w4 := x2R b4 g3
      clear h0 h1 h2 h3 h4 h5 h6 h7 h8 h9 X3 B3 b4 c1
      obtain ⟨h0, h1, h2, h3, h4, h5, h6, h7, h8, h9⟩ := id X4
      have c2 := c23 (k := k) (p := p) (q := q) (v := v) (n := m) (u := x) hl w4 g4
      rw [(u9D hgx).1, (u9D hgx).2] at c2
      go_wp2_with (go_at_call 23; fail)
      refine c2.mono ?_
      rintro e w5 ⟨rfl, b5⟩
      have X5 := X4.keep b5
      have B5 : Below A w w5 := B4.trans (b5.mono (by omega))
      have g5 : Glob w5 := x2R b5 g4
      clear h0 h1 h2 h3 h4 h5 h6 h7 h8 h9 X4 B4 b5 c2
      obtain ⟨h0, h1, h2, h3, h4, h5, h6, h7, h8, h9⟩ := id X5
      have c3 := c19 (k := k) (p := p) (q := q) (v := v) hl w5 g5
      go_wp2_with (go_at_call 19; fail)
      refine c3.mono ?_
      rintro e w6 ⟨rfl, b6⟩
      have X6 := X5.keep b6
      have B6 : Below A w w6 := B5.trans (b6.mono (by omega))
      have g6 : Glob w6 := x2R b6 g5
      clear h0 h1 h2 h3 h4 h5 h6 h7 h8 h9 X5 B5 b6 c3
      obtain ⟨h0, h1, h2, h3, h4, h5, h6, h7, h8, h9⟩ := id X6
      obtain ⟨l1, l2, l3, l4⟩ := z4C hty h7' hva
      obtain ⟨l1x, l2x, _, _⟩ := z4C hty h7' hvx
      have hinj := fun h => enc_inj (pic := s.data.toList) (by omega) hty h7' hva hvx h
      generalize hSZ : szS k p q v s.data.toList = SZ at l1 l2 l3 l4 l1x l2x
      generalize hEa : (⟨(encS k p v n u.data.toList).toArray⟩ : ByteArray) = ea
      generalize hEb : (⟨(encS k p v m x.data.toList).toArray⟩ : ByteArray) = eb
      have hza : (ea.size : Int) <= SZ := by rw [<- hEa]; exact l1
      have hzb : (eb.size : Int) <= SZ := by rw [<- hEb]; exact l1x
      have hzv : v = false -> (ea.size : Int) = SZ := fun h => by rw [<- hEa]; exact l2 h
      have hzx : v = false -> (eb.size : Int) = SZ := fun h => by rw [<- hEb]; exact l2x h
      have key : (ea = eb) ↔ (n = m /\ u = x) := by
        constructor
        . intro h
          rw [<- hEa, <- hEb] at h
          have h : encS k p v n u.data.toList = encS k p v m x.data.toList := by
            have := congrArg (fun b : ByteArray => b.data.toList) h
            exact this
          obtain ⟨e1, e2⟩ := hinj h
          refine ⟨e1, ?_⟩
          cases u; cases x
          exact congrArg ByteArray.mk (Array.ext' e2)
        . rintro ⟨rfl, rfl⟩
          rw [<- hEa, <- hEb]
      have n1 : ¬ (SZ < (ea.size : Int)) := by omega
      have n2 : ¬ (SZ < (eb.size : Int)) := by omega
      have hA6 : A < w6.heap.size := by omega
      have hC6 : A + 1 < w6.heap.size := by omega
      obtain ⟨D, hD, hD3⟩ : ∃ D : Nat, SZ - (ea.size : Int) = (D : Int) /\ D <= 3000 := ⟨(SZ - (ea.size : Int)).toNat, by omega, by omega⟩
      have hfill : ∀ f : UInt8, ea ++ ⟨Array.replicate D f⟩ = ⟨(x4T k p q v s.data.toList n u.data.toList f).toArray⟩ := fun f => fill_eq hEa (by rw [hSZ]; exact hD)
      have hfit : ∀ (f : UInt8), f = 48 \/ f = 49 -> ∀ wx, Glob wx -> Calls Tryz.prog 25 #[tyV k p q v s, .string (ea ++ ⟨Array.replicate D f⟩)] wx fun e w' => e = .returned (.tuple #[vaV n u, .int .i64 0]) /\ Below wx.heap.size wx w' := fun f hf wx hgx' => by rw [hfill f]; exact c25_back hf hgd wx hgx'
      obtain ⟨f, hf, hcf⟩ : ∃ f : UInt8, (f = 48 \/ f = 49) /\ Int.tmod c 2 = (f.toNat : Int) - 48 := by
        rcases (show c % 2 = 0 \/ c % 2 = 1 by omega) with h | h
        . exact ⟨48, .inl rfl, by rw [Int.tmod_eq_emod_of_nonneg hc.1, h]; rfl⟩
        . exact ⟨49, .inr rfl, by rw [Int.tmod_eq_emod_of_nonneg hc.1, h]; rfl⟩
      have hutf : ∀ z : Int, z = 48 + ((f.toNat : Int) - 48) -> Utf8.encode (IntKind.wrap .u8 z) = ⟨#[f]⟩ := by
        rintro z rfl
        rcases hf with rfl | rfl <;> rfl
      have hfit := hfit f hf
      have hE3 : ea.size <= 3000 := by omega
      clear hgd hgx hty hva hvx hfill hinj l1 l2 l3 l4 l1x l2x X6 hSZ hEa hEb hzb h7' hl
      have hcs : (n = m /\ u = x /\ ea = eb) \/ (n = m /\ ¬ u.toList = x.toList /\ (u.toList == x.toList) = false /\ ¬ ea.toList = eb.toList /\ (ea.toList == eb.toList) = false) \/ (¬ n = m /\ ¬ ea.toList = eb.toList /\ (ea.toList == eb.toList) = false) := by
        simp only [beq_eq_false_iff_ne]
        by_cases he : n = m /\ u = x
        . exact .inl ⟨he.1, he.2, key.2 he⟩
        . have hne : ¬ ea.toList = eb.toList := fun h => he (key.1 (y8T h))
          by_cases hnm : n = m
          . exact .inr (.inl ⟨hnm, fun h => he ⟨hnm, y8T h⟩, fun h => he ⟨hnm, y8T h⟩, hne, hne⟩)
          . exact .inr (.inr ⟨hnm, hne, hne⟩)
      have hs1 : ea.size + D <= 9223372036854775807 := by omega
      have hs2 : ea.size + (⟨Array.replicate D f⟩ : ByteArray).size <= 9223372036854775807 := by (have : (⟨Array.replicate D f⟩ : ByteArray).size = D := by simp [ByteArray.size]); omega
      have hs3 : ¬ 9223372036854775807 < ea.size + D := by omega
      have hs4 : ¬ 9223372036854775807 < ea.size + (⟨Array.replicate D f⟩ : ByteArray).size := by omega
      clear key hzx
      cases v
      . have hz := hzv rfl
        clear hzv hza n1
        subst hz
        have hz0 : IntKind.wrap .i64 0 = (D : Int) := by rw [show (D : Int) = 0 by omega]; rfl
        clear hD
        rcases hcs with ⟨rfl, rfl, rfl⟩ | ⟨rfl, hux, hux2, hne, hne2⟩ | ⟨hnm, hne, hne2⟩
        all_goals
          have H0 : w6.cell? ⟨A, 0, none⟩ = some (.int .i64 k) /\ w6.cell? ⟨A, 1, none⟩ = some (.int .i64 p) /\ w6.cell? ⟨A, 2, none⟩ = some (.int .i64 q) /\ w6.cell? ⟨A, 3, none⟩ = some (.bool false) /\ w6.cell? ⟨A, 4, none⟩ = some (.string s) /\ w6.cell? ⟨A + 1, 0, none⟩ = some (.int .i64 n) /\ w6.cell? ⟨A + 1, 1, none⟩ = some (.string u) /\ Below w6.heap.size w6 w6 := ⟨h0, h1, h2, h3, h4, h5, h6, Below.refl _ _⟩
          go_wp2
          go_region_held3 (fun w' => w'.cell? ⟨A, 0, none⟩ = some (.int .i64 k) /\ w'.cell? ⟨A, 1, none⟩ = some (.int .i64 p) /\ w'.cell? ⟨A, 2, none⟩ = some (.int .i64 q) /\ w'.cell? ⟨A, 3, none⟩ = some (.bool false) /\ w'.cell? ⟨A, 4, none⟩ = some (.string s) /\ w'.cell? ⟨A + 1, 0, none⟩ = some (.int .i64 n) /\ w'.cell? ⟨A + 1, 1, none⟩ = some (.string u) /\ Below w6.heap.size w6 w')
            (first
              | assumption
              | exact x3P hA6 hC6 H0 (hb7.alloc hb7.size _)
              | exact x3P hA6 hC6 H0 ((hb7.setCell (p := ⟨_, 0, none⟩) (by first | exact hb6.size | exact Nat.le_refl _) _).setCell (p := ⟨_, 1, none⟩) (by first | exact hb6.size | exact Nat.le_refl _) _)
              | exact ⟨h0, h1, h2, h3, h4, h5, h6, (Below.refl _ _).drew⟩
              | exact x3P hA6 hC6 ‹_› ((Below.refl _ _).alloc (Nat.le_refl _) _)
              | exact x3P hA6 hC6 ‹_› ‹_›)
            (first
              | (go_at_call 28; refine (c28 (f := f) (D := D) rfl (by first | rfl | assumption) hD3 _).mono ?_; rintro e w' ⟨rfl, hbb⟩; (first | (have hb6 := ((Below.refl w6.heap.size w6).drew).trans hbb) | (have hb6 := (((Below.refl w6.heap.size w6).drew).alloc (Nat.le_refl _) _).trans (hbb.mono (by simp)))); try (have z0 := y9G hbb; have q0 := x9P hbb 0; have q1 := x9P hbb 1; have f0 := x7R hbb 0; have f1 := x7R hbb 1; (try simp at q0); (try simp at q1); (try simp at f0); (try simp at f1)))
              | (go_at_call 25; refine (hfit _ (z0L g6 (by assumption))).mono ?_; rintro e w' ⟨rfl, hbc⟩; (first | (have hb7 := hb6.trans (hbc.mono hb6.size)) | (have hb7 := (hb6.alloc hb6.size _).trans (hbc.mono (Below.size (hb6.alloc hb6.size _))))); first | (have z1 := z2G hbc; have q2 := y1S hbc 0; have q3 := y1S hbc 1; have f2 := x9N hbc 0; have f3 := x9N hbc 1; (try simp at q2); (try simp at q3); (try simp at f2); (try simp at f3)) | (have r0 := (hbc.cell (p := ⟨w6.heap.size, 0, none⟩) z0).trans q0; have r1 := (hbc.cell (p := ⟨w6.heap.size, 1, none⟩) z0).trans q1; have r2 := (hbc.frozen (p := ⟨w6.heap.size, 0, none⟩) z0).trans f0; have r3 := (hbc.frozen (p := ⟨w6.heap.size, 1, none⟩) z0).trans f1) | skip))
          all_goals
            rename_i hS
            have hL := z0K hS
            obtain ⟨m0, m1, m2, m3, m4, i0, i1, _⟩ := id hS
            go_wp2
            go_ret
            exact ⟨rfl, B6.trans (hL.mono (by omega))⟩
      . have hz0 : IntKind.wrap .i64 (SZ - (ea.size : Int)) = (D : Int) := by rw [hD]; exact w64 (by omega) (by omega)
        clear hD hzv
        rcases hcs with ⟨rfl, rfl, rfl⟩ | ⟨rfl, hux, hux2, hne, hne2⟩ | ⟨hnm, hne, hne2⟩
        all_goals
          have H0 : w6.cell? ⟨A, 0, none⟩ = some (.int .i64 k) /\ w6.cell? ⟨A, 1, none⟩ = some (.int .i64 p) /\ w6.cell? ⟨A, 2, none⟩ = some (.int .i64 q) /\ w6.cell? ⟨A, 3, none⟩ = some (.bool true) /\ w6.cell? ⟨A, 4, none⟩ = some (.string s) /\ w6.cell? ⟨A + 1, 0, none⟩ = some (.int .i64 n) /\ w6.cell? ⟨A + 1, 1, none⟩ = some (.string u) /\ Below w6.heap.size w6 w6 := ⟨h0, h1, h2, h3, h4, h5, h6, Below.refl _ _⟩
          go_wp2
          go_region_held3 (fun w' => w'.cell? ⟨A, 0, none⟩ = some (.int .i64 k) /\ w'.cell? ⟨A, 1, none⟩ = some (.int .i64 p) /\ w'.cell? ⟨A, 2, none⟩ = some (.int .i64 q) /\ w'.cell? ⟨A, 3, none⟩ = some (.bool true) /\ w'.cell? ⟨A, 4, none⟩ = some (.string s) /\ w'.cell? ⟨A + 1, 0, none⟩ = some (.int .i64 n) /\ w'.cell? ⟨A + 1, 1, none⟩ = some (.string u) /\ Below w6.heap.size w6 w')
            (first
              | assumption
              | exact x3P hA6 hC6 H0 (hb7.alloc hb7.size _)
              | exact x3P hA6 hC6 H0 ((hb7.setCell (p := ⟨_, 0, none⟩) (by first | exact hb6.size | exact Nat.le_refl _) _).setCell (p := ⟨_, 1, none⟩) (by first | exact hb6.size | exact Nat.le_refl _) _)
              | exact ⟨h0, h1, h2, h3, h4, h5, h6, (Below.refl _ _).drew⟩
              | exact x3P hA6 hC6 ‹_› ((Below.refl _ _).alloc (Nat.le_refl _) _)
              | exact x3P hA6 hC6 ‹_› ‹_›)
            (first
              | (go_at_call 28; refine (c28 (f := f) (D := D) rfl (by first | rfl | assumption) hD3 _).mono ?_; rintro e w' ⟨rfl, hbb⟩; (first | (have hb6 := ((Below.refl w6.heap.size w6).drew).trans hbb) | (have hb6 := (((Below.refl w6.heap.size w6).drew).alloc (Nat.le_refl _) _).trans (hbb.mono (by simp)))); try (have z0 := y9G hbb; have q0 := x9P hbb 0; have q1 := x9P hbb 1; have f0 := x7R hbb 0; have f1 := x7R hbb 1; (try simp at q0); (try simp at q1); (try simp at f0); (try simp at f1)))
              | (go_at_call 25; refine (hfit _ (z0L g6 (by assumption))).mono ?_; rintro e w' ⟨rfl, hbc⟩; (first | (have hb7 := hb6.trans (hbc.mono hb6.size)) | (have hb7 := (hb6.alloc hb6.size _).trans (hbc.mono (Below.size (hb6.alloc hb6.size _))))); first | (have z1 := z2G hbc; have q2 := y1S hbc 0; have q3 := y1S hbc 1; have f2 := x9N hbc 0; have f3 := x9N hbc 1; (try simp at q2); (try simp at q3); (try simp at f2); (try simp at f3)) | (have r0 := (hbc.cell (p := ⟨w6.heap.size, 0, none⟩) z0).trans q0; have r1 := (hbc.cell (p := ⟨w6.heap.size, 1, none⟩) z0).trans q1; have r2 := (hbc.frozen (p := ⟨w6.heap.size, 0, none⟩) z0).trans f0; have r3 := (hbc.frozen (p := ⟨w6.heap.size, 1, none⟩) z0).trans f1) | skip))
          all_goals
            rename_i hS
            have hL := z0K hS
            obtain ⟨m0, m1, m2, m3, m4, i0, i1, _⟩ := id hS
            go_wp2
            go_ret
            exact ⟨rfl, B6.trans (hL.mono (by omega))⟩
end Go.Proofs
namespace Go.Proofs
open Go.ChangeShapes Go.WideShapes Go.ChangeAt Go.RowKit Go.Joins Go.Deep
section
variable {H : Type} {enc : TypeId × Value -> H} {P : Program} {w : World} {base : Nat} {spare : Nat -> Bool} {held : Bool}
theorem array5 {α : Type} {cs : Array α} (h : cs.size = 5) : ∃ c0 c1 c2 c3 c4, cs = #[c0, c1, c2, c3, c4] := by
  obtain ⟨l⟩ := cs
  match l, h with
  | [c0, c1, c2, c3, c4], _ => exact ⟨c0, c1, c2, c3, c4, rfl⟩
theorem z6B {t : TypeId} {f0 f1 f2 f3 f4 : Field} {fuel : Nat} {cs : List Value} {x : DataW H × List MemPlace} (ht : P.underlying t = some (.struct #[f0, f1, f2, f3, f4])) (h : DataW.trod enc P w base spare held fuel t cs = some x) :
    ∃ y0 y1 y2 y3 y4 n, x = (.agg [y0.1, y1.1, y2.1, y3.1, y4.1], y0.2 ++ (y1.2 ++ (y2.2 ++ (y3.2 ++ y4.2)))) /\ cs.length = P.cellsOf t /\ DataW.trod enc P w base spare held n f0.type ((cs.drop f0.offset).take (P.cellsOf f0.type)) = some y0 /\
      DataW.trod enc P w base spare held n f1.type ((cs.drop f1.offset).take (P.cellsOf f1.type)) = some y1 /\ DataW.trod enc P w base spare held n f2.type ((cs.drop f2.offset).take (P.cellsOf f2.type)) = some y2 /\
      DataW.trod enc P w base spare held n f3.type ((cs.drop f3.offset).take (P.cellsOf f3.type)) = some y3 /\ DataW.trod enc P w base spare held n f4.type ((cs.drop f4.offset).take (P.cellsOf f4.type)) = some y4 := by
  obtain ⟨xs, n, _, rfl, hl, hlen, hf⟩ := DataW.trod_struct ht h
  match xs, hlen with
  | [y0, y1, y2, y3, y4], _ => exact ⟨y0, y1, y2, y3, y4, n, by simp, hl, by simpa using hf 0 f0 rfl, by simpa using hf 1 f1 rfl, by simpa using hf 2 f2 rfl, by simpa using hf 3 f3 rfl, by simpa using hf 4 f4 rfl⟩
theorem v5Y {r : Reach} {b0 : Nat} {t : TypeId} {f0 f1 f2 f3 f4 : Field} {v : Value} {d : DataW H} {p : List MemPlace} (hs : P.underlying t = some (.struct #[f0, f1, f2, f3, f4])) (hone : oneCellFields P #[f0, f1, f2, f3, f4] = true) (hC : P.cellsOf t = 5)
    (hv : Value.okWide P w r b0 t v) (h : DataW.Trod enc P w base spare held t v d p) :
    ∃ (v0 v1 v2 v3 v4 : Value) (y0 y1 y2 y3 y4 : DataW H × List MemPlace) (n : Nat), v = .agg #[v0, v1, v2, v3, v4] /\ d = .agg [y0.1, y1.1, y2.1, y3.1, y4.1] /\ p = y0.2 ++ (y1.2 ++ (y2.2 ++ (y3.2 ++ y4.2))) /\
      DataW.trod enc P w base spare held n f0.type [v0] = some y0 /\ DataW.trod enc P w base spare held n f1.type [v1] = some y1 /\ DataW.trod enc P w base spare held n f2.type [v2] = some y2 /\ DataW.trod enc P w base spare held n f3.type [v3] = some y3 /\ DataW.trod enc P w base spare held n f4.type [v4] = some y4 := by
  obtain ⟨cs, rfl, hsz⟩ := okWide_struct hs hv
  obtain ⟨c0, c1, c2, c3, c4, rfl⟩ := array5 (hsz.trans hC)
  obtain ⟨fuel, hf⟩ := h
  obtain ⟨y0, y1, y2, y3, y4, n, hx, _, h0, h1, h2, h3, h4⟩ := z6B hs hf
  obtain ⟨o0, k0⟩ := hone_of hone 0 f0 rfl
  obtain ⟨o1, k1⟩ := hone_of hone 1 f1 rfl
  obtain ⟨o2, k2⟩ := hone_of hone 2 f2 rfl
  obtain ⟨o3, k3⟩ := hone_of hone 3 f3 rfl
  obtain ⟨o4, k4⟩ := hone_of hone 4 f4 rfl
  simp only [Prod.mk.injEq] at hx
  exact ⟨c0, c1, c2, c3, c4, y0, y1, y2, y3, y4, n, rfl, hx.1, hx.2, by simpa [Value.cells, o0, k0] using h0, by simpa [Value.cells, o1, k1] using h1, by simpa [Value.cells, o2, k2] using h2, by simpa [Value.cells, o3, k3] using h3, by simpa [Value.cells, o4, k4] using h4⟩
theorem v4Y {t : TypeId} {f0 f1 f2 f3 f4 : Field} {v0 v1 v2 v3 v4 : Value} {y0 y1 y2 y3 y4 : DataW H × List MemPlace} (hs : P.underlying t = some (.struct #[f0, f1, f2, f3, f4])) (hone : oneCellFields P #[f0, f1, f2, f3, f4] = true) (hC : P.cellsOf t = 5)
    (t0 : ∃ n, DataW.trod enc P w base spare held n f0.type [v0] = some y0) (t1 : ∃ n, DataW.trod enc P w base spare held n f1.type [v1] = some y1) (t2 : ∃ n, DataW.trod enc P w base spare held n f2.type [v2] = some y2) (t3 : ∃ n, DataW.trod enc P w base spare held n f3.type [v3] = some y3) (t4 : ∃ n, DataW.trod enc P w base spare held n f4.type [v4] = some y4) :
    DataW.Trod enc P w base spare held t (.agg #[v0, v1, v2, v3, v4]) (.agg [y0.1, y1.1, y2.1, y3.1, y4.1]) (y0.2 ++ (y1.2 ++ (y2.2 ++ (y3.2 ++ y4.2)))) := by
  obtain ⟨n0, t0⟩ := t0
  obtain ⟨n1, t1⟩ := t1
  obtain ⟨n2, t2⟩ := t2
  obtain ⟨n3, t3⟩ := t3
  obtain ⟨n4, t4⟩ := t4
  obtain ⟨o0, k0⟩ := hone_of hone 0 f0 rfl
  obtain ⟨o1, k1⟩ := hone_of hone 1 f1 rfl
  obtain ⟨o2, k2⟩ := hone_of hone 2 f2 rfl
  obtain ⟨o3, k3⟩ := hone_of hone 3 f3 rfl
  obtain ⟨o4, k4⟩ := hone_of hone 4 f4 rfl
  have ts := trod_struct_mk (enc := enc) (w := w) (base := base) (spare := spare) (held := held) (n := n0 + n1 + n2 + n3 + n4) (cs := [v0, v1, v2, v3, v4]) (xs := [y0, y1, y2, y3, y4]) hs (by simp [hC])
    (by
      have e0 := DataW.trod_le (show n0 <= n0 + n1 + n2 + n3 + n4 by omega) t0
      have e1 := DataW.trod_le (show n1 <= n0 + n1 + n2 + n3 + n4 by omega) t1
      have e2 := DataW.trod_le (show n2 <= n0 + n1 + n2 + n3 + n4 by omega) t2
      have e3 := DataW.trod_le (show n3 <= n0 + n1 + n2 + n3 + n4 by omega) t3
      have e4 := DataW.trod_le (show n4 <= n0 + n1 + n2 + n3 + n4 by omega) t4
      simp [o0, k0, o1, k1, o2, k2, o3, k3, o4, k4, e0, e1, e2, e3, e4])
  exact ⟨_, by simpa [Value.cells] using ts⟩
end
section
variable {H : Type} {enc : TypeId × Value -> H} {w : World} {base : Nat} {spare : Nat -> Bool} {held : Bool}
theorem w0L : Tryz.prog.cellsOf 33 = 5 := by kernel_rfl
theorem w0K : Tryz.prog.cellsOf 35 = 2 := by kernel_rfl
def tyD {H : Type} (k p q : Int) (v : Bool) (s : ByteArray) : DataW H := .agg [.lit (.int .i64 k), .lit (.int .i64 p), .lit (.int .i64 q), .lit (.bool v), .lit (.string s.data.toList)]
def vaD {H : Type} (n : Int) (s : ByteArray) : DataW H := .agg [.lit (.int .i64 n), .lit (.string s.data.toList)]
def tyWf (k p q : Int) (s : ByteArray) : Prop := (Lit.int .i64 k).wf = true /\ (Lit.int .i64 p).wf = true /\ (Lit.int .i64 q).wf = true /\ s.size <= maxLen
set_option maxRecDepth 100000 in
theorem open_ty {r : Reach} {b0 : Nat} {x : Value} {d : DataW H} {ps : List MemPlace} (hv : Value.okWide Tryz.prog w r b0 33 x) (h : DataW.Trod enc Tryz.prog w base spare held 33 x d ps) : ∃ k p q v s, x = tyV k p q v s /\ d = tyD k p q v s /\ ps = [] /\ tyWf k p q s := by
  obtain ⟨c0, c1, c2, c3, c4, y0, y1, y2, y3, y4, m, rfl, rfl, rfl, h0, h1, h2, h3, h4⟩ := v5Y Tryz.underlying33 (by kernel_rfl) w0L hv h
  obtain ⟨k, e0, rfl, wk⟩ := DataW.trod_int Tryz.underlying3 h0
  obtain ⟨p, e1, rfl, wp⟩ := DataW.trod_int Tryz.underlying3 h1
  obtain ⟨q, e2, rfl, wq⟩ := DataW.trod_int Tryz.underlying3 h2
  obtain ⟨v, e3, rfl⟩ := DataW.trod_bool Tryz.underlying4 h3
  obtain ⟨s, e4, rfl, ws⟩ := DataW.trod_string Tryz.underlying9 h4
  simp at e0 e1 e2 e3 e4
  subst e0 e1 e2 e3 e4
  exact ⟨k, p, q, v, s, rfl, rfl, rfl, wk, wp, wq, ws⟩
set_option maxRecDepth 100000 in
theorem v5X {r : Reach} {b0 : Nat} {x : Value} {d : DataW H} {ps : List MemPlace} (hv : Value.okWide Tryz.prog w r b0 35 x) (h : DataW.Trod enc Tryz.prog w base spare held 35 x d ps) : ∃ n s, x = vaV n s /\ d = vaD n s /\ ps = [] /\ (Lit.int .i64 n).wf = true /\ s.size <= maxLen := by
  obtain ⟨c0, c1, y0, y1, m, rfl, rfl, rfl, h0, h1⟩ := open_agg2 Tryz.underlying35 (by kernel_rfl) w0K hv h
  obtain ⟨n, e0, rfl, wn⟩ := DataW.trod_int Tryz.underlying3 h0
  obtain ⟨s, e1, rfl, ws⟩ := DataW.trod_string Tryz.underlying9 h1
  simp at e0 e1
  subst e0 e1
  exact ⟨n, s, rfl, rfl, rfl, wn, ws⟩
set_option maxRecDepth 100000 in
theorem shut_ty {k p q : Int} {v : Bool} {s : ByteArray} (h : tyWf k p q s) : DataW.Trod enc Tryz.prog w base spare held 33 (tyV k p q v s) (tyD k p q v s) [] := by
  obtain ⟨wk, wp, wq, ws⟩ := h
  exact v4Y (y0 := (.lit (.int .i64 k), [])) (y1 := (.lit (.int .i64 p), [])) (y2 := (.lit (.int .i64 q), [])) (y3 := (.lit (.bool v), [])) (y4 := (.lit (.string s.data.toList), [])) Tryz.underlying33 (by kernel_rfl) w0L
    ⟨1, by simp [DataW.trod, Tryz.underlying3, wk]⟩ ⟨1, by simp [DataW.trod, Tryz.underlying3, wp]⟩ ⟨1, by simp [DataW.trod, Tryz.underlying3, wq]⟩ ⟨1, by simp [DataW.trod, Tryz.underlying4]⟩ ⟨1, by simp [DataW.trod, Tryz.underlying9, ws]⟩
set_option maxRecDepth 100000 in
theorem v4X {n : Int} {s : ByteArray} (wn : (Lit.int .i64 n).wf = true) (ws : s.size <= maxLen) : DataW.Trod enc Tryz.prog w base spare held 35 (vaV n s) (vaD n s) [] :=
  shut_agg2 (y0 := (.lit (.int .i64 n), [])) (y1 := (.lit (.string s.data.toList), [])) Tryz.underlying35 (by kernel_rfl) w0K ⟨1, by simp [DataW.trod, Tryz.underlying3, wn]⟩ ⟨1, by simp [DataW.trod, Tryz.underlying9, ws]⟩
end
end Go.Proofs
namespace Go.Proofs.YtadaoelabimmkaaGreatDoor
open Go.RowKit
theorem v4P : ownKnob Tryz.prog.godebug = none := by kernel_rfl
theorem glob_of {W : World} {l : List (String × DataW Unit)} (hL : laidMet Tryz.prog l W) (hm : ("pliant/picture.punched", Rows.laid_pliant_picture_punched) ∈ l) : Xec.Glob W := by
  obtain ⟨g, t, cs, fuel, p, h1, h2, h3, h4⟩ := Lib.laidMet.reads hL hm
  have hg : Tryz.prog.globalNamed "pliant/picture.punched" = some 1 := by kernel_rfl
  have ht : (Tryz.prog.globals[1]?).map (·.type) = some 228 := by kernel_rfl
  have hu : Tryz.prog.underlying 228 = some (.array 20 5) := by kernel_rfl
  have hc : Tryz.prog.cellsOf 228 = 20 := by kernel_rfl
  have hc5 : Tryz.prog.cellsOf 5 = 1 := by kernel_rfl
  obtain rfl := Option.some.inj (hg.symm.trans h1)
  obtain rfl := Option.some.inj (ht.symm.trans h2)
  have hd : (Rows.laid_pliant_picture_punched : DataW Unit) = Lib.tabData .u8 [123, 65, 66, 67, 68, 69, 70, 71, 72, 73, 125, 74, 75, 76, 77, 78, 79, 80, 81, 82] := rfl
  rw [hd] at h4
  have hcs := Lib.cells_of_tab hu Tryz.underlying5 hc5 hc h4
  have hcs2 : cs = punV := Array.ext' hcs
  intro g' cs' e
  have e : cond (Nat.beq g' 1) (some punV) none = some cs' := e
  cases hb : Nat.beq g' 1
  . rw [hb] at e; cases e
  . rw [hb] at e
    cases e
    have := Nat.eq_of_beq_eq_true hb
    subst this
    unfold World.var? at h3
    rw [hg] at h3
    simp only [Option.bind_some] at h3
    split at h3
    . rename_i c t fz hh
      cases h3
      exact ⟨t, fz, by rw [<- hcs2]; exact hh⟩
    . cases h3
end Go.Proofs.YtadaoelabimmkaaGreatDoor
namespace Go.Proofs.YtadaoelabimmkaaGreatDoor
open Go.ChangeShapes Go.WideShapes Go.ChangeAt Go.RowKit Go.Joins Go.Deep
open Go.ChangeMaps (open_string shut_string)
set_option maxRecDepth 100000 in
theorem u4W (os : Os) (started : os.Started) (H : Type) (enc : TypeId × Value -> H) :
    ReturnsInHanded {} Tryz.checked os 6 .any (fun w args => (Rows.layoutBackSpec.pre enc Tryz.prog Tryz.f6 Rows.layoutBackRow.domain false w args /\ laidMetH Tryz.prog Rows.layoutBackRow.laid w) /\ sizedMet enc Tryz.prog Tryz.f6 (OpenSpec.ofChange Rows.layoutBackSpec) false w args)
      (Rows.layoutBackSpec.post enc Tryz.prog Tryz.f6 false true false false) := by
  refine returnsInHanded_of_change_and (C := Tryz.checked) (X := fun w _ => laidMetH Tryz.prog Rows.layoutBackRow.laid w) (fun _ _ _ hh h => h.of_heap hh) v4P started (by kernel_rfl) Tryz.func6
    (ChangeSpec.witness_shaped (enc := enc) (C := Tryz.checked) (os := os) (X := fun w _ => laidMetH Tryz.prog Rows.layoutBackRow.laid w) false (World.laidAll Tryz.prog os Rows.layoutBackRow.laid) #[.agg #[.int .i64 0, .int .i64 0, .int .i64 0, .bool false, .string ⟨#[]⟩], .agg #[.int .i64 0, .string ⟨#[]⟩], .agg #[.int .i64 0, .string ⟨#[]⟩], .int .u8 0] 8 (World.laidAll_os _ _ _)
      (World.shaped_of_ZipB (by kernel_rfl) (by kernel_rfl)) (by kernel_rfl) (by kernel_rfl) (by kernel_rfl)
      (by rw [MakeChecks.laidMetH_plain _ _ _ (by kernel_rfl)]; exact laidMet_laidAll _ (by kernel_rfl) (by kernel_rfl))) ?_
  intro W base args ds gs before hval0 hW hc _ hL _
  have hL2 : laidMetH Tryz.prog Rows.layoutBackRow.laid W := hL
  rw [MakeChecks.laidMetH_plain _ _ _ (by kernel_rfl)] at hL2
  have hgl : Xec.Glob W := glob_of hL2 (by simp [Rows.layoutBackRow])
  have hval : ∀ (j : Nat) t v, Tryz.f6.params[j]? = some t -> args[j]? = some v -> Value.okWide Tryz.prog W .any base t v := hval0
  have hW' := hW
  obtain ⟨p, q, hA0, hV, rfl, _, _⟩ := hW
  have hA : DataW.TrodAll enc Tryz.prog W 0 (fun _ => true) true Tryz.f6.params.toList args.toList ds p := hA0
  rw [Tryz.params6] at hA hval
  obtain ⟨v0, v1, v2, v3, d0, d1, d2, d3, p0, p1, p2, p3, rfl, rfl, rfl, h0, h1, h2, h3⟩ := trodAll_four hA
  obtain ⟨rfl, rfl⟩ := trodVars_none hV
  obtain ⟨k, pp, qq, v, s, rfl, rfl, rfl, hwf⟩ := open_ty (hval 0 33 v0 rfl rfl) h0
  obtain ⟨n, u, rfl, rfl, rfl, wn, wu⟩ := v5X (hval 1 35 v1 rfl rfl) h1
  obtain ⟨m, x, rfl, rfl, rfl, wm, wx⟩ := v5X (hval 2 35 v2 rfl rfl) h2
  obtain ⟨c, rfl, rfl, rfl, wc⟩ := open_int Tryz.underlying5 (hval 3 5 v3 rfl rfl) h3
  have hc3 : 0 <= c /\ c <= 255 := by simpa [Lit.wf, IntKind.min, IntKind.max, IntKind.bits, IntKind.signed] using wc
  have hc2 : 0 <= c /\ c < 256 := by omega
  clear hA0 hval0
  simp only [List.append_nil] at hW'
  refine (Go.Proofs.back_any k pp qq n m c v s u x hc2 W hgl).mono fun e W' ⟨he, hB⟩ => ?_
  subst he
  exact ⟨_, rfl, _, _, _, [], [], [], hW', trodAll_mk1 (shut_bool Tryz.underlying4 _), trodAll_mk4 (shut_ty hwf) (v4X wn wu) (v4X wm wx) (shut_int Tryz.underlying5 wc), rfl, hB.frame _, fun h => by cases h⟩
theorem back_row : Rows.LayoutBackSaid :=
  OpenClaim.holds_of_wide 6 Tryz.f6 rfl rfl rfl rfl rfl rfl rfl ⟨rfl, rfl, rfl, rfl, rfl⟩ rfl rfl rfl rfl rfl (by kernel_rfl) Tryz.func6 (by kernel_rfl)
    (of_decide_eq_true (by kernel_rfl)) (by unfold Func.isWrapper; rw [if_neg (of_decide_eq_false (by kernel_rfl))]; exact ⟨rfl, rfl⟩)
    (fun os started H enc _ => u4W os started H enc)
theorem back_card : Rows.LayoutBackCardSaid :=
  Claim7.holds_tied_plain_at .later [] [.data, .data, .data, .data, .sentinel, .sentinel, .data, .pinned] true (true, "2a73ca2980fb23572ff0a46f2e5e5e64e4adc5533abdaf4a7c0ee98f426d2df6") true
    back_row (fun _ h => by cases h) (by kernel_rfl) (fun _ h => by cases h) layoutBack_row_tie rfl ⟨rfl, rfl⟩ (by kernel_rfl) rfl
    (fun f fn hf hfn => by
      obtain rfl : f = 6 := Option.some.inj ((show Tryz.prog.funcNamed "pliant/pliantlaw09.LayoutBack" = some 6 by kernel_rfl).symm.trans hf) |>.symm
      obtain rfl : fn = Tryz.f6 := (Option.some.inj (Tryz.func6.symm.trans hfn)).symm
      exact ⟨by kernel_rfl, fun j t ht => by
        rw [Tryz.params6] at ht
        have hm : t ∈ [33, 35, 35, 5] := by simpa using Array.mem_of_getElem? ht
        have hall : ([33, 35, 35, 5].all fun u => !Tryz.prog.wantsStandIn u) = true := by kernel_rfl
        exact (show Tryz.prog.wantsStandIn t = false by simpa using List.all_eq_true.1 hall t hm)⟩)
    (by kernel_rfl)
end Go.Proofs.YtadaoelabimmkaaGreatDoor
