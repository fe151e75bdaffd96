/-
  LayoutClones, walked.
-/
import Derived.Test.YtadaoelabimmkaaGreatDoorM3
import Derived.Test.YtadaoelabimmkaaGreatDoorY6
set_option linter.all false
namespace Go.Proofs.YtadaoelabimmkaaGreatDoor
open Go.RowKit
open Go.Xec (Glob)
def BoxAt (T : Nat) (u : UInt8) (w : World) : Prop := w.cell? ⟨T, 0, none⟩ = some (.int .i64 0) ∧ w.cell? ⟨T, 1, none⟩ = some (.string ⟨#[u]⟩) ∧ T < w.heap.size
theorem BoxAt.keep {T : Nat} {u : UInt8} {w w' : World} (h : BoxAt T u w) (hb : Below w.heap.size w w') : BoxAt T u w' := ⟨(hb.cell (p := ⟨T, 0, none⟩) h.2.2).trans h.1, (hb.cell (p := ⟨T, 1, none⟩) h.2.2).trans h.2.1, Nat.lt_of_lt_of_le h.2.2 hb.size⟩
theorem box_new {u : UInt8} {w : World} : BoxAt w.heap.size u (w.alloc (.cells #[.int .i64 0, .string ⟨#[u]⟩] 35)) := ⟨by simp, by simp, by simp⟩
theorem box_set {T B k : Nat} {u : UInt8} {v : Value} {w : World} (h : BoxAt T u w) (hn : B ≠ T) : BoxAt T u (w.setCell ⟨B, k, none⟩ v).drew :=
  ⟨(World.cell?_setCell_other _ _ _ _ (by intro e; exact hn (congrArg Addr.block e))).trans h.1, (World.cell?_setCell_other _ _ _ _ (by intro e; exact hn (congrArg Addr.block e))).trans h.2.1, by
    have : (w.setCell ⟨B, k, none⟩ v).drew.heap.size = w.heap.size := by simp [World.setCell]
    rw [this]; exact h.2.2⟩
theorem mem_set {A B k : Nat} {c : Array Value} {v : Value} {w : World} (h : MemAt A c w) (hn : A ≠ B) : MemAt A c (w.setCell ⟨B, k, none⟩ v).drew := (Below.heap_setCell w ⟨B, k, none⟩ v A hn).trans h
set_option maxRecDepth 100000 in
set_option maxHeartbeats 2000000 in
theorem clones_any (x0 bit : Int) (s : ByteArray) (x : Bool) (w : World) (hg : Glob w) :
    Calls Tryz.prog 8 #[.int .i64 x0, .string s, .int .i64 bit, .bool x] w fun e w' => e = .returned (.bool true) ∧ Below w.heap.size w w' := by
  go_enter Tryz.func8, Tryz.ntmps8
  go_wp2_with (go_at_call 9; fail)
  refine (Go.Proofs.sane_any w hg).mono ?_
  rintro e w1 ⟨rfl, b1⟩
  by_cases hs : 2000 < (s.size : Int)
  · go_wp2
    go_ret
    exact ⟨rfl, b1⟩
  · go_wp2_with (go_at_call 29; fail)
    refine (new_any w1).mono ?_
    rintro e w2 ⟨rfl, rfl⟩
    go_wp2_with (go_at_call 30; fail)
    refine (put_any w1.heap.size Tryz.zeroCells130 (fun _ => 0) x0 s _ (heap_alloc_last w1 _) bs_zero (by omega)).mono ?_
    rintro e w3 ⟨r, c, f, rfl, hc, he⟩
    rw [setRow_new] at he
    have M3 : MemAt w1.heap.size c w3 := by rw [he]; exact heap_alloc_last w1 _
    have B3 : Below w.heap.size w w3 := by rw [he]; exact b1.alloc b1.size _
    have hB : w.heap.size ≤ w1.heap.size := b1.size
    clear he b1 hs
    generalize w1.heap.size = B at *
    go_wp2_with (go_at_call 35; fail)
    refine (clone_any B c w3 M3 hc.size (bs_one hc)).mono ?_
    rintro e w4 ⟨rfl, he⟩
    have hne : B < w3.heap.size := M3.lt
    have b4 : Below w3.heap.size w3 w4 := by rw [he]; exact (Below.refl _ _).alloc (Nat.le_refl _) _
    have M4 : MemAt B c w4 := M3.keep b4
    have N4 : MemAt w3.heap.size c w4 := by rw [he]; exact heap_alloc_last w3 _
    have B4 : Below w.heap.size w w4 := B3.trans (b4.mono B3.size)
    have hB' : w.heap.size ≤ w3.heap.size := B3.size
    clear he b4 M3 B3
    generalize w3.heap.size = B' at *
    go_wp2_with (go_at_call 36; fail)
    refine (same_yes B B' c c f f w4 M4 N4 hc hc (fun k hk => xor_self (hc.lo k hk) (hc.hi k hk))).mono ?_
    rintro e w5 ⟨rfl, rfl⟩
    go_wp2_with (go_at_call 13; fail)
    refine (index8 bit _).mono ?_
    rintro e w6 ⟨r, rfl, r0, r1, rfl⟩
    have hg4 := glob_below B4 hg
    cases x
    · go_wp2_with (go_at_call 37; fail)
      refine (bits1 _ hg4).mono ?_
      rintro e w7 ⟨rfl, b7⟩
      have M7 := M4.keep b7
      have N7 := N4.keep b7
      have B7 : Below w.heap.size w w7 := B4.trans (b7.mono B4.size)
      have hg7 := glob_below B7 hg
      clear b7 M4 N4 B4 hg4
      go_wp2_with (go_at_call 33; fail)
      refine (load_bit hc r0 r1 w7 hg7 M7).mono ?_
      rintro e w8 ⟨rfl, b8⟩
      have K8 : Below w8.heap.size w8 (w8.alloc (.cells #[.int .i64 0, .string ⟨#[chB f r]⟩] 35)) := (Below.refl _ _).alloc (Nat.le_refl _) _
      have M8 := (M7.keep b8).keep K8
      have N8 := (N7.keep b8).keep K8
      have T8 : BoxAt w8.heap.size (chB f r) (w8.alloc (.cells #[.int .i64 0, .string ⟨#[chB f r]⟩] 35)) := box_new
      have B8 : Below w.heap.size w (w8.alloc (.cells #[.int .i64 0, .string ⟨#[chB f r]⟩] 35)) := (B7.trans (b8.mono B7.size)).alloc (Nat.le_trans B7.size b8.size) _
      have hg8 := glob_below B8 hg
      have hT : B' < w8.heap.size := (N7.keep b8).lt
      clear b8 M7 N7 B7 hg7 K8
      go_wp2_with (go_at_call 37; fail)
      refine (bits1 _ hg8).mono ?_
      rintro e w9 ⟨rfl, b9⟩
      have M9 := M8.keep b9
      have N9 := N8.keep b9
      have T9 := T8.keep b9
      have B9 : Below w.heap.size w w9 := B8.trans (b9.mono B8.size)
      have hg9 := glob_below B9 hg
      generalize w8.heap.size = T at *
      clear b9 M8 N8 B8 hg8 T8
      go_wp2_with (go_at_call 32; fail)
      refine (store_bit hc r0 r1 false w9 hg9 N9).mono ?_
      rintro e w10 ⟨rfl, wa, d, ba, hd, N10, v, he⟩
      have M10 : MemAt B c w10 := by rw [he]; exact mem_set (M9.keep ba) (Nat.ne_of_lt hne)
      have T10 : BoxAt T (chB f r) w10 := by rw [he]; exact box_set (T9.keep ba) (Nat.ne_of_lt hT)
      have B10 : Below w.heap.size w w10 := by rw [he]; exact ((B9.trans (ba.mono B9.size)).setCell (p := ⟨B', (r / 8).toNat, none⟩) hB' v).drew
      have hg10 := glob_below B10 hg
      clear he ba M9 N9 T9 B9 hg9
      go_wp2_with (go_at_call 37; fail)
      refine (bits1 _ hg10).mono ?_
      rintro e w11 ⟨rfl, b11⟩
      have M11 := M10.keep b11
      have N11 := N10.keep b11
      have T11 := T10.keep b11
      have B11 : Below w.heap.size w w11 := B10.trans (b11.mono B10.size)
      have hg11 := glob_below B11 hg
      clear b11 M10 N10 T10 B10 hg10
      go_wp2_with (go_at_call 33; fail)
      refine (load_bit hc r0 r1 w11 hg11 M11).mono ?_
      rintro e w12 ⟨rfl, b12⟩
      have K12 : Below w12.heap.size w12 (w12.alloc (.cells #[.int .i64 0, .string ⟨#[chB f r]⟩] 35)) := (Below.refl _ _).alloc (Nat.le_refl _) _
      have M12 := (M11.keep b12).keep K12
      have N12 := (N11.keep b12).keep K12
      have T12 := (T11.keep b12).keep K12
      have B12 : Below w.heap.size w (w12.alloc (.cells #[.int .i64 0, .string ⟨#[chB f r]⟩] 35)) := (B11.trans (b12.mono B11.size)).alloc (Nat.le_trans B11.size b12.size) _
      have hg12 := glob_below B12 hg
      obtain ⟨t0, t1, t2⟩ := id T12
      have hch := (bit_eq (one := false) hc r0 r1).1
      have S1 := same_a hc hd r0 r1 _ hg12 M12 N12
      clear b12 M11 N11 T11 B11 hg11 K12
      go_wp2_with (go_at_call 36; fail)
      refine S1.mono ?_
      rintro e w13 ⟨rfl, b13⟩
      have M13 := M12.keep b13
      have N13 := N12.keep b13
      have T13 := T12.keep b13
      have B13 : Below w.heap.size w w13 := B12.trans (b13.mono B12.size)
      have hg13 := glob_below B13 hg
      have S2 := same_b hc hd r0 r1 _ hg13 M13 N13
      clear b13 M12 N12 T12 B12 hg12 t0 t1 t2 S1
      go_wp2_with (go_at_call 36; fail)
      refine S2.mono ?_
      rintro e w14 ⟨rfl, b14⟩
      have T14 := T13.keep b14
      have B14 : Below w.heap.size w w14 := B13.trans (b14.mono B13.size)
      obtain ⟨t0, t1, t2⟩ := id T14
      clear b14 M13 N13 T13 B13 hg13 S2 hc hd
      generalize chB f r = ch at *
      rcases hch with rfl | rfl
      · go_wp2
        go_ret
        exact ⟨rfl, B14⟩
      · go_wp2
        go_ret
        exact ⟨rfl, B14⟩
    · go_wp2_with (go_at_call 37; fail)
      refine (bits1 _ hg4).mono ?_
      rintro e w7 ⟨rfl, b7⟩
      have M7 := M4.keep b7
      have N7 := N4.keep b7
      have B7 : Below w.heap.size w w7 := B4.trans (b7.mono B4.size)
      have hg7 := glob_below B7 hg
      clear b7 M4 N4 B4 hg4
      go_wp2_with (go_at_call 33; fail)
      refine (load_bit hc r0 r1 w7 hg7 M7).mono ?_
      rintro e w8 ⟨rfl, b8⟩
      have K8 : Below w8.heap.size w8 (w8.alloc (.cells #[.int .i64 0, .string ⟨#[chB f r]⟩] 35)) := (Below.refl _ _).alloc (Nat.le_refl _) _
      have M8 := (M7.keep b8).keep K8
      have N8 := (N7.keep b8).keep K8
      have T8 : BoxAt w8.heap.size (chB f r) (w8.alloc (.cells #[.int .i64 0, .string ⟨#[chB f r]⟩] 35)) := box_new
      have B8 : Below w.heap.size w (w8.alloc (.cells #[.int .i64 0, .string ⟨#[chB f r]⟩] 35)) := (B7.trans (b8.mono B7.size)).alloc (Nat.le_trans B7.size b8.size) _
      have hg8 := glob_below B8 hg
      have hT : B' < w8.heap.size := (N7.keep b8).lt
      clear b8 M7 N7 B7 hg7 K8
      go_wp2_with (go_at_call 37; fail)
      refine (bits1 _ hg8).mono ?_
      rintro e w9 ⟨rfl, b9⟩
      have M9 := M8.keep b9
      have N9 := N8.keep b9
      have T9 := T8.keep b9
      have B9 : Below w.heap.size w w9 := B8.trans (b9.mono B8.size)
      have hg9 := glob_below B9 hg
      generalize w8.heap.size = T at *
      clear b9 M8 N8 B8 hg8 T8
      go_wp2_with (go_at_call 32; fail)
      refine (store_bit hc r0 r1 true w9 hg9 N9).mono ?_
      rintro e w10 ⟨rfl, wa, d, ba, hd, N10, v, he⟩
      have M10 : MemAt B c w10 := by rw [he]; exact mem_set (M9.keep ba) (Nat.ne_of_lt hne)
      have T10 : BoxAt T (chB f r) w10 := by rw [he]; exact box_set (T9.keep ba) (Nat.ne_of_lt hT)
      have B10 : Below w.heap.size w w10 := by rw [he]; exact ((B9.trans (ba.mono B9.size)).setCell (p := ⟨B', (r / 8).toNat, none⟩) hB' v).drew
      have hg10 := glob_below B10 hg
      clear he ba M9 N9 T9 B9 hg9
      go_wp2_with (go_at_call 37; fail)
      refine (bits1 _ hg10).mono ?_
      rintro e w11 ⟨rfl, b11⟩
      have M11 := M10.keep b11
      have N11 := N10.keep b11
      have T11 := T10.keep b11
      have B11 : Below w.heap.size w w11 := B10.trans (b11.mono B10.size)
      have hg11 := glob_below B11 hg
      clear b11 M10 N10 T10 B10 hg10
      go_wp2_with (go_at_call 33; fail)
      refine (load_bit hc r0 r1 w11 hg11 M11).mono ?_
      rintro e w12 ⟨rfl, b12⟩
      have K12 : Below w12.heap.size w12 (w12.alloc (.cells #[.int .i64 0, .string ⟨#[chB f r]⟩] 35)) := (Below.refl _ _).alloc (Nat.le_refl _) _
      have M12 := (M11.keep b12).keep K12
      have N12 := (N11.keep b12).keep K12
      have T12 := (T11.keep b12).keep K12
      have B12 : Below w.heap.size w (w12.alloc (.cells #[.int .i64 0, .string ⟨#[chB f r]⟩] 35)) := (B11.trans (b12.mono B11.size)).alloc (Nat.le_trans B11.size b12.size) _
      have hg12 := glob_below B12 hg
      obtain ⟨t0, t1, t2⟩ := id T12
      have hch := (bit_eq (one := true) hc r0 r1).1
      have S1 := same_a hc hd r0 r1 _ hg12 M12 N12
      clear b12 M11 N11 T11 B11 hg11 K12
      go_wp2_with (go_at_call 36; fail)
      refine S1.mono ?_
      rintro e w13 ⟨rfl, b13⟩
      have M13 := M12.keep b13
      have N13 := N12.keep b13
      have T13 := T12.keep b13
      have B13 : Below w.heap.size w w13 := B12.trans (b13.mono B12.size)
      have hg13 := glob_below B13 hg
      have S2 := same_b hc hd r0 r1 _ hg13 M13 N13
      clear b13 M12 N12 T12 B12 hg12 t0 t1 t2 S1
      go_wp2_with (go_at_call 36; fail)
      refine S2.mono ?_
      rintro e w14 ⟨rfl, b14⟩
      have T14 := T13.keep b14
      have B14 : Below w.heap.size w w14 := B13.trans (b14.mono B13.size)
      obtain ⟨t0, t1, t2⟩ := id T14
      clear b14 M13 N13 T13 B13 hg13 S2 hc hd
      generalize chB f r = ch at *
      rcases hch with rfl | rfl
      · go_wp2
        go_ret
        exact ⟨rfl, B14⟩
      · go_wp2
        go_ret
        exact ⟨rfl, B14⟩
end Go.Proofs.YtadaoelabimmkaaGreatDoor
