/-
  Load and Store of a memory, whatever the type: walked, by what Size, get, set, Encode, Decode do.; LayoutClones: facts of bytes, Load and Store of one bit.; LayoutClones: Same of a memory and of one with a bit changed.
-/
import Derived.Test.YtadaoelabimmkaaGreatDoorM1
import Derived.Test.YtadaoelabimmkaaGreatDoorM2
import Derived.Test.YtadaoelabimmkaaGreatDoorY5
import Derived.Deep.RegionHeld3
import Derived.Handy
import Derived.Laws.ResultCell
set_option linter.all false
namespace Go.Proofs.YtadaoelabimmkaaGreatDoor
open Go.RowKit
open Go.Xec (Glob)
abbrev tyM (k p q : Int) (v : Bool) (s : ByteArray) : Value := .agg #[.int .i64 k, .int .i64 p, .int .i64 q, .bool v, .string s]
abbrev vaM (n : Int) (s : ByteArray) : Value := .agg #[.int .i64 n, .string s]
def codeS (k x Z : Int) : Int := cond (decide (0 ≤ x) && decide (0 ≤ Z) && decide (x ≤ 524288) && decide (Z ≤ 524288 - x)) (cond (!(decide (k = 4)) && !(decide (x.tmod 8 = 0))) 8095 0) 8091
set_option maxRecDepth 100000 in
set_option maxHeartbeats 400000 in
theorem code_any (k p q x Z r : Int) (v : Bool) (s : ByteArray) (w : World) (hg : Glob w) (c19 : ∀ w, Glob w → Calls Tryz.prog 19 #[tyM k p q v s] w fun e w' => e = .returned (.int .i64 Z) ∧ Below w.heap.size w w') (hr : codeS k x Z = r) :
    Calls Tryz.prog 84 #[.int .i64 x, tyM k p q v s] w fun e w' => e = .returned (.int .i64 r) ∧ Below w.heap.size w w' := by
  go_enter Tryz.func84, Tryz.ntmps84
  go_wp2_with (go_at_call 19; fail)
  refine (c19 _ (glob_below ((Below.refl _ w).alloc (Nat.le_refl _) _) hg)).mono ?_
  rintro e w1 ⟨rfl, hb⟩
  have c0 := (hb.cell (p := ⟨w.heap.size, 0, none⟩) (by simp)).trans (show _ = some (.int .i64 k) by simp)
  have hB : Below w.heap.size w w1 := ((Below.refl _ w).alloc (Nat.le_refl _) _).trans (hb.mono (by simp))
  clear hb
  have hF := fun w => fits_any x Z w
  unfold codeS at hr
  cases hf : (decide (0 ≤ x) && decide (0 ≤ Z) && decide (x ≤ 524288) && decide (Z ≤ 524288 - x))
  · rw [hf] at hF hr
    obtain rfl : r = 8091 := hr.symm
    clear hf
    go_wp2_with (go_at_call 83; refine (hF _).mono ?_; rintro e w' ⟨rfl, rfl⟩)
    go_ret
    exact ⟨rfl, hB⟩
  · rw [hf] at hF hr
    clear hf
    by_cases h4 : k = 4
    · subst h4
      obtain rfl : r = 0 := hr.symm
      go_wp2_with (go_at_call 83; refine (hF _).mono ?_; rintro e w' ⟨rfl, rfl⟩)
      go_ret
      exact ⟨rfl, hB⟩
    · by_cases h8 : x.tmod 8 = 0
      · rw [decide_eq_false h4, decide_eq_true h8] at hr
        obtain rfl : r = 0 := hr.symm
        go_wp2_with (go_at_call 83; refine (hF _).mono ?_; rintro e w' ⟨rfl, rfl⟩)
        go_ret
        exact ⟨rfl, hB⟩
      · rw [decide_eq_false h4, decide_eq_false h8] at hr
        obtain rfl : r = 8095 := hr.symm
        have b4 : (k != 4) = true := bne_iff_ne.2 h4
        have b8 : (x.tmod 8 != 0) = true := bne_iff_ne.2 h8
        go_wp2_with (go_at_call 83; refine (hF _).mono ?_; rintro e w' ⟨rfl, rfl⟩)
        go_ret
        exact ⟨rfl, hB⟩
set_option maxRecDepth 100000 in
set_option maxHeartbeats 400000 in
theorem store_any (k p q n x Z r : Int) (v : Bool) (s u str : ByteArray) (B : Nat) (Mem : World → Prop) (R : World → World → Prop) (hmem : ∀ w w', Mem w → Below w.heap.size w w' → Mem w') (w : World) (hg : Glob w) (hM : Mem w) (hr0 : codeS k x Z = r)
    (c19 : ∀ w, Glob w → Calls Tryz.prog 19 #[tyM k p q v s] w fun e w' => e = .returned (.int .i64 Z) ∧ Below w.heap.size w w')
    (c23 : ∀ w, Glob w → Calls Tryz.prog 23 #[tyM k p q v s, vaM n u] w fun e w' => e = .returned (.tuple #[.string str, .int .i64 0]) ∧ Below w.heap.size w w')
    (c85 : r = 0 → ∀ w, Mem w → Calls Tryz.prog 85 #[.pointer (some ⟨B, 0, none⟩), .int .i64 x, .string str] w fun e w' => e = .returned (.tuple #[]) ∧ R w w') :
    Calls Tryz.prog 32 #[.pointer (some ⟨B, 0, none⟩), .int .i64 x, tyM k p q v s, vaM n u] w fun e w' => e = .returned (.int .i64 r) ∧ (¬ r = 0 → Below w.heap.size w w') ∧ (r = 0 → ∃ w1, Below w.heap.size w w1 ∧ R w1 w') := by
  go_enter Tryz.func32, Tryz.ntmps32
  go_wp2_with (go_at_call 23; fail)
  have hB0 : Below w.heap.size w ((w.alloc (.cells #[.int .i64 k, .int .i64 p, .int .i64 q, .bool v, .string s] 33)).alloc (.cells #[.int .i64 n, .string u] 35)) := ((Below.refl _ w).alloc (Nat.le_refl _) _).alloc (by simp) _
  refine (c23 _ (glob_below hB0 hg)).mono ?_
  rintro e w1 ⟨rfl, hb⟩
  have k0 := (hb.cell (p := ⟨w.heap.size, 0, none⟩) (by simp <;> omega)).trans (show _ = some (.int .i64 k) by simp)
  have k1 := (hb.cell (p := ⟨w.heap.size, 1, none⟩) (by simp <;> omega)).trans (show _ = some (.int .i64 p) by simp)
  have k2 := (hb.cell (p := ⟨w.heap.size, 2, none⟩) (by simp <;> omega)).trans (show _ = some (.int .i64 q) by simp)
  have k3 := (hb.cell (p := ⟨w.heap.size, 3, none⟩) (by simp <;> omega)).trans (show _ = some (.bool v) by simp)
  have k4 := (hb.cell (p := ⟨w.heap.size, 4, none⟩) (by simp <;> omega)).trans (show _ = some (.string s) by simp)
  have hB1 : Below w.heap.size w w1 := hB0.trans (hb.mono (by simp <;> omega))
  clear hb hB0
  go_wp2_with (go_at_call 84; fail)
  refine (code_any k p q x Z r v s _ (glob_below hB1 hg) c19 hr0).mono ?_
  rintro e w2 ⟨rfl, hb⟩
  have hB2 : Below w.heap.size w w2 := hB1.trans (hb.mono hB1.size)
  clear hb k0 k1 k2 k3 k4 hB1
  have hM2 := hmem _ _ hM hB2
  clear hr0
  by_cases hr : r = 0
  · have h85 := c85 hr _ hM2
    subst hr
    go_wp2_with (go_at_call 85; refine h85.mono ?_; rintro e w' ⟨rfl, hR⟩)
    go_ret
    exact ⟨rfl, w2, hB2, hR⟩
  · go_wp2
    go_ret
    exact ⟨rfl, fun _ => hB2, fun h => absurd h hr⟩
theorem load_keep {w2 w w' : World} {A : Nat} {v0 v1 v2 v3 v4 : Value} {Mem : World → Prop} (hmem : ∀ w w', Mem w → Below w.heap.size w w' → Mem w') (hA : A < w2.heap.size)
    (h : w.cell? ⟨A, 0, none⟩ = some v0 ∧ w.cell? ⟨A, 1, none⟩ = some v1 ∧ w.cell? ⟨A, 2, none⟩ = some v2 ∧ w.cell? ⟨A, 3, none⟩ = some v3 ∧ w.cell? ⟨A, 4, none⟩ = some v4 ∧ Mem w ∧ Below w2.heap.size w2 w) (hb : Below w.heap.size w w') :
    w'.cell? ⟨A, 0, none⟩ = some v0 ∧ w'.cell? ⟨A, 1, none⟩ = some v1 ∧ w'.cell? ⟨A, 2, none⟩ = some v2 ∧ w'.cell? ⟨A, 3, none⟩ = some v3 ∧ w'.cell? ⟨A, 4, none⟩ = some v4 ∧ Mem w' ∧ Below w2.heap.size w2 w' := by
  obtain ⟨h0, h1, h2, h3, h4, h6, h7⟩ := h
  have hs := h7.size
  exact ⟨(hb.cell (p := ⟨A, 0, none⟩) (by simp only; omega)).trans h0, (hb.cell (p := ⟨A, 1, none⟩) (by simp only; omega)).trans h1, (hb.cell (p := ⟨A, 2, none⟩) (by simp only; omega)).trans h2, (hb.cell (p := ⟨A, 3, none⟩) (by simp only; omega)).trans h3, (hb.cell (p := ⟨A, 4, none⟩) (by simp only; omega)).trans h4, hmem _ _ h6 hb, h7.trans (hb.mono hs)⟩
theorem load_glob {w2 w : World} {A : Nat} {v0 v1 v2 v3 v4 : Value} {Mem : World → Prop} (hg : Glob w2)
    (h : w.cell? ⟨A, 0, none⟩ = some v0 ∧ w.cell? ⟨A, 1, none⟩ = some v1 ∧ w.cell? ⟨A, 2, none⟩ = some v2 ∧ w.cell? ⟨A, 3, none⟩ = some v3 ∧ w.cell? ⟨A, 4, none⟩ = some v4 ∧ Mem w ∧ Below w2.heap.size w2 w) : Glob w := glob_below h.2.2.2.2.2.2 hg
theorem load_mem {w2 w : World} {A : Nat} {v0 v1 v2 v3 v4 : Value} {Mem : World → Prop}
    (h : w.cell? ⟨A, 0, none⟩ = some v0 ∧ w.cell? ⟨A, 1, none⟩ = some v1 ∧ w.cell? ⟨A, 2, none⟩ = some v2 ∧ w.cell? ⟨A, 3, none⟩ = some v3 ∧ w.cell? ⟨A, 4, none⟩ = some v4 ∧ Mem w ∧ Below w2.heap.size w2 w) : Mem w := h.2.2.2.2.2.1
theorem load_last {w2 w : World} {A : Nat} {v0 v1 v2 v3 v4 : Value} {Mem : World → Prop}
    (h : w.cell? ⟨A, 0, none⟩ = some v0 ∧ w.cell? ⟨A, 1, none⟩ = some v1 ∧ w.cell? ⟨A, 2, none⟩ = some v2 ∧ w.cell? ⟨A, 3, none⟩ = some v3 ∧ w.cell? ⟨A, 4, none⟩ = some v4 ∧ Mem w ∧ Below w2.heap.size w2 w) : Below w2.heap.size w2 w := h.2.2.2.2.2.2
theorem set2 {W : World} {C : Nat} {a b x y : Value} (h0 : W.cell? ⟨C, 0, none⟩ = some a) (h1 : W.cell? ⟨C, 1, none⟩ = some b) : ((W.setCell ⟨C, 0, none⟩ x).setCell ⟨C, 1, none⟩ y).cell? ⟨C, 0, none⟩ = some x ∧ ((W.setCell ⟨C, 0, none⟩ x).setCell ⟨C, 1, none⟩ y).cell? ⟨C, 1, none⟩ = some y :=
  ⟨(World.cell?_setCell_other _ _ _ _ (by simp)).trans (World.cell?_setCell_same _ _ _ h0), World.cell?_setCell_same _ _ _ ((World.cell?_setCell_other _ _ _ _ (by simp)).trans h1)⟩
theorem keep_c {w w' : World} {b i : Nat} {v : Value} (h : Below w.heap.size w w') (hz : b < w.heap.size) (hc : w.cell? ⟨b, i, none⟩ = some v) : w'.cell? ⟨b, i, none⟩ = some v := (h.cell (p := ⟨b, i, none⟩) hz).trans hc
theorem keep_f {w w' : World} {b i : Nat} {v : Bool} (h : Below w.heap.size w w') (hz : b < w.heap.size) (hc : w.frozen? ⟨b, i, none⟩ = v) : w'.frozen? ⟨b, i, none⟩ = v := (h.frozen (p := ⟨b, i, none⟩) hz).trans hc
theorem top_z {w w' : World} {o : Obj} (h : Below (w.alloc o).heap.size (w.alloc o) w') : w.heap.size < w'.heap.size := by
  have := h.size
  have e : (w.alloc o).heap.size = w.heap.size + 1 := by simp
  omega
theorem top_c {w w' : World} {o : Obj} (h : Below (w.alloc o).heap.size (w.alloc o) w') (i : Nat) : w'.cell? ⟨w.heap.size, i, none⟩ = (w.alloc o).cell? ⟨w.heap.size, i, none⟩ := h.cell (p := ⟨w.heap.size, i, none⟩) (by simp)
theorem top_f {w w' : World} {o : Obj} (h : Below (w.alloc o).heap.size (w.alloc o) w') (i : Nat) : w'.frozen? ⟨w.heap.size, i, none⟩ = (w.alloc o).frozen? ⟨w.heap.size, i, none⟩ := h.frozen (p := ⟨w.heap.size, i, none⟩) (by simp)
theorem top_dz {w w' : World} {o : Obj} (h : Below (w.alloc o).drew.heap.size (w.alloc o).drew w') : w.heap.size < w'.heap.size := by
  have := h.size
  have e : (w.alloc o).drew.heap.size = w.heap.size + 1 := by simp
  omega
theorem top_dc {w w' : World} {o : Obj} (h : Below (w.alloc o).drew.heap.size (w.alloc o).drew w') (i : Nat) : w'.cell? ⟨w.heap.size, i, none⟩ = (w.alloc o).drew.cell? ⟨w.heap.size, i, none⟩ := h.cell (p := ⟨w.heap.size, i, none⟩) (by simp)
theorem top_df {w w' : World} {o : Obj} (h : Below (w.alloc o).drew.heap.size (w.alloc o).drew w') (i : Nat) : w'.frozen? ⟨w.heap.size, i, none⟩ = (w.alloc o).drew.frozen? ⟨w.heap.size, i, none⟩ := h.frozen (p := ⟨w.heap.size, i, none⟩) (by simp)
set_option maxRecDepth 100000 in
set_option maxHeartbeats 2000000 in
theorem load_any (k p q n x Z : Int) (v : Bool) (s u str : ByteArray) (B : Nat) (Mem : World → Prop) (hmem : ∀ w w', Mem w → Below w.heap.size w w' → Mem w') (w : World) (hg : Glob w) (hM : Mem w) (hr0 : codeS k x Z = 0)
    (c62 : ∀ w, Glob w → Calls Tryz.prog 62 #[tyM k p q v s] w fun e w' => e = .returned (.bool true) ∧ Below w.heap.size w w')
    (c19 : ∀ w, Glob w → Calls Tryz.prog 19 #[tyM k p q v s] w fun e w' => e = .returned (.int .i64 Z) ∧ Below w.heap.size w w')
    (c86 : ∀ w, Mem w → Calls Tryz.prog 86 #[.pointer (some ⟨B, 0, none⟩), .int .i64 x, .int .i64 Z] w fun e w' => e = .returned (.string str) ∧ Below w.heap.size w w')
    (c25 : ∀ w, Glob w → Calls Tryz.prog 25 #[tyM k p q v s, .string str] w fun e w' => e = .returned (.tuple #[vaM n u, .int .i64 0]) ∧ Below w.heap.size w w') :
    Calls Tryz.prog 33 #[.pointer (some ⟨B, 0, none⟩), .int .i64 x, tyM k p q v s] w fun e w' => e = .returned (.tuple #[vaM n u, .int .i64 0]) ∧ Below w.heap.size w w' := by
  have hB0 : Below w.heap.size w ((w.alloc (.cells #[.int .i64 k, .int .i64 p, .int .i64 q, .bool v, .string s] 33)).alloc (.cells #[.int .i64 0, .string ⟨#[]⟩] 35)) := ((Below.refl _ w).alloc (Nat.le_refl _) _).alloc (by simp) _
  go_enter Tryz.func33, Tryz.ntmps33
  go_wp2_with (go_at_call 62; fail)
  refine (c62 _ (glob_below hB0 hg)).mono ?_
  rintro e w1 ⟨rfl, hb⟩
  have k0 := (hb.cell (p := ⟨w.heap.size, 0, none⟩) (by simp <;> omega)).trans (show _ = some (.int .i64 k) by simp)
  have k1 := (hb.cell (p := ⟨w.heap.size, 1, none⟩) (by simp <;> omega)).trans (show _ = some (.int .i64 p) by simp)
  have k2 := (hb.cell (p := ⟨w.heap.size, 2, none⟩) (by simp <;> omega)).trans (show _ = some (.int .i64 q) by simp)
  have k3 := (hb.cell (p := ⟨w.heap.size, 3, none⟩) (by simp <;> omega)).trans (show _ = some (.bool v) by simp)
  have k4 := (hb.cell (p := ⟨w.heap.size, 4, none⟩) (by simp <;> omega)).trans (show _ = some (.string s) by simp)
  have k5 := (hb.cell (p := ⟨w.heap.size + 1, 0, none⟩) (by simp <;> omega)).trans (show _ = some (.int .i64 0) by simp)
  have k6 := (hb.cell (p := ⟨w.heap.size + 1, 1, none⟩) (by simp <;> omega)).trans (show _ = some (.string ⟨#[]⟩) by simp)
  have k7 := (hb.frozen (p := ⟨w.heap.size + 1, 0, none⟩) (by simp <;> omega)).trans (show _ = false by simp)
  have k8 := (hb.frozen (p := ⟨w.heap.size + 1, 1, none⟩) (by simp <;> omega)).trans (show _ = false by simp)
  have hB1 : Below w.heap.size w w1 := hB0.trans (hb.mono (by simp <;> omega))
  have y0 : w.heap.size + 1 < w1.heap.size := by have := hb.size; simp at this; omega
  clear hb hB0
  go_wp2_with (go_at_call 84; fail)
  refine (code_any k p q x Z 0 v s _ (glob_below hB1 hg) c19 hr0).mono ?_
  rintro e w2 ⟨rfl, hb2⟩
  have y1 : w.heap.size + 1 < w2.heap.size := Nat.lt_of_lt_of_le y0 hb2.size
  have y3 : w.heap.size < w2.heap.size := by omega
  have hB2 : Below w.heap.size w w2 := hB1.trans (hb2.mono hB1.size)
  have m0 := (hb2.cell (p := ⟨w.heap.size, 0, none⟩) (by simp only; omega)).trans k0
  have m1 := (hb2.cell (p := ⟨w.heap.size, 1, none⟩) (by simp only; omega)).trans k1
  have m2 := (hb2.cell (p := ⟨w.heap.size, 2, none⟩) (by simp only; omega)).trans k2
  have m3 := (hb2.cell (p := ⟨w.heap.size, 3, none⟩) (by simp only; omega)).trans k3
  have m4 := (hb2.cell (p := ⟨w.heap.size, 4, none⟩) (by simp only; omega)).trans k4
  have j5 := (hb2.cell (p := ⟨w.heap.size + 1, 0, none⟩) (by simp only; omega)).trans k5
  have j6 := (hb2.cell (p := ⟨w.heap.size + 1, 1, none⟩) (by simp only; omega)).trans k6
  have j7 := (hb2.frozen (p := ⟨w.heap.size + 1, 0, none⟩) (by simp only; omega)).trans k7
  have j8 := (hb2.frozen (p := ⟨w.heap.size + 1, 1, none⟩) (by simp only; omega)).trans k8
  have HM : Hid (Mem w2) := hmem _ _ hM hB2
  have hg2 := glob_below hB2 hg
  clear hb2 k0 k1 k2 k3 k4 k5 k6 k7 k8 hr0 hM y0 hB1
  generalize hA : w.heap.size = A at *
  have H0 : w2.cell? ⟨A, 0, none⟩ = some (.int .i64 k) ∧ w2.cell? ⟨A, 1, none⟩ = some (.int .i64 p) ∧ w2.cell? ⟨A, 2, none⟩ = some (.int .i64 q) ∧ w2.cell? ⟨A, 3, none⟩ = some (.bool v) ∧ w2.cell? ⟨A, 4, none⟩ = some (.string s) ∧ Mem w2 ∧ Below w2.heap.size w2 w2 := ⟨m0, m1, m2, m3, m4, HM.out, Below.refl _ _⟩
  go_wp2
  go_region_held3 (fun w' => w'.cell? ⟨A, 0, none⟩ = some (.int .i64 k) ∧ w'.cell? ⟨A, 1, none⟩ = some (.int .i64 p) ∧ w'.cell? ⟨A, 2, none⟩ = some (.int .i64 q) ∧ w'.cell? ⟨A, 3, none⟩ = some (.bool v) ∧ w'.cell? ⟨A, 4, none⟩ = some (.string s) ∧ Mem w' ∧ Below w2.heap.size w2 w')
    (first
      | assumption
      | exact load_keep hmem y3 H0 (hb8.alloc hb8.size _)
      | exact load_keep hmem y3 H0 ((hb8.setCell (p := ⟨_, 0, none⟩) (by first | exact hb7.size | exact hb6.size | exact Nat.le_refl _) _).setCell (p := ⟨_, 1, none⟩) (by first | exact hb7.size | exact hb6.size | exact Nat.le_refl _) _)
      | exact load_keep hmem y3 H0 (Below.refl _ _).drew
      | exact load_keep hmem y3 ‹_› ((Below.refl _ _).alloc (Nat.le_refl _) _)
      | exact load_keep hmem y3 ‹_› ‹_›)
    (first
      | (go_at_call 19; refine (c19 _ (load_glob hg2 (by assumption))).mono ?_; rintro e w' ⟨rfl, hba⟩; (first | (have hb6 := ((Below.refl w2.heap.size w2).drew).trans hba) | (have hb6 := (((Below.refl w2.heap.size w2).drew).alloc (Nat.le_refl _) _).trans (hba.mono (by simp)))); try (have z0 := top_dz hba; have q0 := top_dc hba 0; have q1 := top_dc hba 1; have f0 := top_df hba 0; have f1 := top_df hba 1; (try simp at q0); (try simp at q1); (try simp at f0); (try simp at f1)))
      | (go_at_call 86; refine (c86 _ (load_mem (by assumption))).mono ?_; rintro e w' ⟨rfl, hbb⟩; (first | (have hb7 := hb6.trans (hbb.mono hb6.size)) | (have hb7 := (hb6.alloc hb6.size _).trans (hbb.mono (Below.size (hb6.alloc hb6.size _))))); first | (have z1 := top_z hbb; have q2 := top_c hbb 0; have q3 := top_c hbb 1; have f2 := top_f hbb 0; have f3 := top_f hbb 1; (try simp at q2); (try simp at q3); (try simp at f2); (try simp at f3)) | (have z2 := Nat.lt_of_lt_of_le z0 hbb.size; have r0 := keep_c hbb z0 q0; have r1 := keep_c hbb z0 q1; have r2 := keep_f hbb z0 f0; have r3 := keep_f hbb z0 f1) | skip)
      | (go_at_call 25; refine (c25 _ (load_glob hg2 (by assumption))).mono ?_; rintro e w' ⟨rfl, hbc⟩; (first | (have hb8 := hb7.trans (hbc.mono hb7.size)) | (have hb8 := (hb7.alloc hb7.size _).trans (hbc.mono (Below.size (hb7.alloc hb7.size _))))); first | (have z3 := top_z hbc; have q4 := top_c hbc 0; have q5 := top_c hbc 1; have f4 := top_f hbc 0; have f5 := top_f hbc 1; (try simp at q4); (try simp at q5); (try simp at f4); (try simp at f5)) | (have s0 := keep_c hbc z1 q2; have s1 := keep_c hbc z1 q3; have s2 := keep_f hbc z1 f2; have s3 := keep_f hbc z1 f3) | (have s0 := keep_c hbc z2 r0; have s1 := keep_c hbc z2 r1; have s2 := keep_f hbc z2 r2; have s3 := keep_f hbc z2 r3) | skip))
  all_goals
    rename_i hS
    have hL := load_last hS
    have t5 := (hL.cell (p := ⟨A + 1, 0, none⟩) y1).trans j5
    have t6 := (hL.cell (p := ⟨A + 1, 1, none⟩) y1).trans j6
    have t7 := (hL.frozen (p := ⟨A + 1, 0, none⟩) y1).trans j7
    have t8 := (hL.frozen (p := ⟨A + 1, 1, none⟩) y1).trans j8
    clear hS m0 m1 m2 m3 m4 j5 j6 j7 j8
    go_wp2
    obtain ⟨e0, e1⟩ := set2 (x := .int .i64 n) (y := .string u) t5 t6
    (try simp only [Exit.inBlock, Exit.then])
    refine bodyPost_ret (v := .tuple #[vaM n u, .int .i64 0]) (by rw [results_cell_tmp rfl]; go_simp) rfl ?_
    exact ⟨rfl, by rw [hA]; exact ((hB2.trans (hL.mono (Nat.le_of_lt y3))).setCell (p := ⟨A + 1, 0, none⟩) (Nat.le_succ _) _).setCell (p := ⟨A + 1, 1, none⟩) (Nat.le_succ _) _⟩
end Go.Proofs.YtadaoelabimmkaaGreatDoor
namespace Go.Proofs.YtadaoelabimmkaaGreatDoor
open Go.RowKit
open Go.Xec (Glob)
noncomputable def byteB (n j : Nat) : Bool :=
  let m : Int := 128 / 2 ^ j
  let t : Int := (48 + bits .and .u8 ((n : Int) / 2 ^ (7 - j)) 1) % 256
  let o : Int := bits .or .u8 n m
  let a : Int := bits .andNot .u8 n m
  decide (0 ≤ o) && decide (o ≤ 255) && decide (0 ≤ a) && decide (a ≤ 255) &&
    ((decide (t = 48) && decide (bits .xor .u8 n o = m) && decide (bits .xor .u8 o n = m) && decide (bits .xor .u8 n a = 0) && decide (bits .xor .u8 a n = 0)) ||
     (decide (t = 49) && decide (bits .xor .u8 n a = m) && decide (bits .xor .u8 a n = m) && decide (bits .xor .u8 n o = 0) && decide (bits .xor .u8 o n = 0)))
theorem byte_all : ((List.range 256).all fun n => (List.range 8).all fun j => byteB n j) = true := by kernel_rfl
theorem xor_all : ((List.range 256).all fun n => decide (bits .xor .u8 (n : Int) n = 0)) = true := by kernel_rfl
theorem xor_self {a : Int} (h0 : 0 ≤ a) (h1 : a ≤ 255) : bits .xor .u8 a a = 0 := by
  have := List.all_eq_true.1 xor_all a.toNat (List.mem_range.2 (by omega))
  rw [show ((a.toNat : Nat) : Int) = a by omega] at this
  exact of_decide_eq_true this
theorem byte_fact {a x : Int} (h0 : 0 ≤ a) (h1 : a ≤ 255) :
    (0 ≤ bits .or .u8 a (128 / 2 ^ (x % 8).toNat) ∧ bits .or .u8 a (128 / 2 ^ (x % 8).toNat) ≤ 255 ∧ 0 ≤ bits .andNot .u8 a (128 / 2 ^ (x % 8).toNat) ∧ bits .andNot .u8 a (128 / 2 ^ (x % 8).toNat) ≤ 255) ∧
    ((chOf a x = 48 ∧ bits .xor .u8 a (bits .or .u8 a (128 / 2 ^ (x % 8).toNat)) = 128 / 2 ^ (x % 8).toNat ∧ bits .xor .u8 (bits .or .u8 a (128 / 2 ^ (x % 8).toNat)) a = 128 / 2 ^ (x % 8).toNat ∧ bits .xor .u8 a (bits .andNot .u8 a (128 / 2 ^ (x % 8).toNat)) = 0 ∧ bits .xor .u8 (bits .andNot .u8 a (128 / 2 ^ (x % 8).toNat)) a = 0) ∨
     (chOf a x = 49 ∧ bits .xor .u8 a (bits .andNot .u8 a (128 / 2 ^ (x % 8).toNat)) = 128 / 2 ^ (x % 8).toNat ∧ bits .xor .u8 (bits .andNot .u8 a (128 / 2 ^ (x % 8).toNat)) a = 128 / 2 ^ (x % 8).toNat ∧ bits .xor .u8 a (bits .or .u8 a (128 / 2 ^ (x % 8).toNat)) = 0 ∧ bits .xor .u8 (bits .or .u8 a (128 / 2 ^ (x % 8).toNat)) a = 0)) := by
  have h := List.all_eq_true.1 (List.all_eq_true.1 byte_all a.toNat (List.mem_range.2 (by omega))) (x % 8).toNat (List.mem_range.2 (by omega))
  unfold byteB at h
  rw [show ((a.toNat : Nat) : Int) = a by omega] at h
  have hj : (7 - x % 8).toNat = 7 - (x % 8).toNat := by omega
  unfold chOf
  rw [hj]
  simp only [Bool.and_eq_true, Bool.or_eq_true, decide_eq_true_eq, and_assoc] at h
  exact ⟨⟨h.1, h.2.1, h.2.2.1, h.2.2.2.1⟩, h.2.2.2.2⟩
theorem mask_ne (x : Int) : ¬ (128 / 2 ^ (x % 8).toNat : Int) = 0 := by
  obtain ⟨j, hj, e⟩ : ∃ j, j < 8 ∧ (x % 8).toNat = j := ⟨_, by omega, rfl⟩
  rw [e]
  match j, hj with
  | 0, _ | 1, _ | 2, _ | 3, _ | 4, _ | 5, _ | 6, _ | 7, _ => decide
theorem bs_set {c : Array Value} {f : Nat → Int} (hc : Bs c f) (k : Nat) {v : Int} (h0 : 0 ≤ v) (h1 : v ≤ 255) : Bs (c.setIfInBounds k (.int .u8 v)) (fun j => if j = k then v else f j) := by
  refine ⟨by rw [Array.size_setIfInBounds]; exact hc.size, ?_, ?_, ?_⟩
  · intro i hi
    rw [Array.getElem?_setIfInBounds]
    by_cases h : k = i
    · subst h
      rw [if_pos rfl, if_pos (by rw [hc.size]; exact hi), if_pos rfl]
    · rw [if_neg h, if_neg (Ne.symm h)]
      exact hc.at' i hi
  · intro i hi
    split
    · exact h0
    · exact hc.lo i hi
  · intro i hi
    split
    · exact h1
    · exact hc.hi i hi
set_option maxRecDepth 100000 in
set_option maxHeartbeats 400000 in
theorem index8 (b : Int) (w : World) : Calls Tryz.prog 13 #[.int .i64 b, .int .i64 524288] w fun e w' => ∃ r, e = .returned (.int .i64 r) ∧ 0 ≤ r ∧ r < 524288 ∧ w' = w := by
  have h0 : ¬ IntKind.u64.wrap 524288 = 0 := by decide
  have h1 : ∃ r : Int, wrap64 ((IntKind.u64.wrap b).tmod 524288) = r ∧ 0 ≤ r ∧ r < 524288 := by
    refine ⟨_, rfl, ?_⟩
    rw [IntKind.wrap_u64, Int.tmod_eq_emod_of_nonneg (Int.emod_nonneg _ (by decide))]
    unfold wrap64
    omega
  obtain ⟨r, hr, r0, r1⟩ := h1
  go_enter Tryz.func13, Tryz.ntmps13
  go_wp2
  go_ret
  exact ⟨_, rfl, by rw [hr]; exact r0, by rw [hr]; exact r1, rfl⟩
def MemAt (B : Nat) (c : Array Value) (w : World) : Prop := w.heap[B]? = some (.cells c 130 (0, 0))
theorem MemAt.lt {B : Nat} {c : Array Value} {w : World} (h : MemAt B c w) : B < w.heap.size := (Array.getElem?_eq_some_iff.1 h).1
theorem MemAt.keep {B : Nat} {c : Array Value} {w w' : World} (h : MemAt B c w) (hb : Below w.heap.size w w') : MemAt B c w' := (hb.block B h.lt).trans h
theorem MemAt.cell {B : Nat} {c : Array Value} {f : Nat → Int} {w : World} (h : MemAt B c w) (hc : Bs c f) {k : Nat} (hk : k < 65536) : w.cell? ⟨B, k, none⟩ = some (.int .u8 (f k)) := by rw [cell_of_row w B k c 130 (0, 0) h]; exact hc.at' k hk
theorem MemAt.frozen {B : Nat} {c : Array Value} {w : World} (h : MemAt B c w) (k : Nat) : w.frozen? ⟨B, k, none⟩ = false := by simp [World.frozen?, show w.heap[B]? = _ from h]
theorem codeS_bit {x : Int} (h0 : 0 ≤ x) (h1 : x < 524288) : codeS 4 x 1 = 0 := by
  unfold codeS
  rw [decide_eq_true h0, decide_eq_true (show x ≤ 524288 by omega), decide_eq_true (show (1 : Int) ≤ 524288 - x by omega)]
  rfl
def chB (f : Nat → Int) (x : Int) : UInt8 := UInt8.ofNat (chOf (f (x / 8).toNat) x).toNat
theorem load_bit {B : Nat} {c : Array Value} {f : Nat → Int} (hc : Bs c f) {x : Int} (h0 : 0 ≤ x) (h1 : x < 524288) (w : World) (hg : Glob w) (hM : MemAt B c w) :
    Calls Tryz.prog 33 #[.pointer (some ⟨B, 0, none⟩), .int .i64 x, bit1] w fun e w' => e = .returned (.tuple #[bitV (chB f x), .int .i64 0]) ∧ Below w.heap.size w w' := by
  have hk : (x / 8).toNat < 65536 := by omega
  have ht : chB f x = 48 ∨ chB f x = 49 := by
    unfold chB
    rcases (byte_fact (x := x) (hc.lo _ hk) (hc.hi _ hk)).2 with h | h
    · rw [h.1]; exact .inl rfl
    · rw [h.1]; exact .inr rfl
  refine load_any 4 1 0 0 x 1 false ⟨#[]⟩ ⟨#[chB f x]⟩ ⟨#[chB f x]⟩ B (MemAt B c) (fun _ _ h hb => h.keep hb) w hg hM (codeS_bit h0 h1) scalar1 size1 (fun w hM => get_one B _ x w (hM.cell hc hk) hM.lt h0 h1) (fun w hg => ?_)
  generalize chB f x = t at ht
  rcases ht with rfl | rfl
  · exact dec0 w hg
  · exact dec1 w hg
noncomputable def bitF (f : Nat → Int) (x : Int) (one : Bool) (j : Nat) : Int := if j = (x / 8).toNat then cond one (bits .or .u8 (f (x / 8).toNat) (128 / 2 ^ (x % 8).toNat)) (bits .andNot .u8 (f (x / 8).toNat) (128 / 2 ^ (x % 8).toNat)) else f j
theorem store_bit {B : Nat} {c : Array Value} {f : Nat → Int} (hc : Bs c f) {x : Int} (h0 : 0 ≤ x) (h1 : x < 524288) (one : Bool) (w : World) (hg : Glob w) (hM : MemAt B c w) :
    Calls Tryz.prog 32 #[.pointer (some ⟨B, 0, none⟩), .int .i64 x, bit1, bitV (cond one 49 48)] w fun e w' => e = .returned (.int .i64 0) ∧ ∃ w1 c', Below w.heap.size w w1 ∧ Bs c' (bitF f x one) ∧ MemAt B c' w' ∧ ∃ v, w' = (w1.setCell ⟨B, (x / 8).toNat, none⟩ v).drew := by
  have hk : (x / 8).toNat < 65536 := by omega
  obtain ⟨⟨o0, o1, a0, a1⟩, _⟩ := byte_fact (x := x) (hc.lo _ hk) (hc.hi _ hk)
  have fin : ∀ (v : Int) (w w1 : World), 0 ≤ v → v ≤ 255 → (∀ j, bitF f x one j = if j = (x / 8).toNat then v else f j) → MemAt B c w → Below w.heap.size w w1 → ∀ w', w' = (w1.setCell ⟨B, (x / 8).toNat, none⟩ (.int .u8 v)).drew → ∃ w1 c', Below w.heap.size w w1 ∧ Bs c' (bitF f x one) ∧ MemAt B c' w' ∧ ∃ v, w' = (w1.setCell ⟨B, (x / 8).toNat, none⟩ v).drew := by
    intro v w w1 v0 v1 he hM hb w' e
    refine ⟨w1, c.setIfInBounds (x / 8).toNat (.int .u8 v), hb, ?_, ?_, _, e⟩
    · rw [show bitF f x one = fun j => if j = (x / 8).toNat then v else f j from funext he]
      exact bs_set hc _ v0 v1
    · subst e
      exact heap_setCell_same w1 B _ c 130 _ (hM.keep hb)
  cases one
  · refine (store_any 4 1 0 0 x 1 0 false ⟨#[]⟩ ⟨#[48]⟩ ⟨#[48]⟩ B (MemAt B c) (fun w w' => w' = (w.setCell ⟨B, (x / 8).toNat, none⟩ (.int .u8 (bits .andNot .u8 (f (x / 8).toNat) (128 / 2 ^ (x % 8).toNat)))).drew) (fun _ _ h hb => h.keep hb) w hg hM (codeS_bit h0 h1) size1 enc0 (fun _ w hM => set_0 B _ x w (hM.cell hc hk) (hM.frozen _) h0 h1)).mono ?_
    rintro e w' ⟨rfl, _, h⟩
    obtain ⟨w1, hb, hR⟩ := h rfl
    exact ⟨rfl, fin _ w w1 a0 a1 (fun _ => rfl) hM hb w' hR⟩
  · refine (store_any 4 1 0 0 x 1 0 false ⟨#[]⟩ ⟨#[49]⟩ ⟨#[49]⟩ B (MemAt B c) (fun w w' => w' = (w.setCell ⟨B, (x / 8).toNat, none⟩ (.int .u8 (bits .or .u8 (f (x / 8).toNat) (128 / 2 ^ (x % 8).toNat)))).drew) (fun _ _ h hb => h.keep hb) w hg hM (codeS_bit h0 h1) size1 enc1 (fun _ w hM => set_1 B _ x w (hM.cell hc hk) (hM.frozen _) h0 h1)).mono ?_
    rintro e w' ⟨rfl, _, h⟩
    obtain ⟨w1, hb, hR⟩ := h rfl
    exact ⟨rfl, fin _ w w1 o0 o1 (fun _ => rfl) hM hb w' hR⟩
end Go.Proofs.YtadaoelabimmkaaGreatDoor
namespace Go.Proofs.YtadaoelabimmkaaGreatDoor
open Go.RowKit
open Go.Xec (Glob)
theorem bitF_other {f : Nat → Int} {x : Int} {one : Bool} {j : Nat} (h : ¬ j = (x / 8).toNat) : bitF f x one j = f j := if_neg h
theorem bitF_at {f : Nat → Int} {x : Int} {one : Bool} : bitF f x one (x / 8).toNat = cond one (bits .or .u8 (f (x / 8).toNat) (128 / 2 ^ (x % 8).toNat)) (bits .andNot .u8 (f (x / 8).toNat) (128 / 2 ^ (x % 8).toNat)) := if_pos rfl
theorem same_gen {B B' : Nat} {c d : Array Value} {f g : Nat → Int} {x : Int} (eq : Bool) (hc : Bs c f) (hd : Bs d g) (h0 : 0 ≤ x) (h1 : x < 524288) (w : World) (hg : Glob w) (hM : MemAt B c w) (hM' : MemAt B' d w)
    (ho : ∀ k, k < 65536 → ¬ k = (x / 8).toNat → bits .xor .u8 (f k) (g k) = 0) (ha : bits .xor .u8 (f (x / 8).toNat) (g (x / 8).toNat) = cond eq 0 (128 / 2 ^ (x % 8).toNat)) :
    Calls Tryz.prog 36 #[.pointer (some ⟨B, 0, none⟩), .pointer (some ⟨B', 0, none⟩)] w fun e w' => e = .returned (.tuple #[.int .i64 (cond eq 0 x), .bool eq]) ∧ Below w.heap.size w w' := by
  cases eq
  · have := same_no B B' c d f g w (x / 8) (128 / 2 ^ (x % 8).toNat) (x % 8) hM hM' hc hd (by omega) (by omega) (fun k hk => ho k (by omega) (by omega)) ha (mask_ne x) (by omega) (by
      have := lz_mask (x % 8).toNat (by omega) w hg
      rw [show (((x % 8).toNat : Nat) : Int) = x % 8 by omega] at this
      exact this)
    rw [show 8 * (x / 8) + x % 8 = x by omega] at this
    exact this
  · exact (same_yes B B' c d f g w hM hM' hc hd (fun k hk => by
      by_cases h : k = (x / 8).toNat
      · rw [h]; exact ha
      · exact ho k hk h)).mono fun e w' ⟨h1, h2⟩ => ⟨h1, by rw [h2]; exact Below.refl _ _⟩
variable {B B' : Nat} {c d : Array Value} {f : Nat → Int} {x : Int} {one : Bool}
theorem bit_eq (hc : Bs c f) (h0 : 0 ≤ x) (h1 : x < 524288) : (chB f x = 48 ∨ chB f x = 49) ∧ bits .xor .u8 (f (x / 8).toNat) (bitF f x one (x / 8).toNat) = cond (chB f x == cond one 49 48) 0 (128 / 2 ^ (x % 8).toNat) ∧ bits .xor .u8 (bitF f x one (x / 8).toNat) (f (x / 8).toNat) = cond (chB f x == cond one 49 48) 0 (128 / 2 ^ (x % 8).toNat) := by
  have hk : (x / 8).toNat < 65536 := by omega
  rw [bitF_at]
  unfold chB
  rcases (byte_fact (x := x) (hc.lo _ hk) (hc.hi _ hk)).2 with ⟨e, a1, a2, a3, a4⟩ | ⟨e, a1, a2, a3, a4⟩
  · rw [e]
    cases one
    · exact ⟨.inl rfl, a3, a4⟩
    · exact ⟨.inl rfl, a1, a2⟩
  · rw [e]
    cases one
    · exact ⟨.inr rfl, a1, a2⟩
    · exact ⟨.inr rfl, a3, a4⟩
theorem same_a (hc : Bs c f) (hd : Bs d (bitF f x one)) (h0 : 0 ≤ x) (h1 : x < 524288) (w : World) (hg : Glob w) (hM : MemAt B c w) (hM' : MemAt B' d w) :
    Calls Tryz.prog 36 #[.pointer (some ⟨B, 0, none⟩), .pointer (some ⟨B', 0, none⟩)] w fun e w' => e = .returned (.tuple #[.int .i64 (cond (chB f x == cond one 49 48) 0 x), .bool (chB f x == cond one 49 48)]) ∧ Below w.heap.size w w' :=
  same_gen _ hc hd h0 h1 w hg hM hM' (fun k hk h => by rw [bitF_other h]; exact xor_self (hc.lo k hk) (hc.hi k hk)) (bit_eq hc h0 h1).2.1
theorem same_b (hc : Bs c f) (hd : Bs d (bitF f x one)) (h0 : 0 ≤ x) (h1 : x < 524288) (w : World) (hg : Glob w) (hM : MemAt B c w) (hM' : MemAt B' d w) :
    Calls Tryz.prog 36 #[.pointer (some ⟨B', 0, none⟩), .pointer (some ⟨B, 0, none⟩)] w fun e w' => e = .returned (.tuple #[.int .i64 (cond (chB f x == cond one 49 48) 0 x), .bool (chB f x == cond one 49 48)]) ∧ Below w.heap.size w w' :=
  same_gen _ hd hc h0 h1 w hg hM' hM (fun k hk h => by rw [bitF_other h]; exact xor_self (hc.lo k hk) (hc.hi k hk)) (bit_eq hc h0 h1).2.2
theorem bs_one (hc : Bs c f) : c.all (·.oneCell') = true := by
  rw [Array.all_eq_true]
  intro i hi
  have h := hc.at' i (by rw [← hc.size]; exact hi)
  rw [Array.getElem?_eq_getElem hi] at h
  rw [Option.some.inj h]
  rfl
theorem bs_zero : Bs Tryz.zeroCells130 (fun _ => 0) := by
  rw [zero130_eq]
  exact ⟨Array.size_replicate, fun i hi => by rw [Array.getElem?_replicate, if_pos hi], fun _ _ => by decide, fun _ _ => by decide⟩
end Go.Proofs.YtadaoelabimmkaaGreatDoor
