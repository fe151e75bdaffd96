/-
  LAYOUTGAP, its walks: the law returns true for all integers, and leaves what was there as it was, where sane returns true.
-/
import Derived.Test.YtadaoelabimmkaaGreatDoorGapW3
namespace Go.Proofs.YtadaoelabimmkaaGreatDoor
open Go.RowKit
theorem keep1 {W w2 : World} (hb : Below W.heap.size W w2) {p : Addr} {v : Value} (h : W.cell? p = some v) (hlt : p.block < W.heap.size) : w2.cell? p = some v := (hb.cell hlt).trans h
theorem below2 {w w1 : World} {o o' : Obj} (h : Below ((w.alloc o).alloc o').heap.size ((w.alloc o).alloc o') w1) : Below w.heap.size w w1 :=
  (((Below.refl _ w).alloc (Nat.le_refl _) o).alloc (by simp) o').trans (h.mono (by simp only [World.size_alloc]; omega))
theorem gap_le {s b a s' a' x : Int} (h1 : al a) (h2 : al a') (hx : (x - s) % a = 0) : gp s b a s' a' ≤ far (x + b) s' a' := by
  unfold gp far
  rcases h1 with rfl | rfl | rfl | rfl | rfl <;> rcases h2 with rfl | rfl | rfl | rfl | rfl <;> simp only [Int.reduceLE, if_true, if_false] <;> omega
theorem on_grid {a x s : Int} (h : al a) (hx : (x - s) % a = 0) : (x + a - s) % a = 0 := by
  rcases h with rfl | rfl | rfl | rfl | rfl <;> omega
theorem first_at {s b a s' b' a' : Int} (h1 : good s b a) (h2 : good s' b' a') : (js s b a s' a' - s) % a = 0 := by
  unfold js gp
  obtain ⟨h1, _⟩ := h1
  obtain ⟨h2, _⟩ := h2
  rcases h1 with rfl | rfl | rfl | rfl | rfl <;> rcases h2 with rfl | rfl | rfl | rfl | rfl <;> simp only [Int.reduceLE, if_true, if_false] <;> omega
theorem second_at {s b a s' b' a' : Int} (h1 : good s b a) (h2 : good s' b' a') : (js s b a s' a' + b + gp s b a s' a' - s') % a' = 0 := by
  unfold js gp
  obtain ⟨h1, _⟩ := h1
  obtain ⟨h2, _⟩ := h2
  rcases h1 with rfl | rfl | rfl | rfl | rfl <;> rcases h2 with rfl | rfl | rfl | rfl | rfl <;> simp only [Int.reduceLE, if_true, if_false] <;> omega
theorem js_in {s b a s' b' a' : Int} (h1 : good s b a) (h2 : good s' b' a') : 0 ≤ js s b a s' a' ∧ js s b a s' a' < ja a a' ∧ ja a a' ≤ 64 ∧ 1 ≤ ja a a' := by
  have r1 := al_pos h1.1
  have r2 := al_pos h2.1
  obtain ⟨_, p1, p2, _⟩ := h1
  unfold js ja
  by_cases h : a' ≤ a
  · rw [if_pos h, if_pos h]; omega
  · rw [if_neg h, if_neg h]
    exact ⟨Int.emod_nonneg _ (by omega), Int.emod_lt_of_pos _ (by omega), by omega, by omega⟩
set_option maxHeartbeats 2000000 in
theorem gap_walk (s b a s' b' a' J g A : Int) (w : World) (d1 : decide (good s b a) = true) (d2 : decide (good s' b' a') = true) (m1 : al a) (m2 : al a') (hle : b + b' ≤ 524160)
    (q1 : 0 ≤ b ∧ b ≤ 524288) (q2 : 0 ≤ b' ∧ b' ≤ 524288) (r1 : 1 ≤ a ∧ a ≤ 64) (r2 : 1 ≤ a' ∧ a' ≤ 64) (s1 : 0 ≤ s) (s2 : s < a) (s3 : 0 ≤ s') (s4 : s' < a') (j0 : 0 ≤ J) (j1 : J < A) (g0 : 0 ≤ g) (g1 : g < 64)
    (hmax : max a a' = A) (hs128 : s < 128) (hs0 : (s - s) % a = 0)
    (hf : ∀ x, (x - s) % a = 0 → g ≤ far (x + b) s' a')
    (hi1 : ∀ w, Calls Tryz.prog 13 #[.int .i64 (J - s), .int .i64 a] w fun e w' => e = .returned (.int .i64 0) ∧ w' = w)
    (hi2 : ∀ w, Calls Tryz.prog 13 #[.int .i64 (J + b + g - s'), .int .i64 a'] w fun e w' => e = .returned (.int .i64 0) ∧ w' = w)
    (hJ : ∀ w, Calls Tryz.prog 11 #[.agg #[.int .i64 s, .int .i64 b, .int .i64 a], .agg #[.int .i64 s', .int .i64 b', .int .i64 a']] w
      fun e w' => e = .returned (.tuple #[.agg #[.int .i64 J, .int .i64 (b + g + b'), .int .i64 A], .int .i64 g, .int .i64 0]) ∧ Below w.heap.size w w')
    (hsane : ∀ w, Calls Tryz.prog 9 #[] w fun e w' => e = .returned (.bool true) ∧ Below w.heap.size w w') :
    Calls Tryz.prog 3 #[.agg #[.int .i64 s, .int .i64 b, .int .i64 a], .agg #[.int .i64 s', .int .i64 b', .int .i64 a']] w
      fun e w' => e = .returned (.bool true) ∧ Below w.heap.size w w' := by
  go_enter Tryz.func3, Tryz.ntmps3
  go_wp2_with (go_at_call 9; fail)
  refine (hsane _).mono ?_
  rintro e w1 ⟨rfl, hb⟩
  have z := hb.size
  simp only [World.size_alloc] at z
  have z0 : w.heap.size < w1.heap.size := by omega
  have z1 : w.heap.size + 1 < w1.heap.size := by omega
  have c0 := keep1 hb (p := ⟨w.heap.size, 0, none⟩) (v := .int .i64 s) (by simp) (by simp <;> omega)
  have c1 := keep1 hb (p := ⟨w.heap.size, 1, none⟩) (v := .int .i64 b) (by simp) (by simp <;> omega)
  have c2 := keep1 hb (p := ⟨w.heap.size, 2, none⟩) (v := .int .i64 a) (by simp) (by simp <;> omega)
  have c3 := keep1 hb (p := ⟨w.heap.size + 1, 0, none⟩) (v := .int .i64 s') (by simp) (by simp <;> omega)
  have c4 := keep1 hb (p := ⟨w.heap.size + 1, 1, none⟩) (v := .int .i64 b') (by simp) (by simp <;> omega)
  have c5 := keep1 hb (p := ⟨w.heap.size + 1, 2, none⟩) (v := .int .i64 a') (by simp) (by simp <;> omega)
  have hB := below2 hb
  clear hb
  go_wp2_with (first
    | (go_at_call 10; refine (isUnit_any _ _ _ _).mono ?_; rintro e w' ⟨rfl, rfl⟩)
    | (go_at_call 11; fail))
  refine (hJ _).mono ?_
  rintro e w2 ⟨rfl, hb⟩
  have y := hb.size
  simp only [World.size_alloc] at y
  have y0 : w.heap.size < w2.heap.size := by omega
  have y1 : w.heap.size + 1 < w2.heap.size := by omega
  have e0 := keep1 hb (p := ⟨w.heap.size, 0, none⟩) (v := .int .i64 s) (by rw [World.cell?_alloc_past _ _ _ (by simp <;> omega), World.cell?_alloc_past _ _ _ z0]; exact c0) (by simp <;> omega)
  have e1 := keep1 hb (p := ⟨w.heap.size, 1, none⟩) (v := .int .i64 b) (by rw [World.cell?_alloc_past _ _ _ (by simp <;> omega), World.cell?_alloc_past _ _ _ z0]; exact c1) (by simp <;> omega)
  have e2 := keep1 hb (p := ⟨w.heap.size, 2, none⟩) (v := .int .i64 a) (by rw [World.cell?_alloc_past _ _ _ (by simp <;> omega), World.cell?_alloc_past _ _ _ z0]; exact c2) (by simp <;> omega)
  have e3 := keep1 hb (p := ⟨w.heap.size + 1, 0, none⟩) (v := .int .i64 s') (by rw [World.cell?_alloc_past _ _ _ (by simp <;> omega), World.cell?_alloc_past _ _ _ z1]; exact c3) (by simp <;> omega)
  have e4 := keep1 hb (p := ⟨w.heap.size + 1, 1, none⟩) (v := .int .i64 b') (by rw [World.cell?_alloc_past _ _ _ (by simp <;> omega), World.cell?_alloc_past _ _ _ z1]; exact c4) (by simp <;> omega)
  have e5 := keep1 hb (p := ⟨w.heap.size + 1, 2, none⟩) (v := .int .i64 a') (by rw [World.cell?_alloc_past _ _ _ (by simp <;> omega), World.cell?_alloc_past _ _ _ z1]; exact c5) (by simp <;> omega)
  have hB2 : Below w.heap.size w w2 := ((hB.alloc (by omega) _).alloc (by simp <;> omega) _).trans (hb.mono (by simp only [World.size_alloc]; omega))
  clear hb c0 c1 c2 c3 c4 c5 hB z z0 z1 hJ
  go_wp2
  all_goals
    go_loop [8] (fun v => ∃ x : Int, v = .int .i64 x ∧ 0 ≤ x ∧ x < 128 ∧ (x - s) % a = 0) (fun v => (200 - intOf v).toNat)
    case atStart => exact ⟨s, rfl, s1, hs128, hs0⟩
    case round =>
      obtain ⟨x, rfl, x0, x1, xg⟩ := hrel
      have hn := fun w => next_any (x + b) s' a' w m2 (by omega) (by omega)
      have hf' := hf x xg
      have hfi := far_in (x := x + b) (s := s') m2
      have hog := on_grid m1 xg
      generalize far (x + b) s' a' = F at hn hf' hfi
      go_wp2_with (first
        | (go_at_call 12; refine (hn _).mono ?_; rintro e w' ⟨rfl, rfl⟩)
        | (go_at_call 13; with_reducible refine (hi1 _).mono ?_; rintro e w' ⟨rfl, rfl⟩)
        | (go_at_call 13; with_reducible refine (hi2 _).mono ?_; rintro e w' ⟨rfl, rfl⟩))
      · have hx : x < 64 := by assumption
        have k0 : 0 ≤ x + a := by omega
        have k1 : x + a < 128 := by omega
        go_round
        case rel => exact ⟨x + a, rfl, k0, k1, hog⟩
        case measure => simp [intOf]; omega
      · go_ret
        exact ⟨rfl, hB2.alloc (Nat.le_of_lt y0) _⟩
theorem gap_good (s b a s' b' a' : Int) (w : World) (g1 : good s b a) (g2 : good s' b' a') (hle : b + b' ≤ 524160)
    (hsane : ∀ w, Calls Tryz.prog 9 #[] w fun e w' => e = .returned (.bool true) ∧ Below w.heap.size w w') :
    Calls Tryz.prog 3 #[.agg #[.int .i64 s, .int .i64 b, .int .i64 a], .agg #[.int .i64 s', .int .i64 b', .int .i64 a']] w
      fun e w' => e = .returned (.bool true) ∧ Below w.heap.size w w' := by
  have r1 := al_pos g1.1
  have r2 := al_pos g2.1
  have hg := gp_in g1 g2
  have hj := js_in g1 g2
  have f1 := first_at g1 g2
  have f2 := second_at g1 g2
  have i1 := g1.2.2.1
  exact gap_walk s b a s' b' a' (js s b a s' a') (gp s b a s' a') (ja a a') w (decide_eq_true g1) (decide_eq_true g2) g1.1 g2.1 hle g1.2.2.2 g2.2.2.2 r1 r2 g1.2.1 g1.2.2.1 g2.2.1 g2.2.2.1
    hj.1 hj.2.1 hg.1 (by omega) (by unfold ja; split <;> omega) (by omega) (by simp) (fun x hx => gap_le g1.1 g2.1 hx)
    (fun w => by have := index_any (js s b a s' a' - s) a w g1.1; rw [f1] at this; exact this)
    (fun w => by have := index_any (js s b a s' a' + b + gp s b a s' a' - s') a' w g2.1; rw [f2] at this; exact this)
    (fun w => joinU_any s b a s' b' a' w g1 g2 hle) hsane
set_option maxHeartbeats 1000000 in
/-- where the law asks nothing -/
theorem gap_bad (s b a s' b' a' : Int) (w : World) (t1 t2 : Bool) (d1 : decide (good s b a) = t1) (d2 : decide (good s' b' a') = t2) (hbad : t1 = true → t2 = true → 524160 < b + b' ∧ b + b' < 2000000)
    (hsane : ∀ w, Calls Tryz.prog 9 #[] w fun e w' => e = .returned (.bool true) ∧ Below w.heap.size w w') :
    Calls Tryz.prog 3 #[.agg #[.int .i64 s, .int .i64 b, .int .i64 a], .agg #[.int .i64 s', .int .i64 b', .int .i64 a']] w
      fun e w' => e = .returned (.bool true) ∧ Below w.heap.size w w' := by
  have hI1 : ∀ w, Calls Tryz.prog 10 #[.agg #[.int .i64 s, .int .i64 b, .int .i64 a]] w fun e w' => e = .returned (.bool t1) ∧ w' = w.alloc (.cells #[.int .i64 s, .int .i64 b, .int .i64 a] 23) := fun w => d1 ▸ isUnit_any s b a w
  have hI2 : ∀ w, Calls Tryz.prog 10 #[.agg #[.int .i64 s', .int .i64 b', .int .i64 a']] w fun e w' => e = .returned (.bool t2) ∧ w' = w.alloc (.cells #[.int .i64 s', .int .i64 b', .int .i64 a'] 23) := fun w => d2 ▸ isUnit_any s' b' a' w
  clear d1 d2
  cases t1 <;> cases t2
  all_goals
    simp only [false_implies, true_implies, Bool.false_eq_true, implies_true] at hbad
    go_enter Tryz.func3, Tryz.ntmps3
    go_wp2_with (go_at_call 9; fail)
    refine (hsane _).mono ?_
    rintro e w1 ⟨rfl, hb⟩
    have z := hb.size
    simp only [World.size_alloc] at z
    have z0 : w.heap.size < w1.heap.size := by omega
    have z1 : w.heap.size + 1 < w1.heap.size := by omega
    have c0 := keep1 hb (p := ⟨w.heap.size, 0, none⟩) (v := .int .i64 s) (by simp) (by simp <;> omega)
    have c1 := keep1 hb (p := ⟨w.heap.size, 1, none⟩) (v := .int .i64 b) (by simp) (by simp <;> omega)
    have c2 := keep1 hb (p := ⟨w.heap.size, 2, none⟩) (v := .int .i64 a) (by simp) (by simp <;> omega)
    have c3 := keep1 hb (p := ⟨w.heap.size + 1, 0, none⟩) (v := .int .i64 s') (by simp) (by simp <;> omega)
    have c4 := keep1 hb (p := ⟨w.heap.size + 1, 1, none⟩) (v := .int .i64 b') (by simp) (by simp <;> omega)
    have c5 := keep1 hb (p := ⟨w.heap.size + 1, 2, none⟩) (v := .int .i64 a') (by simp) (by simp <;> omega)
    have hB := below2 hb
    clear hb
    go_wp2_with (first
      | (go_at_call 10; with_reducible refine (hI1 _).mono ?_; rintro e w' ⟨rfl, rfl⟩)
      | (go_at_call 10; with_reducible refine (hI2 _).mono ?_; rintro e w' ⟨rfl, rfl⟩))
    go_ret
    exact ⟨rfl, by first | exact hB.alloc (by omega) _ | exact (hB.alloc (by omega) _).alloc (by simp <;> omega) _⟩
theorem gap_any (s b a s' b' a' : Int) (w : World)
    (hsane : ∀ w, Calls Tryz.prog 9 #[] w fun e w' => e = .returned (.bool true) ∧ Below w.heap.size w w') :
    Calls Tryz.prog 3 #[.agg #[.int .i64 s, .int .i64 b, .int .i64 a], .agg #[.int .i64 s', .int .i64 b', .int .i64 a']] w
      fun e w' => e = .returned (.bool true) ∧ Below w.heap.size w w' := by
  by_cases h : good s b a ∧ good s' b' a' ∧ b + b' ≤ 524160
  · exact gap_good s b a s' b' a' w h.1 h.2.1 h.2.2 hsane
  · refine gap_bad s b a s' b' a' w _ _ rfl rfl (fun e1 e2 => ?_) hsane
    have g1 := of_decide_eq_true e1
    have g2 := of_decide_eq_true e2
    have h1 := g1.2.2.2
    have h2 := g2.2.2.2
    have : ¬ b + b' ≤ 524160 := fun e => h ⟨g1, g2, e⟩
    omega
end Go.Proofs.YtadaoelabimmkaaGreatDoor
