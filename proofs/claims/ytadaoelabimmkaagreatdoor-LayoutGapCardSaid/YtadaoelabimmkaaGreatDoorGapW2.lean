/-
  LAYOUTGAP, its walks: join and Join return the joined unit and the gap, for two units that are units, of 524160 bits at the most together.
-/
import Derived.Test.YtadaoelabimmkaaGreatDoorGapW1
namespace Go.Proofs.YtadaoelabimmkaaGreatDoor
open Go.RowKit
set_option maxHeartbeats 1000000 in
theorem join_lt (s b a s' b' a' : Int) (w : World) (h1 : good s b a) (h2 : good s' b' a') (hle : a' < a) :
    Calls Tryz.prog 55 #[.agg #[.int .i64 s, .int .i64 b, .int .i64 a], .agg #[.int .i64 s', .int .i64 b', .int .i64 a']] w
      fun e w' => e = .returned (.tuple #[.agg #[.int .i64 s, .int .i64 (b + (s' - s - b) % a' + b'), .int .i64 a], .int .i64 ((s' - s - b) % a')]) ∧ ∃ o1 o2 o3 o4, w' = (((w.alloc o1).alloc o2).alloc o3).alloc o4 := by
  obtain ⟨m1, p1, p2, p3, p4⟩ := h1
  obtain ⟨m2, q1, q2, q3, q4⟩ := h2
  have r1 := al_pos m1
  have r2 := al_pos m2
  have g1 := Int.emod_nonneg (s' - s - b) (show a' ≠ 0 by omega)
  have g2 := Int.emod_lt_of_pos (s' - s - b) (show 0 < a' by omega)
  go_enter Tryz.func55, Tryz.ntmps55
  go_wp2_with (go_at_call 94; refine (mod_any _ _ _ (by assumption)).mono ?_; rintro e w' ⟨rfl, rfl⟩)
  refine bodyPost_ret (v := .tuple #[.agg #[.int .i64 s, .int .i64 (b + (s' - s - b) % a' + b'), .int .i64 a], .int .i64 ((s' - s - b) % a')]) (by simp [results, Tryz.results55, go_sem]) rfl ⟨rfl, _, _, _, _, rfl⟩
set_option maxHeartbeats 1000000 in
theorem join_eq (s b s' b' a : Int) (w : World) (h1 : good s b a) (h2 : good s' b' a) :
    Calls Tryz.prog 55 #[.agg #[.int .i64 s, .int .i64 b, .int .i64 a], .agg #[.int .i64 s', .int .i64 b', .int .i64 a]] w
      fun e w' => e = .returned (.tuple #[.agg #[.int .i64 s, .int .i64 (b + (s' - s - b) % a + b'), .int .i64 a], .int .i64 ((s' - s - b) % a)]) ∧ ∃ o1 o2 o3 o4, w' = (((w.alloc o1).alloc o2).alloc o3).alloc o4 := by
  obtain ⟨m1, p1, p2, p3, p4⟩ := h1
  obtain ⟨m2, q1, q2, q3, q4⟩ := h2
  have r1 := al_pos m1
  have g1 := Int.emod_nonneg (s' - s - b) (show a ≠ 0 by omega)
  have g2 := Int.emod_lt_of_pos (s' - s - b) (show 0 < a by omega)
  go_enter Tryz.func55, Tryz.ntmps55
  go_wp2_with (go_at_call 94; refine (mod_any _ _ _ (by assumption)).mono ?_; rintro e w' ⟨rfl, rfl⟩)
  refine bodyPost_ret (v := .tuple #[.agg #[.int .i64 s, .int .i64 (b + (s' - s - b) % a + b'), .int .i64 a], .int .i64 ((s' - s - b) % a)]) (by simp [results, Tryz.results55, go_sem]) rfl ⟨rfl, _, _, _, _, rfl⟩
set_option maxHeartbeats 1000000 in
theorem join_gt (s b a s' b' a' : Int) (w : World) (h1 : good s b a) (h2 : good s' b' a') (hlt : a < a') :
    Calls Tryz.prog 55 #[.agg #[.int .i64 s, .int .i64 b, .int .i64 a], .agg #[.int .i64 s', .int .i64 b', .int .i64 a']] w
      fun e w' => e = .returned (.tuple #[.agg #[.int .i64 ((s' - (s' - s - b) % a - b) % a'), .int .i64 (b + (s' - s - b) % a + b'), .int .i64 a'], .int .i64 ((s' - s - b) % a)]) ∧ ∃ o1 o2 o3 o4, w' = (((w.alloc o1).alloc o2).alloc o3).alloc o4 := by
  obtain ⟨m1, p1, p2, p3, p4⟩ := h1
  obtain ⟨m2, q1, q2, q3, q4⟩ := h2
  have r1 := al_pos m1
  have r2 := al_pos m2
  have g1 := Int.emod_nonneg (s' - s - b) (show a ≠ 0 by omega)
  have g2 := Int.emod_lt_of_pos (s' - s - b) (show 0 < a by omega)
  go_enter Tryz.func55, Tryz.ntmps55
  go_wp2_with (go_at_call 94; refine (mod_any _ _ _ (by assumption)).mono ?_; rintro e w' ⟨rfl, rfl⟩)
  refine bodyPost_ret (v := .tuple #[.agg #[.int .i64 ((s' - (s' - s - b) % a - b) % a'), .int .i64 (b + (s' - s - b) % a + b'), .int .i64 a'], .int .i64 ((s' - s - b) % a)]) (by simp [results, Tryz.results55, go_sem]) rfl ⟨rfl, _, _, _, _, rfl⟩
/-- the gap, the skip and the alignment of two units, one behind the other -/
def gp (s b a s' a' : Int) : Int := (s' - s - b) % (if a' ≤ a then a' else a)
def js (s b a s' a' : Int) : Int := if a' ≤ a then s else (s' - gp s b a s' a' - b) % a'
def ja (a a' : Int) : Int := if a' ≤ a then a else a'
def joined (s b a s' b' a' : Int) : Value := .agg #[.int .i64 (js s b a s' a'), .int .i64 (b + gp s b a s' a' + b'), .int .i64 (ja a a')]
theorem gp_in {s b a s' b' a' : Int} (h1 : good s b a) (h2 : good s' b' a') : 0 ≤ gp s b a s' a' ∧ gp s b a s' a' < a ∧ gp s b a s' a' < a' := by
  have r1 := al_pos h1.1
  have r2 := al_pos h2.1
  unfold gp
  by_cases h : a' ≤ a
  · rw [if_pos h]
    have := Int.emod_nonneg (s' - s - b) (show a' ≠ 0 by omega)
    have := Int.emod_lt_of_pos (s' - s - b) (show 0 < a' by omega)
    omega
  · rw [if_neg h]
    have := Int.emod_nonneg (s' - s - b) (show a ≠ 0 by omega)
    have := Int.emod_lt_of_pos (s' - s - b) (show 0 < a by omega)
    omega
theorem join_any (s b a s' b' a' : Int) (w : World) (h1 : good s b a) (h2 : good s' b' a') :
    Calls Tryz.prog 55 #[.agg #[.int .i64 s, .int .i64 b, .int .i64 a], .agg #[.int .i64 s', .int .i64 b', .int .i64 a']] w
      fun e w' => e = .returned (.tuple #[joined s b a s' b' a', .int .i64 (gp s b a s' a')]) ∧ ∃ o1 o2 o3 o4, w' = (((w.alloc o1).alloc o2).alloc o3).alloc o4 := by
  unfold joined js ja gp
  rcases Int.lt_trichotomy a' a with h | rfl | h
  · rw [if_pos (by omega), if_pos (by omega), if_pos (by omega)]; exact join_lt s b a s' b' a' w h1 h2 h
  · simp only [Int.le_refl, if_true]; exact join_eq s b s' b' a' w h1 h2
  · rw [if_neg (by omega), if_neg (by omega), if_neg (by omega)]; exact join_gt s b a s' b' a' w h1 h2 h
set_option maxHeartbeats 1000000 in
theorem joinU_any (s b a s' b' a' : Int) (w : World) (h1 : good s b a) (h2 : good s' b' a') (hb : b + b' ≤ 524160) :
    Calls Tryz.prog 11 #[.agg #[.int .i64 s, .int .i64 b, .int .i64 a], .agg #[.int .i64 s', .int .i64 b', .int .i64 a']] w
      fun e w' => e = .returned (.tuple #[joined s b a s' b' a', .int .i64 (gp s b a s' a'), .int .i64 0]) ∧ Below w.heap.size w w' := by
  have hg := gp_in h1 h2
  have r1 := al_pos h1.1
  have hlt : ¬ 524288 < b + gp s b a s' a' + b' := by omega
  have hj := fun w => join_any s b a s' b' a' w h1 h2
  have d1 : decide (good s b a) = true := decide_eq_true h1
  have d2 : decide (good s' b' a') = true := decide_eq_true h2
  unfold joined at hj ⊢
  go_enter Tryz.func11, Tryz.ntmps11
  go_wp2_with (first
    | (go_at_call 54; refine (unitOK_any _ _ _ _).mono ?_; rintro e w' ⟨rfl, rfl⟩)
    | (go_at_call 55; refine (hj _).mono ?_; rintro e w' ⟨rfl, o1, o2, o3, o4, rfl⟩))
  refine bodyPost_ret (v := .tuple #[.agg #[.int .i64 (js s b a s' a'), .int .i64 (b + gp s b a s' a' + b'), .int .i64 (ja a a')], .int .i64 (gp s b a s' a'), .int .i64 0]) (by simp [results, Tryz.results11, go_sem]) rfl ⟨rfl, ?_⟩
  refine Below.alloc ?_ (by simp <;> omega) _
  refine Below.alloc ?_ (by simp <;> omega) _
  refine Below.alloc ?_ (by simp <;> omega) _
  refine Below.alloc ?_ (by simp <;> omega) _
  refine Below.alloc ?_ (by simp <;> omega) _
  refine Below.alloc ?_ (by simp <;> omega) _
  refine Below.alloc ?_ (by simp <;> omega) _
  refine Below.alloc ?_ (by simp <;> omega) _
  refine Below.alloc ?_ (by simp <;> omega) _
  refine Below.alloc ?_ (by simp <;> omega) _
  exact Below.refl _ _
end Go.Proofs.YtadaoelabimmkaaGreatDoor
