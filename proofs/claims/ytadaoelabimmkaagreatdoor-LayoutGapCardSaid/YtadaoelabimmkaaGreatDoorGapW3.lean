/-
  LAYOUTGAP, its walks: next returns the first address from x on that is s above a multiple of the alignment, for x below a million.
-/
import Derived.Test.YtadaoelabimmkaaGreatDoorGapW2
namespace Go.Proofs.YtadaoelabimmkaaGreatDoor
open Go.RowKit
/-- how far it is from x on to the next address that is s above a multiple of m -/
def far (x s m : Int) : Int := (s - x) % m
theorem far_in {x s m : Int} (hm : al m) : 0 ≤ far x s m ∧ far x s m < m := by
  have := al_pos hm
  exact ⟨Int.emod_nonneg _ (by omega), Int.emod_lt_of_pos _ (by omega)⟩
theorem far_at {x s m : Int} (hm : al m) {k : Int} (h0 : 0 ≤ k) (h : k ≤ far x s m) : (x + k - s) % m = 0 ↔ k = far x s m := by
  unfold far at *
  rcases hm with rfl | rfl | rfl | rfl | rfl <;> omega
set_option maxHeartbeats 1000000 in
theorem next_any (x s m : Int) (w : World) (hm : al m) (hx : 0 ≤ x ∧ x < 1000000) (hs : 0 ≤ s ∧ s < 100) :
    Calls Tryz.prog 12 #[.int .i64 x, .int .i64 s, .int .i64 m] w fun e w' => e = .returned (.int .i64 (x + far x s m)) ∧ w' = w := by
  have hf := far_in (x := x) (s := s) hm
  have hp := al_pos hm
  go_enter Tryz.func12, Tryz.ntmps12
  go_wp2
  go_loop [0] (fun v => ∃ k : Nat, (k : Int) ≤ far x s m ∧ v = .int .i64 (x + k)) (fun v => (x + 64 - intOf v).toNat)
  case atStart => exact ⟨0, by omega, by simp⟩
  case round =>
    obtain ⟨k, hk, rfl⟩ := hrel
    have ha := far_at hm (x := x) (s := s) (k := k) (by omega) hk
    go_wp2_with (go_at_call 13; refine (index_any _ _ _ hm).mono ?_; rintro e w' ⟨rfl, rfl⟩)
    · have hne : ¬ (x + ↑k - s) % m = 0 := by first | assumption | (intro h; simp_all)
      have hk' : ¬ (k : Int) = far x s m := fun e => hne (ha.2 e)
      go_round
      case rel => exact ⟨k + 1, by omega, by go_num⟩
      case measure => simp [intOf]; omega
    · have he : (x + ↑k - s) % m = 0 := by first | assumption | simp_all
      have hk' : (k : Int) = far x s m := ha.1 he
      go_ret
      rw [← hk']
      exact ⟨rfl, rfl⟩
end Go.Proofs.YtadaoelabimmkaaGreatDoor
