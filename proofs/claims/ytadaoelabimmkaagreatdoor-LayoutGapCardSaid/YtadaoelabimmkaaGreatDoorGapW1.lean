/-
  LAYOUTGAP, its walks: index, mod, and whether a unit is one, in the law's reference and in the layout: each returns what the chapter says, for all integers (an alignment of 1, 8, 16, 32 or 64 where it divides).
-/
import Derived.Test.YtadaoelabimmkaaGreatDoorChecked
import Derived.WalkKit
import Derived.WalkSpells
import Derived.Deep.Light
import Derived.LoopTactic
namespace Go.Proofs.YtadaoelabimmkaaGreatDoor
open Go.RowKit
def al (m : Int) : Prop := m = 1 ∨ m = 8 ∨ m = 16 ∨ m = 32 ∨ m = 64
instance (m : Int) : Decidable (al m) := inferInstanceAs (Decidable (_ ∨ _))
theorem al_pos {m : Int} (h : al m) : 1 ≤ m ∧ m ≤ 64 := by unfold al at h; omega
/-- a unit as the chapter says -/
def good (s b a : Int) : Prop := al a ∧ 0 ≤ s ∧ s < a ∧ 0 ≤ b ∧ b ≤ 524288
instance (s b a : Int) : Decidable (good s b a) := inferInstanceAs (Decidable (_ ∧ _))

theorem dec_good {s b a : Int} {t : Bool} (h : t = true ↔ good s b a) : t = decide (good s b a) := by
  rw [Bool.eq_iff_iff, decide_eq_true_iff]
  exact h

theorem umod {a b : Int} (hb : al b) : wrap64 ((IntKind.u64.wrap a).tmod (IntKind.u64.wrap b)) = a % b := by
  rw [IntKind.wrap_u64, IntKind.wrap_u64, Int.tmod_eq_emod_of_nonneg (Int.emod_nonneg _ (by decide))]
  have hp := al_pos hb
  rw [show b % 18446744073709551616 = b by omega]
  unfold wrap64
  rcases hb with rfl | rfl | rfl | rfl | rfl <;> omega
theorem umod_ne {b : Int} (hb : al b) : ¬ IntKind.u64.wrap b = 0 := by
  rw [IntKind.wrap_u64]
  have hp := al_pos hb
  omega
set_option maxHeartbeats 400000 in
theorem index_any (a b : Int) (w : World) (hb : al b) :
    Calls Tryz.prog 13 #[.int .i64 a, .int .i64 b] w fun e w' => e = .returned (.int .i64 (a % b)) ∧ w' = w := by
  have h0 := umod_ne hb
  go_enter Tryz.func13, Tryz.ntmps13
  go_wp2
  go_ret
  rw [umod hb]
  exact ⟨rfl, rfl⟩

theorem gmod {a m : Int} (hm : al m) : ((a.tmod m) + m).tmod m = a % m := by
  have hp := al_pos hm
  have h1 := Int.tmod_lt_of_pos a (show 0 < m by omega)
  have h2 : -m < a.tmod m := by
    have := Int.neg_tmod (a := a) (b := m)
    have := Int.tmod_lt_of_pos (-a) (show 0 < m by omega)
    omega
  rw [Int.tmod_eq_emod_of_nonneg (by omega), Int.add_emod_right]
  have h3 : a.tmod m = a - m * (a.tdiv m) := by have := Int.mul_tdiv_add_tmod a m; omega
  rw [h3, Int.sub_mul_emod_self_left]
theorem tmod_in {a m : Int} (hm : al m) : -64 < a.tmod m ∧ a.tmod m < 64 := by
  have hp := al_pos hm
  have h1 := Int.tmod_lt_of_pos a (show 0 < m by omega)
  have := Int.neg_tmod (a := a) (b := m)
  have := Int.tmod_lt_of_pos (-a) (show 0 < m by omega)
  omega
set_option maxHeartbeats 400000 in
theorem mod_any (a m : Int) (w : World) (hm : al m) :
    Calls Tryz.prog 94 #[.int .i64 a, .int .i64 m] w fun e w' => e = .returned (.int .i64 (a % m)) ∧ w' = w := by
  have hp := al_pos hm
  have ht := tmod_in (a := a) hm
  have h0 : ¬ m = 0 := by omega
  have hg := gmod (a := a) hm
  go_enter Tryz.func94, Tryz.ntmps94
  go_wp2
  go_ret
  exact ⟨rfl, rfl⟩

set_option maxHeartbeats 1000000 in
theorem isUnit_any (s b a : Int) (w : World) :
    Calls Tryz.prog 10 #[.agg #[.int .i64 s, .int .i64 b, .int .i64 a]] w fun e w' => e = .returned (.bool (decide (good s b a))) ∧ w' = w.alloc (.cells #[.int .i64 s, .int .i64 b, .int .i64 a] 23) := by
  go_enter Tryz.func10, Tryz.ntmps10
  go_wp2
  all_goals
    go_ret
    refine ⟨congrArg (fun t => Ending.returned (.bool t)) (dec_good ?_), by first | rfl | simp [*]⟩
    go_light
    simp only [good, al, decide_eq_true_eq, Bool.false_eq_true, false_iff]
    omega

set_option maxHeartbeats 1000000 in
theorem unitOK_any (s b a : Int) (w : World) :
    Calls Tryz.prog 54 #[.agg #[.int .i64 s, .int .i64 b, .int .i64 a]] w fun e w' => e = .returned (.bool (decide (good s b a))) ∧ w' = w.alloc (.cells #[.int .i64 s, .int .i64 b, .int .i64 a] 23) := by
  go_enter Tryz.func54, Tryz.ntmps54
  go_wp2
  all_goals
    go_ret
    refine ⟨congrArg (fun t => Ending.returned (.bool t)) (dec_good ?_), by first | rfl | simp [*]⟩
    go_light
    simp only [beq_iff_eq, beq_eq_false_iff_ne, ne_eq] at *
    simp only [good, al, decide_eq_true_eq, Bool.false_eq_true, false_iff]
    omega
end Go.Proofs.YtadaoelabimmkaaGreatDoor
