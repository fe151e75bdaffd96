/-
  small of one type, walked.; CheckType, CheckValue, Size, Align of both, as the model's calls.
-/
import Derived.Test.YtadaoelabimmkaaGreatDoorY13
import Derived.Below
import Derived.Deep.RegionHeld3
import Derived.Test.YtadaoelabimmkaaGreatDoorG2
import Derived.Test.YtadaoelabimmkaaGreatDoorY16
import Derived.Test.YtadaoelabimmkaaGreatDoorZ7
set_option linter.all false
namespace Go.Proofs
open Go.RowKit
abbrev tyV (k p q : Int) (v : Bool) (s : ByteArray) : Value := .agg #[.int .i64 k, .int .i64 p, .int .i64 q, .bool v, .string s]
abbrev vaV (n : Int) (s : ByteArray) : Value := .agg #[.int .i64 n, .string s]
set_option maxHeartbeats 1000000 in
theorem small57 (k p q : Int) (v : Bool) (s : ByteArray) (w : World) :
  Calls Tryz.prog 57 #[tyV k p q v s] w fun e w' => e = .returned (.bool (decide (200 < (s.size : Int)))) ∧ Below w.heap.size w w' := by
 go_enter Tryz.func57, Tryz.ntmps57
 go_wp2
 go_ret
 exact ⟨rfl, (Below.refl _ w).alloc (Nat.le_refl _) _⟩
set_option maxHeartbeats 1000000 in
theorem small95 (k p q : Int) (v : Bool) (s : ByteArray) (b : Nat) (w : World) (hb : b < w.heap.size) (h0 : w.cell? ⟨b, 0, none⟩ = some (.int .i64 k)) (h1 : w.cell? ⟨b, 1, none⟩ = some (.int .i64 p)) (h2 : w.cell? ⟨b, 2, none⟩ = some (.int .i64 q)) (h3 : w.cell? ⟨b, 3, none⟩ = some (.bool v)) (h4 : w.cell? ⟨b, 4, none⟩ = some (.string s)) :
  Calls Tryz.prog 95 #[.slice (some ⟨b, 0, none⟩) 1 1, .func (.func 57) #[] #[]] w fun e w' => (e = .returned (.int .i64 (cond (decide (200 < (s.size : Int))) 0 (-1)))) ∧ Below w.heap.size w w' := by
 have hs := fun w => small57 k p q v s w
 generalize decide (200 < (s.size : Int)) = big at hs ⊢
 go_enter Tryz.func95, Tryz.ntmps95
 go_wp2
 go_loopw [8] (fun x wr => (x = .int .i64 0 ∧ wr = w) ∨ (x = .int .i64 1 ∧ big = false ∧ Below w.heap.size w wr)) (fun x _ => (1 - intOf x).toNat)
 case atStart => exact .inl ⟨rfl, rfl⟩
 case round =>
  rcases hrel with ⟨rfl, rfl⟩ | ⟨rfl, rfl, hB⟩
  ·cases big
   ·go_wp2_with (go_at_call 57; refine (hs _).mono ?_; rintro e w' ⟨rfl, hB⟩)
    go_roundw
    case rel => exact .inr ⟨rfl, by first | trivial | rfl, hB⟩
    case measure => simp [intOf]
   ·go_wp2_with (go_at_call 57; refine (hs _).mono ?_; rintro e w' ⟨rfl, hB⟩)
    go_ret
    exact ⟨rfl, hB⟩
  ·go_wp2
   go_ret
   exact ⟨rfl, hB⟩
set_option maxHeartbeats 1000000 in
theorem small14 (k p q : Int) (v : Bool) (s : ByteArray) (b : Nat) (w : World) (hb : b < w.heap.size) (h0 : w.cell? ⟨b, 0, none⟩ = some (.int .i64 k)) (h1 : w.cell? ⟨b, 1, none⟩ = some (.int .i64 p)) (h2 : w.cell? ⟨b, 2, none⟩ = some (.int .i64 q)) (h3 : w.cell? ⟨b, 3, none⟩ = some (.bool v)) (h4 : w.cell? ⟨b, 4, none⟩ = some (.string s)) :
  Calls Tryz.prog 14 #[.slice (some ⟨b, 0, none⟩) 1 1] w fun e w' => e = .returned (.bool (!(decide (200 < (s.size : Int))))) ∧ Below w.heap.size w w' := by
 have hs := small95 k p q v s b w hb h0 h1 h2 h3 h4
 have h56 : Calls Tryz.prog 56 #[.slice (some ⟨b, 0, none⟩) 1 1, .func (.func 57) #[] #[]] w fun e w' => e = .returned (.bool (decide (200 < (s.size : Int)))) ∧ Below w.heap.size w w' := by
  generalize decide (200 < (s.size : Int)) = big at hs ⊢
  go_enter Tryz.func56, Tryz.ntmps56
  go_wp2_with (go_at_call 95; refine hs.mono ?_; rintro e w' ⟨rfl, hB⟩)
  go_ret
  exact ⟨by cases big <;> rfl, hB⟩
 generalize decide (200 < (s.size : Int)) = big at h56 ⊢
 go_enter Tryz.func14, Tryz.ntmps14
 go_wp2_with (go_at_call 56; refine h56.mono ?_; rintro e w' ⟨rfl, hB⟩)
 go_ret
 exact ⟨rfl, hB⟩
end Go.Proofs
namespace Go.Proofs
open Go.RowKit Go.Yec
open Go.Xec (Glob)
def V0 : Unit → List (PV Unit) := fun _ => []
theorem below_of {w w' : World} {e : Ending} {x : Value} (h : e = .returned x ∧ (∀ b, b < w.heap.size → w'.heap[b]? = w.heap[b]?) ∧ w.heap.size ≤ w'.heap.size ∧ w'.os = w.os ∧ w'.output = w.output ∧ w'.tape = w.tape) : e = .returned x ∧ Below w.heap.size w w' :=
 ⟨h.1, h.2.2.2.1, h.2.2.2.2.2, h.2.2.2.2.1, h.2.2.1, h.2.1⟩
variable {k p q n : Int} {v : Bool} {s u : ByteArray}
abbrev tyP {D : Type} (k p q : Int) (v : Bool) (s : ByteArray) : PV D := .agg [.int .i64 k, .int .i64 p, .int .i64 q, .bool v, .str s.data.toList]
abbrev vaP {D : Type} (n : Int) (u : ByteArray) : PV D := .agg [.int .i64 n, .str u.data.toList]
theorem rep_ty {μ : Mu} {H : Xec.Hp} {M : Nat → Prop} : Rep V0 μ H M (.agg [.int .i64 k, .int .i64 p, .int .i64 q, .bool v, .str s.data.toList]) (tyV k p q v s) :=
 .agg _ _ (.cons _ _ _ _ (.int _ _) (.cons _ _ _ _ (.int _ _) (.cons _ _ _ _ (.int _ _) (.cons _ _ _ _ (.bool _) (.cons _ _ _ _ (.str _) .nil)))))
theorem rep_va {μ : Mu} {H : Xec.Hp} {M : Nat → Prop} : Rep V0 μ H M (.agg [.int .i64 n, .str u.data.toList]) (vaV n u) :=
 .agg _ _ (.cons _ _ _ _ (.int _ _) (.cons _ _ _ _ (.str _) .nil))
theorem rep_int {D : Type} {V : D → List (PV D)} {x : Int} {μ : Mu} {H : Xec.Hp} {M : Nat → Prop} {y : Value} (h : Rep V μ H M (.int .i64 x) y) : y = .int .i64 x := h.int_of
theorem c15 (hl : s.data.toList.length ≤ 200) (w : World) (hg : Glob w) : Calls Tryz.prog 15 #[tyV k p q v s] w fun e w' => e = .returned (.int .i64 (cond (tyS k p q v s.data.toList) 0 5)) ∧ Below w.heap.size w w' :=
 (fun_calls (D := Unit) (V := V0) hk_ok bound_mixed bound_names (ent_fun (ent_15_ok hkS_W 1100) (args := [tyP k p q v s]) rfl (ty_own (by omega) (by omega))) (xs := [tyV k p q v s]) (.cons _ _ _ _ rep_ty .nil) rfl (fun _ _ _ _ h => rep_int h) rfl w hg).mono fun _ _ h => below_of h
theorem c16 (hl : s.data.toList.length ≤ 200) (w : World) (hg : Glob w) : Calls Tryz.prog 16 #[tyV k p q v s] w fun e w' => e = .returned (.int .i64 (cond (tyS k p q v s.data.toList) 0 5)) ∧ Below w.heap.size w w' :=
 (fun_calls (D := Unit) (V := V0) hk_ok bound_mixed bound_names (ent_fun (ent_16_ok hkS_W 1100) (args := [tyP k p q v s]) rfl (ty_ref (by omega) (by omega))) (xs := [tyV k p q v s]) (.cons _ _ _ _ rep_ty .nil) rfl (fun _ _ _ _ h => rep_int h) rfl w hg).mono fun _ _ h => below_of h
noncomputable def veS (k p q : Int) (v : Bool) (s : List UInt8) (n : Int) (u : List UInt8) : Int := cond (tyS k p q v s && !(decide (k = 7))) (cond (vaS k p v s n u) 0 6) 5
theorem c17 (hl : s.data.toList.length ≤ 200) (w : World) (hg : Glob w) : Calls Tryz.prog 17 #[tyV k p q v s, vaV n u] w fun e w' => e = .returned (.int .i64 (veS k p q v s.data.toList n u.data.toList)) ∧ Below w.heap.size w w' :=
 (fun_calls (D := Unit) (V := V0) hk_ok bound_mixed bound_names (ent_fun (ent_17_ok hkS_W 1100) (args := [tyP k p q v s, vaP n u]) rfl (va_own (by omega) (by omega))) (xs := [tyV k p q v s, vaV n u]) (.cons _ _ _ _ rep_ty (.cons _ _ _ _ rep_va .nil)) rfl (fun _ _ _ _ h => rep_int h) rfl w hg).mono fun _ _ h => below_of h
theorem c18 (hl : s.data.toList.length ≤ 200) (w : World) (hg : Glob w) : Calls Tryz.prog 18 #[tyV k p q v s, vaV n u] w fun e w' => e = .returned (.int .i64 (veS k p q v s.data.toList n u.data.toList)) ∧ Below w.heap.size w w' :=
 (fun_calls (D := Unit) (V := V0) hk_ok bound_mixed bound_names (ent_fun (ent_18_ok hkS_W 1100) (args := [tyP k p q v s, vaP n u]) rfl (va_ref (by omega) (by omega))) (xs := [tyV k p q v s, vaV n u]) (.cons _ _ _ _ rep_ty (.cons _ _ _ _ rep_va .nil)) rfl (fun _ _ _ _ h => rep_int h) rfl w hg).mono fun _ _ h => below_of h
theorem c19 (hl : s.data.toList.length ≤ 200) (w : World) (hg : Glob w) : Calls Tryz.prog 19 #[tyV k p q v s] w fun e w' => e = .returned (.int .i64 (szS k p q v s.data.toList)) ∧ Below w.heap.size w w' :=
 (fun_calls (D := Unit) (V := V0) hk_ok bound_mixed bound_names (ent_fun (ent_19_ok hkS_W 1100) (args := [tyP k p q v s]) rfl (sz_own (by omega) (by omega))) (xs := [tyV k p q v s]) (.cons _ _ _ _ rep_ty .nil) rfl (fun _ _ _ _ h => rep_int h) rfl w hg).mono fun _ _ h => below_of h
end Go.Proofs
