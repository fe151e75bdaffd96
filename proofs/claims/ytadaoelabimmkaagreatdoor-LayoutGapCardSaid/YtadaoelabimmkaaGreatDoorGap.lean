/-
  LAYOUTGAP: for every two units, the law returns true and leaves its arguments as they were. Conditions: the eight listed package variables read as the program's text lays them.
-/
import Derived.Test.YtadaoelabimmkaaGreatDoorCards
import Derived.Test.YtadaoelabimmkaaGreatDoorTie
import Derived.Test.YtadaoelabimmkaaGreatDoorSane
import Derived.Test.YtadaoelabimmkaaGreatDoorGapW4
import Derived.ProofKit
import Derived.OpenShut
import Derived.LaidMore
import Derived.Lay
import Derived.SevenTiedAt
import Derived.Stop.Joined
import Derived.Lib.SmallJoins
namespace Go.Proofs.YtadaoelabimmkaaGreatDoor
open Go.ChangeShapes Go.WideShapes Go.ChangeAt Go.RowKit Go.Joins

theorem gap_own : ownKnob Tryz.prog.godebug = none := by kernel_rfl
theorem gap_cells23 : Tryz.prog.cellsOf 23 = 3 := by kernel_rfl
set_option maxRecDepth 100000 in
theorem gap_lifted (os : Os) (started : os.Started) (H : Type) (enc : TypeId × Value → H) :
    ReturnsInHanded {} Tryz.checked os 3 .any (fun w args => (Rows.layoutGapSpec.pre enc Tryz.prog Tryz.f3 Rows.layoutGapRow.domain false w args ∧ laidMetH Tryz.prog Rows.layoutGapRow.laid w) ∧ sizedMet enc Tryz.prog Tryz.f3 (OpenSpec.ofChange Rows.layoutGapSpec) false w args)
      (Rows.layoutGapSpec.post enc Tryz.prog Tryz.f3 false true false false) := by
  refine returnsInHanded_of_change_and (C := Tryz.checked) (X := fun w _ => laidMetH Tryz.prog Rows.layoutGapRow.laid w) (fun _ _ _ hh h => h.of_heap hh) gap_own started (by kernel_rfl) Tryz.func3
    (ChangeSpec.witness_shaped (enc := enc) (C := Tryz.checked) (os := os) (X := fun w _ => laidMetH Tryz.prog Rows.layoutGapRow.laid w) false (World.laidAll Tryz.prog os Rows.layoutGapRow.laid) #[.agg #[.int .i64 0, .int .i64 0, .int .i64 0], .agg #[.int .i64 0, .int .i64 0, .int .i64 0]] 8 (World.laidAll_os _ _ _)
      (World.shaped_of_ZipB (by kernel_rfl) (by kernel_rfl)) (by kernel_rfl) (by kernel_rfl) (by kernel_rfl)
      (by rw [MakeChecks.laidMetH_plain _ _ _ (by kernel_rfl)]; exact laidMet_laidAll _ (by kernel_rfl) (by kernel_rfl))) ?_
  intro W base args ds gs before hval0 hW hc _ hL _
  have hval : ∀ (j : Nat) t v, Tryz.f3.params[j]? = some t → args[j]? = some v → Value.okWide Tryz.prog W .any base t v := hval0
  have hW' := hW
  obtain ⟨p, q, hA0, hV, rfl, _, _⟩ := hW
  have hA : DataW.TrodAll enc Tryz.prog W 0 (fun _ => true) true Tryz.f3.params.toList args.toList ds p := hA0
  rw [Tryz.params3] at hA hval
  obtain ⟨v0, v1, d0, d1, p0, p1, rfl, rfl, rfl, h0, h1⟩ := trodAll_two hA
  obtain ⟨rfl, rfl⟩ := trodVars_none hV
  obtain ⟨c0, c1, c2, y0, y1, y2, m, rfl, rfl, rfl, hy0, hy1, hy2⟩ := open_agg3 Tryz.underlying23 (by kernel_rfl) gap_cells23 (hval 0 23 v0 rfl rfl) h0
  obtain ⟨k0, k1, k2, z0, z1, z2, m', rfl, rfl, rfl, hz0, hz1, hz2⟩ := open_agg3 Tryz.underlying23 (by kernel_rfl) gap_cells23 (hval 1 23 v1 rfl rfl) h1
  obtain ⟨s, e0, rfl, ws⟩ := DataW.trod_int Tryz.underlying3 hy0
  obtain ⟨b, e1, rfl, wb⟩ := DataW.trod_int Tryz.underlying3 hy1
  obtain ⟨a, e2, rfl, wa⟩ := DataW.trod_int Tryz.underlying3 hy2
  obtain ⟨s', g0, rfl, ws'⟩ := DataW.trod_int Tryz.underlying3 hz0
  obtain ⟨b', g1, rfl, wb'⟩ := DataW.trod_int Tryz.underlying3 hz1
  obtain ⟨a', g2, rfl, wa'⟩ := DataW.trod_int Tryz.underlying3 hz2
  simp at e0 e1 e2 g0 g1 g2
  subst e0 e1 e2 g0 g1 g2
  clear hA0 hval0
  simp only [List.append_nil] at hW'
  have unit : ∀ (x y z : Int), (Lit.int .i64 x).wf = true → (Lit.int .i64 y).wf = true → (Lit.int .i64 z).wf = true → ∀ (W' : World) (sp : Nat → Bool), DataW.Trod enc Tryz.prog W' 0 sp true 23 (.agg #[.int .i64 x, .int .i64 y, .int .i64 z]) (.agg [.lit (.int .i64 x), .lit (.int .i64 y), .lit (.int .i64 z)]) [] := fun x y z wx wy wz W' sp =>
    shut_agg3 (y0 := (.lit (.int .i64 x), [])) (y1 := (.lit (.int .i64 y), [])) (y2 := (.lit (.int .i64 z), [])) Tryz.underlying23 (by kernel_rfl) gap_cells23 ⟨1, by simp [DataW.trod, Tryz.underlying3, wx]⟩ ⟨1, by simp [DataW.trod, Tryz.underlying3, wy]⟩ ⟨1, by simp [DataW.trod, Tryz.underlying3, wz]⟩
  refine (gap_any s b a s' b' a' W sane_any).mono fun e W' ⟨he, hB⟩ => ?_
  subst he
  exact ⟨_, rfl, _, _, _, [], [], [], hW', trodAll_mk1 (shut_bool Tryz.underlying4 _), trodAll_mk2 (unit s b a ws wb wa _ _) (unit s' b' a' ws' wb' wa' _ _), rfl, hB.frame _, fun h => by cases h⟩

theorem gap_row : Rows.LayoutGapSaid :=
  OpenClaim.holds_of_wide 3 Tryz.f3 rfl rfl rfl rfl rfl rfl rfl ⟨rfl, rfl, rfl, rfl, rfl⟩ rfl rfl rfl rfl rfl (by kernel_rfl) Tryz.func3 (by kernel_rfl)
    (of_decide_eq_true (by kernel_rfl)) (by unfold Func.isWrapper; rw [if_neg (of_decide_eq_false (by kernel_rfl))]; exact ⟨rfl, rfl⟩)
    (fun os started H enc _ => gap_lifted os started H enc)
theorem gap_card : Rows.LayoutGapCardSaid :=
  Claim7.holds_tied_plain_at .later [] [.data, .data, .data, .data, .sentinel, .sentinel, .data, .pinned] true (true, "2a73ca2980fb23572ff0a46f2e5e5e64e4adc5533abdaf4a7c0ee98f426d2df6") true
    gap_row (fun _ h => by cases h) (by kernel_rfl) (fun _ h => by cases h) layoutGap_row_tie rfl ⟨rfl, rfl⟩ (by kernel_rfl) rfl
    (fun f fn hf hfn => by
      obtain rfl : f = 3 := Option.some.inj ((show Tryz.prog.funcNamed "pliant/pliantlaw09.LayoutGap" = some 3 by kernel_rfl).symm.trans hf) |>.symm
      obtain rfl : fn = Tryz.f3 := (Option.some.inj (Tryz.func3.symm.trans hfn)).symm
      exact ⟨by kernel_rfl, fun j t ht => by
        rw [Tryz.params3] at ht
        have hm : t ∈ [23, 23] := by simpa using Array.mem_of_getElem? ht
        have hall : ([23, 23].all fun u => !Tryz.prog.wantsStandIn u) = true := by kernel_rfl
        exact (show Tryz.prog.wantsStandIn t = false by simpa using List.all_eq_true.1 hall t hm)⟩)
    (by kernel_rfl)
#print axioms gap_card
end Go.Proofs.YtadaoelabimmkaaGreatDoor
