/-
  LAYOUTBITS: for every type, value and text (pictures of at most 200 bytes, texts of at most 5000; others are let by), the law returns true and leaves its arguments as they were. Conditions: the eight listed package variables read as the program's text lays them.
-/
import Derived.Test.YtadaoelabimmkaaGreatDoorT1
import Derived.Test.YtadaoelabimmkaaGreatDoorG3
import Derived.Test.YtadaoelabimmkaaGreatDoorZ9
import Derived.ProofKit
import Derived.OpenShut
import Derived.LaidMore
import Derived.Lay
import Derived.SevenTiedAt
import Derived.Stop.Joined
import Derived.Lib.SmallJoins
import Derived.Lib.LaidU8
import Derived.Test.YtadaoelabimmkaaGreatDoorRows
import Derived.Test.YtadaoelabimmkaaGreatDoorY13
import Derived.Test.YtadaoelabimmkaaGreatDoorCards
import Derived.Test.YtadaoelabimmkaaGreatDoorTie
import Derived.ChangeMaps5
set_option linter.all false
namespace Go.Proofs
open Go.RowKit Go.Yec
open Go.Xec (Glob)
variable {k p q n : Int} {v : Bool} {s u b : ByteArray}
noncomputable def encB (k p q : Int) (v : Bool) (s : ByteArray) (n : Int) (u : ByteArray) : ByteArray := ⟨(encR k p q v s.data.toList n u.data.toList).1.toArray⟩
noncomputable def encE (k p q : Int) (v : Bool) (s : ByteArray) (n : Int) (u : ByteArray) : Int := (encR k p q v s.data.toList n u.data.toList).2
theorem rep_enc {D : Type} {V : D → List (PV D)} {r : List UInt8 × Int} {μ : Mu} {H : Xec.Hp} {M : Nat → Prop} {y : Value} (h : Rep V μ H M (.tup [.str r.1, .int .i64 r.2]) y) : y = .tuple #[.string ⟨r.1.toArray⟩, .int .i64 r.2] := by
 cases h with
 | tup _ a h =>
  cases a with | mk l =>
  cases h with
  | cons _ x _ l h1 h2 => cases h2 with
   | cons _ z _ l h2 h3 =>
    cases h3
    obtain ⟨t, e, rfl⟩ := h1.str_of
    obtain rfl := h2.int_of
    rw [← e]
theorem rep_dec {D : Type} {V : D → List (PV D)} {r : (Int × List UInt8) × Int} {μ : Mu} {H : Xec.Hp} {M : Nat → Prop} {y : Value} (h : Rep V μ H M (.tup [.agg [.int .i64 r.1.1, .str r.1.2], .int .i64 r.2]) y) : y = .tuple #[vaV r.1.1 ⟨r.1.2.toArray⟩, .int .i64 r.2] := by
 cases h with
 | tup _ a h =>
  cases a with | mk l =>
  cases h with
  | cons _ x _ l h1 h2 => cases h2 with
   | cons _ z _ l h2 h3 =>
    cases h3
    obtain rfl := h2.int_of
    cases h1 with
    | agg _ a h =>
     cases a with | mk l =>
     cases h with
     | cons _ x _ l h1 h2 => cases h2 with
      | cons _ z _ l h2 h3 =>
       cases h3
       obtain rfl := h1.int_of
       obtain ⟨t, e, rfl⟩ := h2.str_of
       rw [← e]
theorem c23 (hl : s.data.toList.length ≤ 200) (w : World) (hg : Glob w) : Calls Tryz.prog 23 #[tyV k p q v s, vaV n u] w fun e w' => e = .returned (.tuple #[.string (encB k p q v s n u), .int .i64 (encE k p q v s n u)]) ∧ Below w.heap.size w w' :=
 (fun_calls (D := Unit) (V := V0) hk_ok bound_mixed bound_names (ent_fun (ent_23_ok hkS_W 1100) (args := [tyP k p q v s, vaP n u]) rfl (enc_own (by omega) (by omega))) (xs := [tyV k p q v s, vaV n u]) (.cons _ _ _ _ rep_ty (.cons _ _ _ _ rep_va .nil)) rfl (fun _ _ _ _ h => rep_enc h) rfl w hg).mono fun _ _ h => below_of h
theorem c24 (hl : s.data.toList.length ≤ 200) (w : World) (hg : Glob w) : Calls Tryz.prog 24 #[tyV k p q v s, vaV n u] w fun e w' => e = .returned (.tuple #[.string (encB k p q v s n u), .int .i64 (encE k p q v s n u)]) ∧ Below w.heap.size w w' :=
 (fun_calls (D := Unit) (V := V0) hk_ok bound_mixed bound_names (ent_fun (ent_24_ok hkS_W 1100) (args := [tyP k p q v s, vaP n u]) rfl (enc_ref (by omega) (by omega))) (xs := [tyV k p q v s, vaV n u]) (.cons _ _ _ _ rep_ty (.cons _ _ _ _ rep_va .nil)) rfl (fun _ _ _ _ h => rep_enc h) rfl w hg).mono fun _ _ h => below_of h
theorem c25_26 (hl : s.data.toList.length ≤ 200) (hb : b.data.toList.length ≤ 5000) : ∃ (x : Int) (y : ByteArray) (z : Int), (∀ w, Glob w → Calls Tryz.prog 25 #[tyV k p q v s, .string b] w fun e w' => e = .returned (.tuple #[vaV x y, .int .i64 z]) ∧ Below w.heap.size w w') ∧
  (∀ w, Glob w → Calls Tryz.prog 26 #[tyV k p q v s, .string b] w fun e w' => e = .returned (.tuple #[vaV x y, .int .i64 z]) ∧ Below w.heap.size w w') := by
 obtain ⟨r, h1, h2⟩ := dec_both (N := 6100) (k := k) (p := p) (q := q) (v := v) (pic := s.data.toList) (s := b.data.toList) (by omega) hb (by omega)
 exact ⟨r.1.1, ⟨r.1.2.toArray⟩, r.2,
  fun w hg => (fun_calls (D := Unit) (V := V0) hk_ok bound_mixed bound_names (ent_fun (ent_25_ok hkS_W 6100) (args := [tyP k p q v s, .str b.data.toList]) rfl h1) (xs := [tyV k p q v s, .string b]) (.cons _ _ _ _ rep_ty (.cons _ _ _ _ (.str _) .nil)) rfl (fun _ _ _ _ h => rep_dec h) rfl w hg).mono fun _ _ h => below_of h,
  fun w hg => (fun_calls (D := Unit) (V := V0) hk_ok bound_mixed bound_names (ent_fun (ent_26_ok hkS_W 6100) (args := [tyP k p q v s, .str b.data.toList]) rfl h2) (xs := [tyV k p q v s, .string b]) (.cons _ _ _ _ rep_ty (.cons _ _ _ _ (.str _) .nil)) rfl (fun _ _ _ _ h => rep_dec h) rfl w hg).mono fun _ _ h => below_of h⟩
end Go.Proofs
namespace Go.Proofs
open Go.RowKit Go.Yec
open Go.Xec (Glob)
theorem types_keep {w2 w w' : World} {A C : Nat} {v0 v1 v2 v3 v4 u0 u1 : Value} (hA : A < w2.heap.size) (hC : C < w2.heap.size)
  (h : w.cell? ⟨A, 0, none⟩ = some v0 ∧ w.cell? ⟨A, 1, none⟩ = some v1 ∧ w.cell? ⟨A, 2, none⟩ = some v2 ∧ w.cell? ⟨A, 3, none⟩ = some v3 ∧ w.cell? ⟨A, 4, none⟩ = some v4 ∧ w.cell? ⟨C, 0, none⟩ = some u0 ∧ w.cell? ⟨C, 1, none⟩ = some u1 ∧ Below w2.heap.size w2 w) (hb : Below w.heap.size w w') :
  w'.cell? ⟨A, 0, none⟩ = some v0 ∧ w'.cell? ⟨A, 1, none⟩ = some v1 ∧ w'.cell? ⟨A, 2, none⟩ = some v2 ∧ w'.cell? ⟨A, 3, none⟩ = some v3 ∧ w'.cell? ⟨A, 4, none⟩ = some v4 ∧ w'.cell? ⟨C, 0, none⟩ = some u0 ∧ w'.cell? ⟨C, 1, none⟩ = some u1 ∧ Below w2.heap.size w2 w' := by
 obtain ⟨h0, h1, h2, h3, h4, h5, h6, h7⟩ := h
 have hs := h7.size
 exact ⟨(hb.cell (p := ⟨A, 0, none⟩) (by simp only; omega)).trans h0, (hb.cell (p := ⟨A, 1, none⟩) (by simp only; omega)).trans h1, (hb.cell (p := ⟨A, 2, none⟩) (by simp only; omega)).trans h2, (hb.cell (p := ⟨A, 3, none⟩) (by simp only; omega)).trans h3, (hb.cell (p := ⟨A, 4, none⟩) (by simp only; omega)).trans h4, (hb.cell (p := ⟨C, 0, none⟩) (by simp only; omega)).trans h5, (hb.cell (p := ⟨C, 1, none⟩) (by simp only; omega)).trans h6, h7.trans (hb.mono hs)⟩
theorem types_glob {w2 w : World} {A C : Nat} {v0 v1 v2 v3 v4 u0 u1 : Value} (hg : Glob w2)
  (h : w.cell? ⟨A, 0, none⟩ = some v0 ∧ w.cell? ⟨A, 1, none⟩ = some v1 ∧ w.cell? ⟨A, 2, none⟩ = some v2 ∧ w.cell? ⟨A, 3, none⟩ = some v3 ∧ w.cell? ⟨A, 4, none⟩ = some v4 ∧ w.cell? ⟨C, 0, none⟩ = some u0 ∧ w.cell? ⟨C, 1, none⟩ = some u1 ∧ Below w2.heap.size w2 w) : Glob w := glob_below h.2.2.2.2.2.2.2 hg
theorem types_last {w2 w : World} {A C : Nat} {v0 v1 v2 v3 v4 u0 u1 : Value}
  (h : w.cell? ⟨A, 0, none⟩ = some v0 ∧ w.cell? ⟨A, 1, none⟩ = some v1 ∧ w.cell? ⟨A, 2, none⟩ = some v2 ∧ w.cell? ⟨A, 3, none⟩ = some v3 ∧ w.cell? ⟨A, 4, none⟩ = some v4 ∧ w.cell? ⟨C, 0, none⟩ = some u0 ∧ w.cell? ⟨C, 1, none⟩ = some u1 ∧ Below w2.heap.size w2 w) : Below w2.heap.size w2 w := h.2.2.2.2.2.2.2
end Go.Proofs
namespace Go.Proofs
open Go.RowKit Go.Yec
open Go.Xec (Glob)
set_option maxRecDepth 100000 in
set_option maxHeartbeats 4000000 in
theorem bits_any (k p q n : Int) (v : Bool) (s u b : ByteArray) (w : World) (hg : Glob w) :
  Calls Tryz.prog 5 #[tyV k p q v s, vaV n u, .string b] w fun e w' => e = .returned (.bool true) ∧ Below w.heap.size w w' := by
 go_enter Tryz.func5, Tryz.ntmps5
 go_wp2_with (go_at_call 9; fail)
 have hw1 : Below w.heap.size w ((w.alloc (.cells #[.int .i64 k, .int .i64 p, .int .i64 q, .bool v, .string s] 33)).alloc (.cells #[.int .i64 n, .string u] 35)) := ((Below.refl _ w).alloc (Nat.le_refl _) _).alloc (by simp) _
 refine (sane_any _ (glob_below hw1 hg)).mono ?_
 rintro e w1 ⟨rfl, hb⟩
 have hB : Below w.heap.size w w1 := hw1.trans (hb.mono (by simp <;> omega))
 have k0 := (hb.cell (p := ⟨w.heap.size, 0, none⟩) (by simp <;> omega)).trans (show _ = some (.int .i64 k) by simp)
 have k1 := (hb.cell (p := ⟨w.heap.size, 1, none⟩) (by simp <;> omega)).trans (show _ = some (.int .i64 p) by simp)
 have k2 := (hb.cell (p := ⟨w.heap.size, 2, none⟩) (by simp <;> omega)).trans (show _ = some (.int .i64 q) by simp)
 have k3 := (hb.cell (p := ⟨w.heap.size, 3, none⟩) (by simp <;> omega)).trans (show _ = some (.bool v) by simp)
 have k4 := (hb.cell (p := ⟨w.heap.size, 4, none⟩) (by simp <;> omega)).trans (show _ = some (.string s) by simp)
 have j0 := (hb.cell (p := ⟨w.heap.size + 1, 0, none⟩) (by simp <;> omega)).trans (show _ = some (.int .i64 n) by simp)
 have j1 := (hb.cell (p := ⟨w.heap.size + 1, 1, none⟩) (by simp <;> omega)).trans (show _ = some (.string u) by simp)
 have hz : w.heap.size + 2 ≤ w1.heap.size := by have := hb.size; simp at this; omega
 clear hb hw1
 go_wp2_with (go_at_call 14; fail)
 refine (small14 k p q v s w1.heap.size _ (by simp) (by simp) (by simp) (by simp) (by simp) (by simp)).mono ?_
 rintro e w2 ⟨rfl, hb⟩
 have hB2 : Below w.heap.size w w2 := (hB.alloc (by omega) _).trans (hb.mono (by simp <;> omega))
 have m0 := (hb.cell (p := ⟨w.heap.size, 0, none⟩) (by simp <;> omega)).trans ((World.cell?_alloc_past _ _ _ (show w.heap.size < w1.heap.size by omega)).trans k0)
 have m1 := (hb.cell (p := ⟨w.heap.size, 1, none⟩) (by simp <;> omega)).trans ((World.cell?_alloc_past _ _ _ (show w.heap.size < w1.heap.size by omega)).trans k1)
 have m2 := (hb.cell (p := ⟨w.heap.size, 2, none⟩) (by simp <;> omega)).trans ((World.cell?_alloc_past _ _ _ (show w.heap.size < w1.heap.size by omega)).trans k2)
 have m3 := (hb.cell (p := ⟨w.heap.size, 3, none⟩) (by simp <;> omega)).trans ((World.cell?_alloc_past _ _ _ (show w.heap.size < w1.heap.size by omega)).trans k3)
 have m4 := (hb.cell (p := ⟨w.heap.size, 4, none⟩) (by simp <;> omega)).trans ((World.cell?_alloc_past _ _ _ (show w.heap.size < w1.heap.size by omega)).trans k4)
 have i0 := (hb.cell (p := ⟨w.heap.size + 1, 0, none⟩) (by simp <;> omega)).trans ((World.cell?_alloc_past _ _ _ (show w.heap.size + 1 < w1.heap.size by omega)).trans j0)
 have i1 := (hb.cell (p := ⟨w.heap.size + 1, 1, none⟩) (by simp <;> omega)).trans ((World.cell?_alloc_past _ _ _ (show w.heap.size + 1 < w1.heap.size by omega)).trans j1)
 have hz2 : w.heap.size + 2 ≤ w2.heap.size := by have := hb.size; simp at this; omega
 clear hb k0 k1 k2 k3 k4 j0 j1 hB hz
 by_cases hs : 200 < (s.size : Int)
 ·rw [decide_eq_true hs]
  go_wp2
  go_ret
  exact ⟨rfl, hB2⟩
 ·rw [decide_eq_false hs]
  have hl : s.data.toList.length ≤ 200 := by rw [← ba_size]; omega
  clear hs
  by_cases hbz : 5000 < (b.size : Int)
  ·go_wp2
   go_ret
   exact ⟨rfl, hB2⟩
  ·have hbl : b.data.toList.length ≤ 5000 := by rw [← ba_size]; omega
   obtain ⟨x, y, z, d1, d2⟩ := c25_26 (k := k) (p := p) (q := q) (v := v) hl hbl
   have hg2 := glob_below hB2 hg
   have hA2 : w.heap.size < w2.heap.size := by omega
   have hC2 : w.heap.size + 1 < w2.heap.size := by omega
   generalize hea : encB k p q v s n u = ea
   generalize hee : encE k p q v s n u = ee
   have e1 := c23 (k := k) (p := p) (q := q) (v := v) (n := n) (u := u) hl w2 hg2
   rw [hea, hee] at e1
   go_wp2_with (go_at_call 23; fail)
   refine e1.mono ?_
   rintro e w3 ⟨rfl, b3⟩
   have H0 : w2.cell? ⟨w.heap.size, 0, none⟩ = some (.int .i64 k) ∧ w2.cell? ⟨w.heap.size, 1, none⟩ = some (.int .i64 p) ∧ w2.cell? ⟨w.heap.size, 2, none⟩ = some (.int .i64 q) ∧ w2.cell? ⟨w.heap.size, 3, none⟩ = some (.bool v) ∧ w2.cell? ⟨w.heap.size, 4, none⟩ = some (.string s) ∧ w2.cell? ⟨w.heap.size + 1, 0, none⟩ = some (.int .i64 n) ∧ w2.cell? ⟨w.heap.size + 1, 1, none⟩ = some (.string u) ∧ Below w2.heap.size w2 w2 := ⟨m0, m1, m2, m3, m4, i0, i1, Below.refl _ _⟩
   have H3 := types_keep hA2 hC2 H0 b3
   have hg3 := types_glob hg2 H3
   have e2 := c24 (k := k) (p := p) (q := q) (v := v) (n := n) (u := u) hl w3 hg3
   rw [hea, hee] at e2
   clear m0 m1 m2 m3 m4 i0 i1 H0 e1
   obtain ⟨m0, m1, m2, m3, m4, i0, i1, B3⟩ := id H3
   go_wp2_with (go_at_call 24; fail)
   refine e2.mono ?_
   rintro e w4 ⟨rfl, b4⟩
   have H4 := types_keep hA2 hC2 H3 b4
   have hg4 := types_glob hg2 H4
   clear m0 m1 m2 m3 m4 i0 i1 H3 e2 B3
   obtain ⟨m0, m1, m2, m3, m4, i0, i1, B4⟩ := id H4
   go_wp2_with (go_at_call 25; fail)
   refine (d1 w4 hg4).mono ?_
   rintro e w5 ⟨rfl, b5⟩
   have H5 := types_keep hA2 hC2 (types_keep hA2 hC2 H4 b5) ((Below.refl _ w5).alloc (Nat.le_refl _) (.cells #[.int .i64 x, .string y] 35))
   have hg5 := types_glob hg2 H5
   have x0 : (w5.alloc (.cells #[.int .i64 x, .string y] 35)).cell? ⟨w5.heap.size, 0, none⟩ = some (.int .i64 x) := by simp
   have x1 : (w5.alloc (.cells #[.int .i64 x, .string y] 35)).cell? ⟨w5.heap.size, 1, none⟩ = some (.string y) := by simp
   have xz : w5.heap.size < (w5.alloc (.cells #[.int .i64 x, .string y] 35)).heap.size := by simp
   clear m0 m1 m2 m3 m4 i0 i1 H4 B4
   obtain ⟨m0, m1, m2, m3, m4, i0, i1, B5⟩ := id H5
   go_wp2_with (go_at_call 26; fail)
   refine (d2 _ hg5).mono ?_
   rintro e w6 ⟨rfl, b6⟩
   have H6 := types_last (types_keep hA2 hC2 H5 b6)
   have y0 := (b6.cell (p := ⟨w5.heap.size, 0, none⟩) xz).trans x0
   have y1 := (b6.cell (p := ⟨w5.heap.size, 1, none⟩) xz).trans x1
   have yz : w5.heap.size < w6.heap.size := Nat.lt_of_lt_of_le xz b6.size
   clear m0 m1 m2 m3 m4 i0 i1 H5 B5 x0 x1 xz
   go_wp2
   go_ret
   exact ⟨by simp, hB2.trans ((H6.alloc H6.size _).mono hB2.size)⟩
end Go.Proofs
namespace Go.Proofs
open Go.ChangeShapes Go.WideShapes Go.ChangeAt Go.RowKit Go.Joins Go.Deep
section
variable {H : Type} {enc : TypeId × Value → H} {P : Program} {w : World} {base : Nat} {spare : Nat → Bool} {held : Bool}
theorem array5 {α : Type} {cs : Array α} (h : cs.size = 5) : ∃ c0 c1 c2 c3 c4, cs = #[c0, c1, c2, c3, c4] := by
 obtain ⟨l⟩ := cs
 match l, h with
 | [c0, c1, c2, c3, c4], _ => exact ⟨c0, c1, c2, c3, c4, rfl⟩
theorem trod_struct5 {t : TypeId} {f0 f1 f2 f3 f4 : Field} {fuel : Nat} {cs : List Value} {x : DataW H × List MemPlace} (ht : P.underlying t = some (.struct #[f0, f1, f2, f3, f4])) (h : DataW.trod enc P w base spare held fuel t cs = some x) :
  ∃ y0 y1 y2 y3 y4 n, x = (.agg [y0.1, y1.1, y2.1, y3.1, y4.1], y0.2 ++ (y1.2 ++ (y2.2 ++ (y3.2 ++ y4.2)))) ∧ cs.length = P.cellsOf t ∧ DataW.trod enc P w base spare held n f0.type ((cs.drop f0.offset).take (P.cellsOf f0.type)) = some y0 ∧
   DataW.trod enc P w base spare held n f1.type ((cs.drop f1.offset).take (P.cellsOf f1.type)) = some y1 ∧ DataW.trod enc P w base spare held n f2.type ((cs.drop f2.offset).take (P.cellsOf f2.type)) = some y2 ∧
   DataW.trod enc P w base spare held n f3.type ((cs.drop f3.offset).take (P.cellsOf f3.type)) = some y3 ∧ DataW.trod enc P w base spare held n f4.type ((cs.drop f4.offset).take (P.cellsOf f4.type)) = some y4 := by
 obtain ⟨xs, n, _, rfl, hl, hlen, hf⟩ := DataW.trod_struct ht h
 match xs, hlen with
 | [y0, y1, y2, y3, y4], _ => exact ⟨y0, y1, y2, y3, y4, n, by simp, hl, by simpa using hf 0 f0 rfl, by simpa using hf 1 f1 rfl, by simpa using hf 2 f2 rfl, by simpa using hf 3 f3 rfl, by simpa using hf 4 f4 rfl⟩
theorem open_agg5 {r : Reach} {b0 : Nat} {t : TypeId} {f0 f1 f2 f3 f4 : Field} {v : Value} {d : DataW H} {p : List MemPlace} (hs : P.underlying t = some (.struct #[f0, f1, f2, f3, f4])) (hone : oneCellFields P #[f0, f1, f2, f3, f4] = true) (hC : P.cellsOf t = 5)
  (hv : Value.okWide P w r b0 t v) (h : DataW.Trod enc P w base spare held t v d p) :
  ∃ (v0 v1 v2 v3 v4 : Value) (y0 y1 y2 y3 y4 : DataW H × List MemPlace) (n : Nat), v = .agg #[v0, v1, v2, v3, v4] ∧ d = .agg [y0.1, y1.1, y2.1, y3.1, y4.1] ∧ p = y0.2 ++ (y1.2 ++ (y2.2 ++ (y3.2 ++ y4.2))) ∧
   DataW.trod enc P w base spare held n f0.type [v0] = some y0 ∧ DataW.trod enc P w base spare held n f1.type [v1] = some y1 ∧ DataW.trod enc P w base spare held n f2.type [v2] = some y2 ∧ DataW.trod enc P w base spare held n f3.type [v3] = some y3 ∧ DataW.trod enc P w base spare held n f4.type [v4] = some y4 := by
 obtain ⟨cs, rfl, hsz⟩ := okWide_struct hs hv
 obtain ⟨c0, c1, c2, c3, c4, rfl⟩ := array5 (hsz.trans hC)
 obtain ⟨fuel, hf⟩ := h
 obtain ⟨y0, y1, y2, y3, y4, n, hx, _, h0, h1, h2, h3, h4⟩ := trod_struct5 hs hf
 obtain ⟨o0, k0⟩ := hone_of hone 0 f0 rfl
 obtain ⟨o1, k1⟩ := hone_of hone 1 f1 rfl
 obtain ⟨o2, k2⟩ := hone_of hone 2 f2 rfl
 obtain ⟨o3, k3⟩ := hone_of hone 3 f3 rfl
 obtain ⟨o4, k4⟩ := hone_of hone 4 f4 rfl
 simp only [Prod.mk.injEq] at hx
 exact ⟨c0, c1, c2, c3, c4, y0, y1, y2, y3, y4, n, rfl, hx.1, hx.2, by simpa [Value.cells, o0, k0] using h0, by simpa [Value.cells, o1, k1] using h1, by simpa [Value.cells, o2, k2] using h2, by simpa [Value.cells, o3, k3] using h3, by simpa [Value.cells, o4, k4] using h4⟩
theorem shut_agg5 {t : TypeId} {f0 f1 f2 f3 f4 : Field} {v0 v1 v2 v3 v4 : Value} {y0 y1 y2 y3 y4 : DataW H × List MemPlace} (hs : P.underlying t = some (.struct #[f0, f1, f2, f3, f4])) (hone : oneCellFields P #[f0, f1, f2, f3, f4] = true) (hC : P.cellsOf t = 5)
  (t0 : ∃ n, DataW.trod enc P w base spare held n f0.type [v0] = some y0) (t1 : ∃ n, DataW.trod enc P w base spare held n f1.type [v1] = some y1) (t2 : ∃ n, DataW.trod enc P w base spare held n f2.type [v2] = some y2) (t3 : ∃ n, DataW.trod enc P w base spare held n f3.type [v3] = some y3) (t4 : ∃ n, DataW.trod enc P w base spare held n f4.type [v4] = some y4) :
  DataW.Trod enc P w base spare held t (.agg #[v0, v1, v2, v3, v4]) (.agg [y0.1, y1.1, y2.1, y3.1, y4.1]) (y0.2 ++ (y1.2 ++ (y2.2 ++ (y3.2 ++ y4.2)))) := by
 obtain ⟨n0, t0⟩ := t0
 obtain ⟨n1, t1⟩ := t1
 obtain ⟨n2, t2⟩ := t2
 obtain ⟨n3, t3⟩ := t3
 obtain ⟨n4, t4⟩ := t4
 obtain ⟨o0, k0⟩ := hone_of hone 0 f0 rfl
 obtain ⟨o1, k1⟩ := hone_of hone 1 f1 rfl
 obtain ⟨o2, k2⟩ := hone_of hone 2 f2 rfl
 obtain ⟨o3, k3⟩ := hone_of hone 3 f3 rfl
 obtain ⟨o4, k4⟩ := hone_of hone 4 f4 rfl
 have ts := trod_struct_mk (enc := enc) (w := w) (base := base) (spare := spare) (held := held) (n := n0 + n1 + n2 + n3 + n4) (cs := [v0, v1, v2, v3, v4]) (xs := [y0, y1, y2, y3, y4]) hs (by simp [hC])
  (by
   have e0 := DataW.trod_le (show n0 ≤ n0 + n1 + n2 + n3 + n4 by omega) t0
   have e1 := DataW.trod_le (show n1 ≤ n0 + n1 + n2 + n3 + n4 by omega) t1
   have e2 := DataW.trod_le (show n2 ≤ n0 + n1 + n2 + n3 + n4 by omega) t2
   have e3 := DataW.trod_le (show n3 ≤ n0 + n1 + n2 + n3 + n4 by omega) t3
   have e4 := DataW.trod_le (show n4 ≤ n0 + n1 + n2 + n3 + n4 by omega) t4
   simp [o0, k0, o1, k1, o2, k2, o3, k3, o4, k4, e0, e1, e2, e3, e4])
 exact ⟨_, by simpa [Value.cells] using ts⟩
end
section
variable {H : Type} {enc : TypeId × Value → H} {w : World} {base : Nat} {spare : Nat → Bool} {held : Bool}
theorem cells33 : Tryz.prog.cellsOf 33 = 5 := by kernel_rfl
theorem cells35 : Tryz.prog.cellsOf 35 = 2 := by kernel_rfl
def tyD {H : Type} (k p q : Int) (v : Bool) (s : ByteArray) : DataW H := .agg [.lit (.int .i64 k), .lit (.int .i64 p), .lit (.int .i64 q), .lit (.bool v), .lit (.string s.data.toList)]
def vaD {H : Type} (n : Int) (s : ByteArray) : DataW H := .agg [.lit (.int .i64 n), .lit (.string s.data.toList)]
def tyWf (k p q : Int) (s : ByteArray) : Prop := (Lit.int .i64 k).wf = true ∧ (Lit.int .i64 p).wf = true ∧ (Lit.int .i64 q).wf = true ∧ s.size ≤ maxLen
set_option maxRecDepth 100000 in
theorem open_ty {r : Reach} {b0 : Nat} {x : Value} {d : DataW H} {ps : List MemPlace} (hv : Value.okWide Tryz.prog w r b0 33 x) (h : DataW.Trod enc Tryz.prog w base spare held 33 x d ps) : ∃ k p q v s, x = tyV k p q v s ∧ d = tyD k p q v s ∧ ps = [] ∧ tyWf k p q s := by
 obtain ⟨c0, c1, c2, c3, c4, y0, y1, y2, y3, y4, m, rfl, rfl, rfl, h0, h1, h2, h3, h4⟩ := open_agg5 Tryz.underlying33 (by kernel_rfl) cells33 hv h
 obtain ⟨k, e0, rfl, wk⟩ := DataW.trod_int Tryz.underlying3 h0
 obtain ⟨p, e1, rfl, wp⟩ := DataW.trod_int Tryz.underlying3 h1
 obtain ⟨q, e2, rfl, wq⟩ := DataW.trod_int Tryz.underlying3 h2
 obtain ⟨v, e3, rfl⟩ := DataW.trod_bool Tryz.underlying4 h3
 obtain ⟨s, e4, rfl, ws⟩ := DataW.trod_string Tryz.underlying9 h4
 simp at e0 e1 e2 e3 e4
 subst e0 e1 e2 e3 e4
 exact ⟨k, p, q, v, s, rfl, rfl, rfl, wk, wp, wq, ws⟩
set_option maxRecDepth 100000 in
theorem open_va {r : Reach} {b0 : Nat} {x : Value} {d : DataW H} {ps : List MemPlace} (hv : Value.okWide Tryz.prog w r b0 35 x) (h : DataW.Trod enc Tryz.prog w base spare held 35 x d ps) : ∃ n s, x = vaV n s ∧ d = vaD n s ∧ ps = [] ∧ (Lit.int .i64 n).wf = true ∧ s.size ≤ maxLen := by
 obtain ⟨c0, c1, y0, y1, m, rfl, rfl, rfl, h0, h1⟩ := open_agg2 Tryz.underlying35 (by kernel_rfl) cells35 hv h
 obtain ⟨n, e0, rfl, wn⟩ := DataW.trod_int Tryz.underlying3 h0
 obtain ⟨s, e1, rfl, ws⟩ := DataW.trod_string Tryz.underlying9 h1
 simp at e0 e1
 subst e0 e1
 exact ⟨n, s, rfl, rfl, rfl, wn, ws⟩
set_option maxRecDepth 100000 in
theorem shut_ty {k p q : Int} {v : Bool} {s : ByteArray} (h : tyWf k p q s) : DataW.Trod enc Tryz.prog w base spare held 33 (tyV k p q v s) (tyD k p q v s) [] := by
 obtain ⟨wk, wp, wq, ws⟩ := h
 exact shut_agg5 (y0 := (.lit (.int .i64 k), [])) (y1 := (.lit (.int .i64 p), [])) (y2 := (.lit (.int .i64 q), [])) (y3 := (.lit (.bool v), [])) (y4 := (.lit (.string s.data.toList), [])) Tryz.underlying33 (by kernel_rfl) cells33
  ⟨1, by simp [DataW.trod, Tryz.underlying3, wk]⟩ ⟨1, by simp [DataW.trod, Tryz.underlying3, wp]⟩ ⟨1, by simp [DataW.trod, Tryz.underlying3, wq]⟩ ⟨1, by simp [DataW.trod, Tryz.underlying4]⟩ ⟨1, by simp [DataW.trod, Tryz.underlying9, ws]⟩
set_option maxRecDepth 100000 in
theorem shut_va {n : Int} {s : ByteArray} (wn : (Lit.int .i64 n).wf = true) (ws : s.size ≤ maxLen) : DataW.Trod enc Tryz.prog w base spare held 35 (vaV n s) (vaD n s) [] :=
 shut_agg2 (y0 := (.lit (.int .i64 n), [])) (y1 := (.lit (.string s.data.toList), [])) Tryz.underlying35 (by kernel_rfl) cells35 ⟨1, by simp [DataW.trod, Tryz.underlying3, wn]⟩ ⟨1, by simp [DataW.trod, Tryz.underlying9, ws]⟩
end
end Go.Proofs
namespace Go.Proofs.YtadaoelabimmkaaGreatDoor
open Go.RowKit
theorem types_own : ownKnob Tryz.prog.godebug = none := by kernel_rfl
theorem glob_of {W : World} {l : List (String × DataW Unit)} (hL : laidMet Tryz.prog l W) (hm : ("pliant/picture.punched", Rows.laid_pliant_picture_punched) ∈ l) : Xec.Glob W := by
 obtain ⟨g, t, cs, fuel, p, h1, h2, h3, h4⟩ := Lib.laidMet.reads hL hm
 have hg : Tryz.prog.globalNamed "pliant/picture.punched" = some 1 := by kernel_rfl
 have ht : (Tryz.prog.globals[1]?).map (·.type) = some 228 := by kernel_rfl
 have hu : Tryz.prog.underlying 228 = some (.array 20 5) := by kernel_rfl
 have hc : Tryz.prog.cellsOf 228 = 20 := by kernel_rfl
 have hc5 : Tryz.prog.cellsOf 5 = 1 := by kernel_rfl
 obtain rfl := Option.some.inj (hg.symm.trans h1)
 obtain rfl := Option.some.inj (ht.symm.trans h2)
 have hd : (Rows.laid_pliant_picture_punched : DataW Unit) = Lib.tabData .u8 [123, 65, 66, 67, 68, 69, 70, 71, 72, 73, 125, 74, 75, 76, 77, 78, 79, 80, 81, 82] := rfl
 rw [hd] at h4
 have hcs := Lib.cells_of_tab hu Tryz.underlying5 hc5 hc h4
 have hcs2 : cs = punV := Array.ext' hcs
 intro g' cs' e
 have e : cond (Nat.beq g' 1) (some punV) none = some cs' := e
 cases hb : Nat.beq g' 1
 ·rw [hb] at e; cases e
 ·rw [hb] at e
  cases e
  have := Nat.eq_of_beq_eq_true hb
  subst this
  unfold World.var? at h3
  rw [hg] at h3
  simp only [Option.bind_some] at h3
  split at h3
  ·rename_i c t fz hh
   cases h3
   exact ⟨t, fz, by rw [← hcs2]; exact hh⟩
  ·cases h3
end Go.Proofs.YtadaoelabimmkaaGreatDoor
namespace Go.Proofs.YtadaoelabimmkaaGreatDoor
open Go.ChangeShapes Go.WideShapes Go.ChangeAt Go.RowKit Go.Joins Go.Deep
open Go.ChangeMaps (open_string shut_string)
set_option maxRecDepth 100000 in
theorem bits_lifted (os : Os) (started : os.Started) (H : Type) (enc : TypeId × Value → H) :
  ReturnsInHanded {} Tryz.checked os 5 .any (fun w args => (Rows.layoutBitsSpec.pre enc Tryz.prog Tryz.f5 Rows.layoutBitsRow.domain false w args ∧ laidMetH Tryz.prog Rows.layoutBitsRow.laid w) ∧ sizedMet enc Tryz.prog Tryz.f5 (OpenSpec.ofChange Rows.layoutBitsSpec) false w args)
   (Rows.layoutBitsSpec.post enc Tryz.prog Tryz.f5 false true false false) := by
 refine returnsInHanded_of_change_and (C := Tryz.checked) (X := fun w _ => laidMetH Tryz.prog Rows.layoutBitsRow.laid w) (fun _ _ _ hh h => h.of_heap hh) types_own started (by kernel_rfl) Tryz.func5
  (ChangeSpec.witness_shaped (enc := enc) (C := Tryz.checked) (os := os) (X := fun w _ => laidMetH Tryz.prog Rows.layoutBitsRow.laid w) false (World.laidAll Tryz.prog os Rows.layoutBitsRow.laid) #[.agg #[.int .i64 0, .int .i64 0, .int .i64 0, .bool false, .string ⟨#[]⟩], .agg #[.int .i64 0, .string ⟨#[]⟩], .string ⟨#[]⟩] 8 (World.laidAll_os _ _ _)
   (World.shaped_of_ZipB (by kernel_rfl) (by kernel_rfl)) (by kernel_rfl) (by kernel_rfl) (by kernel_rfl)
   (by rw [MakeChecks.laidMetH_plain _ _ _ (by kernel_rfl)]; exact laidMet_laidAll _ (by kernel_rfl) (by kernel_rfl))) ?_
 intro W base args ds gs before hval0 hW hc _ hL _
 have hL2 : laidMetH Tryz.prog Rows.layoutBitsRow.laid W := hL
 rw [MakeChecks.laidMetH_plain _ _ _ (by kernel_rfl)] at hL2
 have hgl : Xec.Glob W := glob_of hL2 (by simp [Rows.layoutBitsRow])
 have hval : ∀ (j : Nat) t v, Tryz.f5.params[j]? = some t → args[j]? = some v → Value.okWide Tryz.prog W .any base t v := hval0
 have hW' := hW
 obtain ⟨p, q, hA0, hV, rfl, _, _⟩ := hW
 have hA : DataW.TrodAll enc Tryz.prog W 0 (fun _ => true) true Tryz.f5.params.toList args.toList ds p := hA0
 rw [Tryz.params5] at hA hval
 obtain ⟨v0, v1, v2, d0, d1, d2, p0, p1, p2, rfl, rfl, rfl, h0, h1, h2⟩ := trodAll_three hA
 obtain ⟨rfl, rfl⟩ := trodVars_none hV
 obtain ⟨k, pp, qq, v, s, rfl, rfl, rfl, hwf⟩ := open_ty (hval 0 33 v0 rfl rfl) h0
 obtain ⟨n, u, rfl, rfl, rfl, wn, wu⟩ := open_va (hval 1 35 v1 rfl rfl) h1
 obtain ⟨b, rfl, rfl, rfl, wb⟩ := open_string Tryz.underlying9 (hval 2 9 v2 rfl rfl) h2
 clear hA0 hval0
 simp only [List.append_nil] at hW'
 refine (bits_any k pp qq n v s u b W hgl).mono fun e W' ⟨he, hB⟩ => ?_
 subst he
 exact ⟨_, rfl, _, _, _, [], [], [], hW', trodAll_mk1 (shut_bool Tryz.underlying4 _), trodAll_mk3 (shut_ty hwf) (shut_va wn wu) (shut_string Tryz.underlying9 wb), rfl, hB.frame _, fun h => by cases h⟩
theorem bits_row : Rows.LayoutBitsSaid :=
 OpenClaim.holds_of_wide 5 Tryz.f5 rfl rfl rfl rfl rfl rfl rfl ⟨rfl, rfl, rfl, rfl, rfl⟩ rfl rfl rfl rfl rfl (by kernel_rfl) Tryz.func5 (by kernel_rfl)
  (of_decide_eq_true (by kernel_rfl)) (by unfold Func.isWrapper; rw [if_neg (of_decide_eq_false (by kernel_rfl))]; exact ⟨rfl, rfl⟩)
  (fun os started H enc _ => bits_lifted os started H enc)
theorem bits_card : Rows.LayoutBitsCardSaid :=
 Claim7.holds_tied_plain_at .later [] [.data, .data, .data, .data, .sentinel, .sentinel, .data, .pinned] true (true, "2a73ca2980fb23572ff0a46f2e5e5e64e4adc5533abdaf4a7c0ee98f426d2df6") true
  bits_row (fun _ h => by cases h) (by kernel_rfl) (fun _ h => by cases h) layoutBits_row_tie rfl ⟨rfl, rfl⟩ (by kernel_rfl) rfl
  (fun f fn hf hfn => by
   obtain rfl : f = 5 := Option.some.inj ((show Tryz.prog.funcNamed "pliant/pliantlaw09.LayoutBits" = some 5 by kernel_rfl).symm.trans hf) |>.symm
   obtain rfl : fn = Tryz.f5 := (Option.some.inj (Tryz.func5.symm.trans hfn)).symm
   exact ⟨by kernel_rfl, fun j t ht => by
    rw [Tryz.params5] at ht
    have hm : t ∈ [33, 35, 9] := by simpa using Array.mem_of_getElem? ht
    have hall : ([33, 35, 9].all fun u => !Tryz.prog.wantsStandIn u) = true := by kernel_rfl
    exact (show Tryz.prog.wantsStandIn t = false by simpa using List.all_eq_true.1 hall t hm)⟩)
  (by kernel_rfl)
end Go.Proofs.YtadaoelabimmkaaGreatDoor
