/-
  PICTURES, PLAIN LEAN: the characters of a number in a field: what both write, place by place.; PICTURES, PLAIN LEAN: the reference writes a field.; PICTURES, PLAIN LEAN: where suppression ends, by the reference.; PICTURES, PLAIN LEAN: digits and numbers; the reference's field.; PICTURES, PLAIN LEAN: the reference's field, whole.
-/
import Derived.Test.YtadaoelabimmkaaGreatDoorZ4
import Derived.Laws.Bits64
import Derived.KernelRfl
set_option linter.all false
namespace Go.Yec
open Go
variable {N : Nat} {o b ds : List UInt8}
def firmC (c d : Int) (m : Bool) : Int := cond (cond (decide (c = 89)) (decide (d = 48)) false) 32 (cond (cond (cond (decide (c = 84)) true (cond (decide (c = 73)) (!m) false)) true (cond (decide (c = 82)) m false)) (hPun1 (IntKind.wrap .i64 (IntKind.wrap .u8 (d - 48))) m) d)
def sgnC (c : Int) (m : Bool) : Int := cond (decide (c = 36)) 36 (cond m (cond (decide (c = 43)) 32 45) (cond (decide (c = 45)) 32 43))
def dg (b : List UInt8) (i : Nat) : Nat := c0 b i + c1 b i
def itS (o ds : List UInt8) (m : Bool) (lead : Int) (i len : Nat) : List Int :=
 cond (decide (i < (bodyS o).length))
  (cond (decide (RR (bodyS o) i = 0)) [firmC (ci (bt o i)) (ci (bt ds (dg (bodyS o) i))) m]
  (cond (decide (RR (bodyS o) i = 1)) [cond (decide ((len : Int) < lead)) (fillB o) (ci (bt ds (dg (bodyS o) i)))]
  (cond (decide (RR (bodyS o) i = 2)) []
  (cond (decide (RR (bodyS o) i = 3)) [cond (decide (bt o i = 66)) 32 (cond (decide ((len : Int) < lead)) (fillB o) (ci (bt o i)))]
   [cond (isD (bodyS o) (bt o i)) 32 (sgnC (ci (bt o i)) m)]))))
  [cond m (ci (bt o i)) 32]
theorem itS_lo {o ds : List UInt8} {m : Bool} {lead : Int} {i len : Nat} (h : i < (bodyS o).length) : itS o ds m lead i len = (cond (decide (RR (bodyS o) i = 0)) [firmC (ci (bt o i)) (ci (bt ds (dg (bodyS o) i))) m]
  (cond (decide (RR (bodyS o) i = 1)) [cond (decide ((len : Int) < lead)) (fillB o) (ci (bt ds (dg (bodyS o) i)))]
  (cond (decide (RR (bodyS o) i = 2)) []
  (cond (decide (RR (bodyS o) i = 3)) [cond (decide (bt o i = 66)) 32 (cond (decide ((len : Int) < lead)) (fillB o) (ci (bt o i)))]
   [cond (isD (bodyS o) (bt o i)) 32 (sgnC (ci (bt o i)) m)])))) := by
 unfold itS; rw [decide_eq_true h, cond_true]
def outS (o ds : List UInt8) (m : Bool) (lead : Int) : Nat → List Int
 | 0 => []
 | i + 1 => outS o ds m lead i ++ itS o ds m lead i (outS o ds m lead i).length
def finS (o ds : List UInt8) (m : Bool) (lead : Int) : List UInt8 :=
 ofInts (cond (decide (Dft (bodyS o) = 0)) (outS o ds m lead o.length) (isetI (outS o ds m lead o.length) (lead - 1) (sgnC (ci (Dft (bodyS o))) m)))
theorem bt_out {i : Nat} (h : b.length ≤ i) : bt b i = 0 := by
 unfold bt; rw [List.getD_eq_getElem?_getD, List.getElem?_eq_none h]; rfl
theorem RR_out {i : Nat} (h : b.length ≤ i) : RR b i = 3 := by
 unfold RR
 rw [bt_out h, isD_no (by decide)]
 rfl
theorem dg_succ (b : List UInt8) (i : Nat) : dg b (i + 1) = dg b i + cond (decide (RR b i = 0) || decide (RR b i = 1)) 1 0 := by
 have x0 : c0 b (i + 1) = c0 b i + cond (decide (RR b i = 0)) 1 0 := rfl
 have x1 : c1 b (i + 1) = c1 b i + cond (decide (RR b i = 1)) 1 0 := rfl
 unfold dg
 rw [x0, x1]
 rcases RR_cases b i with h | h | h | h | h | h <;> rw [h] <;> simp <;> omega
theorem dg_yes {i : Nat} (h : RR b i = 0 ∨ RR b i = 1) : dg b (i + 1) = dg b i + 1 := by
 rw [dg_succ]
 rcases h with h | h <;> rw [h] <;> rfl
theorem dg_no {i : Nat} (h0 : RR b i ≠ 0) (h1 : RR b i ≠ 1) : dg b (i + 1) = dg b i := by
 rw [dg_succ, decide_eq_false h0, decide_eq_false h1]; rfl
theorem dg_mono {i j : Nat} (h : i ≤ j) : dg b i ≤ dg b j := by
 unfold dg
 exact Nat.add_le_add (cnt_mono h) (cnt_mono h)
theorem dg_lt {i : Nat} (hi : i < b.length) (h : RR b i = 0 ∨ RR b i = 1) : dg b i < dg b b.length := by
 have := dg_mono (b := b) (show i + 1 ≤ b.length by omega)
 rw [dg_yes h] at this
 omega
theorem dg_le (b : List UInt8) (i : Nat) : dg b i ≤ i := by have := c_lim b i; unfold dg; omega
theorem dg_out {i : Nat} (h : b.length ≤ i) : dg b i = dg b b.length := by
 induction h with
 | refl => rfl
 | step h ih => rw [Nat.succ_eq_add_one, dg_no (by rw [RR_out h]; decide) (by rw [RR_out h]; decide), ih]
theorem c2_succ (b : List UInt8) (i : Nat) : c2 b (i + 1) = c2 b i + cond (decide (RR b i = 2)) 1 0 := rfl
theorem outS_len (m : Bool) (lead : Int) : ∀ i, (outS o ds m lead i).length + c2 (bodyS o) i = i
 | 0 => rfl
 | i + 1 => by
  have ih := outS_len m lead i
  show (outS o ds m lead i ++ itS o ds m lead i (outS o ds m lead i).length).length + c2 (bodyS o) (i + 1) = _
  rw [List.length_append, c2_succ]
  have e : (itS o ds m lead i (outS o ds m lead i).length).length + cond (decide (RR (bodyS o) i = 2)) 1 0 = 1 := by
   unfold itS
   by_cases hi : i < (bodyS o).length
   ·rw [decide_eq_true hi]
    rcases RR_cases (bodyS o) i with h | h | h | h | h | h <;> rw [h] <;> rfl
   ·rw [decide_eq_false hi, RR_out (by omega)]; rfl
  omega
theorem bt_body {i : Nat} (h : i < (bodyS o).length) : bt (bodyS o) i = bt o i := by
 unfold bodyS at h ⊢
 cases hc : crB o
 ·rfl
 ·rw [hc] at h
  simp only [cond_true, List.length_take] at h ⊢
  exact bt_take (by omega)
def crL : List UInt8 := [67, 82, 68, 66]
theorem cr_at {i : Nat} (h : (bodyS o).length ≤ i) (h2 : i < o.length) : crB o = true ∧ (bodyS o).length = o.length - 2 ∧ crL.elem (bt o i) = true := by
 have hl := body_lt o
 cases hc : crB o
 ·rw [hc, cond_false] at hl; omega
 ·rw [hc, cond_true] at hl
  refine ⟨rfl, by omega, ?_⟩
  unfold crB at hc
  have h2l := crB_len (s := o) (by unfold crB; exact hc)
  rw [decide_eq_true h2l, cond_true, Bool.or_eq_true, decide_eq_true_eq, decide_eq_true_eq] at hc
  have e : bt o i = bt (o.drop (o.length - 2)) (i - (o.length - 2)) := by rw [bt_drop]; congr 1; omega
  have : i - (o.length - 2) = 0 ∨ i - (o.length - 2) = 1 := by omega
  rcases hc with hc | hc <;> rw [e, hc] <;> rcases this with e | e <;> rw [e] <;> rfl
theorem crL_no {c : UInt8} (h : crL.elem c = true) : drL.elem c = false := by
 have : c = 67 ∨ c = 82 ∨ c = 68 ∨ c = 66 := by simpa [crL] using h
 rcases this with e | e | e | e <;> rw [e] <;> rfl
theorem dr_no {c : UInt8} (h : drL.elem c = true) : crL.elem c = false := by
 have : c = 36 ∨ c = 83 ∨ c = 43 ∨ c = 45 := dr_cases h
 rcases this with e | e | e | e <;> rw [e] <;> rfl
def isDig (c : UInt8) : Prop := 48 ≤ ci c ∧ ci c ≤ 57
theorem pun_tab : ∀ (m : Bool) (k : Nat), k < 10 → hPun1 (k : Int) m = ci (bt (cond m [125, 74, 75, 76, 77, 78, 79, 80, 81, 82] [123, 65, 66, 67, 68, 69, 70, 71, 72, 73]) k) := by decide
theorem firm_spec {d : UInt8} (hd : isDig d) (c : Int) (m : Bool) : F_211 N c (ci d) m = some (firmC c (ci d) m) := by
 obtain ⟨h1, h2⟩ := hd
 have e1 : IntKind.wrap .i64 (IntKind.wrap .u8 (ci d - 48)) = ci d - 48 := by rw [w8 (by omega) (by omega), w64 (by omega) (by omega)]
 obtain ⟨k, hk⟩ : ∃ k : Nat, ci d - 48 = (k : Int) := ⟨(ci d - 48).toNat, by omega⟩
 have hk10 : k < 10 := by omega
 have e2 : F_229 N (ci d - 48) m = some (hPun1 (ci d - 48) m, true) := by
  unfold F_229
  rw [hk, decide_eq_false (show ¬ (k : Int) < 0 by omega), decide_eq_false (show ¬ (9 : Int) < (k : Int) by omega), pun_tab m k hk10]
  cases m
  ·simp only [cond_false]
   rw [inB_of (by omega) (by rw [slen_nat]; simp; omega)]; rfl
  ·simp only [cond_false, cond_true]
   rw [inB_of (by omega) (by rw [slen_nat]; simp; omega)]; rfl
 unfold F_211 firmC
 rw [e1, e2]
 simp only [Option.bind_some]
 cases (cond (decide (c = 89)) (decide (ci d = 48)) false)
 ·cases (cond (cond (decide (c = 84)) true (cond (decide (c = 73)) (!m) false)) true (cond (decide (c = 82)) m false)) <;> rfl
 ·rfl
theorem sgn_spec (c : Int) (m : Bool) : F_213 N c m = some (sgnC c m) := by
 unfold F_213 sgnC
 cases decide (c = 36)
 ·cases m
  ·cases decide (c = 45) <;> rfl
  ·cases decide (c = 43) <;> rfl
 ·rfl
theorem static_ref (hN : 1100 ≤ N) (c d : UInt8) (m : Bool) : F_212 N (ci c) (ci d) m = some (cond (decide (d ≠ 0) && decide (c = d)) 32 (cond (crL.elem c) (cond m (ci c) 32) (sgnC (ci c) m))) := by
 unfold F_212
 rw [ci_dec, ci_zero, show ([67, 82, 68, 66] : List UInt8) = crL from rfl, HasL crL (by decide) hN, sgn_spec]
 simp only [Option.bind_some]
 have e : cond (!(decide (d = 0))) (decide (c = d)) false = (decide (d ≠ 0) && decide (c = d)) := by
  by_cases h : d = 0
  ·rw [decide_eq_true h, decide_eq_false (show ¬ d ≠ 0 from fun h2 => h2 h)]; rfl
  ·rw [decide_eq_false h, decide_eq_true h]; rfl
 rw [e]
 cases (decide (d ≠ 0) && decide (c = d))
 ·cases crL.elem c
  ·rfl
  ·cases m <;> rfl
 ·rfl
end Go.Yec
namespace Go.Yec
open Go
variable {N : Nat} {o b ds : List UInt8}
theorem Dft_dr (h : Dft b ≠ 0) : drL.elem (Dft b) = true := by
 have := Dft_some h
 unfold isDr at this
 rw [Bool.and_eq_true] at this
 exact this.1
theorem isD_cr {c : UInt8} (h : crL.elem c = true) : (decide (Dft b ≠ 0) && decide (c = Dft b)) = false := by
 by_cases hd : Dft b = 0
 ·rw [decide_eq_false (fun h2 : Dft b ≠ 0 => h2 hd)]; rfl
 ·rw [decide_eq_false (fun e : c = Dft b => by
   have := Dft_dr hd
   rw [← e, crL_no h] at this; cases this), Bool.and_false]
theorem fld_loop (hol : o.length ≤ 100) (hN : 1100 ≤ N) (hds : dg (bodyS o) (bodyS o).length = ds.length) (hdig : ∀ k, k < ds.length → isDig (bt ds k)) (n lead : Int) :
  iter N (L_180_1 N o n ds lead (fillB o) (mkS o) (ci (Dft (bodyS o)))) ([], 0, 0) =
   (cond (!(decide (ci (Dft (bodyS o)) = (0 : Int)))) (Option.bind (F_213 N (ci (Dft (bodyS o))) (decide (n < 0))) (fun (r10 : Int) => (cond (inB (IntKind.wrap .i64 (lead - (1 : Int))) (ilen (outS o ds (decide (n < 0)) lead o.length))) (some (ofInts (isetI (outS o ds (decide (n < 0)) lead o.length) (IntKind.wrap .i64 (lead - (1 : Int))) r10))) none))) (some (ofInts (outS o ds (decide (n < 0)) lead o.length)))) := by
 have hml : (mkS o).length = o.length := mkS_len o
 refine walk0 (n := o.length) (P := Unit) (fun _ i => (outS o ds (decide (n < 0)) lead i, ((dg (bodyS o) i : Nat) : Int), (i : Int))) (fun _ _ => True) (fun x => x = _) ?_ ?_ () trivial (by omega)
 ·intro again _ _
  unfold L_180_1
  simp only
  rw [decide_eq_false (show ¬ ((o.length : Nat) : Int) < slen (mkS o) by rw [slen_nat]; omega), cond_false]
 ·intro again _ i _ hi hag
  have hg := hag () trivial
  have hlen := outS_len (o := o) (ds := ds) (decide (n < 0)) lead i
  have ho : outS o ds (decide (n < 0)) lead (i + 1) = outS o ds (decide (n < 0)) lead i ++ itS o ds (decide (n < 0)) lead i (outS o ds (decide (n < 0)) lead i).length := rfl
  rw [ho] at hg
  have him : i < (mkS o).length := by omega
  have hdl := dg_le (bodyS o) i
  unfold L_180_1
  simp only [lt_slen him, inB_slen him, inB_slen hi, cond_true, wsucc (i := i) (by omega), apOk_one (show (outS o ds (decide (n < 0)) lead i).length < 137438953472 by omega), wsucc (i := dg (bodyS o) i) (by omega)]
  rw [sget_bt, sget_bt, sget_bt]
  by_cases hin : i < (bodyS o).length
  ·rw [mkS_lo hin]
   rw [itS_lo hin] at hg
   have hc : ∀ h : RR (bodyS o) i = 0 ∨ RR (bodyS o) i = 1, dg (bodyS o) i < ds.length := fun h => by rw [← hds]; exact dg_lt hin h
   rcases RR_cases (bodyS o) i with h | h | h | h | h | h
   ·have hd := hc (.inl h)
    rw [dg_yes (.inl h), h] at hg
    rw [h, show ci (mkR 0) = 100 from rfl, inB_slen hd, firm_spec (hdig _ hd)]
    exact hg
   ·have hd := hc (.inr h)
    rw [dg_yes (.inr h), h] at hg
    rw [h, show ci (mkR 1) = 99 from rfl, inB_slen hd]
    cases hx : decide (ilen (outS o ds (decide (n < 0)) lead i) < lead)
    ·rw [show decide ((((outS o ds (decide (n < 0)) lead i).length : Nat) : Int) < lead) = false from hx] at hg
     exact hg
    ·rw [show decide ((((outS o ds (decide (n < 0)) lead i).length : Nat) : Int) < lead) = true from hx] at hg
     exact hg
   ·rw [dg_no (by rw [h]; decide) (by rw [h]; decide), h] at hg
    rw [h, show ci (mkR 2) = 118 from rfl]
    have hg2 : again (outS o ds (decide (n < 0)) lead i ++ [], ((dg (bodyS o) i : Nat) : Int), ((i + 1 : Nat) : Int)) = _ := hg
    rw [List.append_nil] at hg2
    exact hg2
   ·rw [dg_no (by rw [h]; decide) (by rw [h]; decide), h] at hg
    rw [h, show ci (mkR 3) = 105 from rfl, ci_lit (bt o i) 66 (show (66 : Int) = ci 66 from rfl)]
    cases hx : decide (bt o i = 66)
    ·rw [hx] at hg
     cases hy : decide (ilen (outS o ds (decide (n < 0)) lead i) < lead)
     ·rw [show decide ((((outS o ds (decide (n < 0)) lead i).length : Nat) : Int) < lead) = false from hy] at hg
      exact hg
     ·rw [show decide ((((outS o ds (decide (n < 0)) lead i).length : Nat) : Int) < lead) = true from hy] at hg
      exact hg
    ·rw [hx] at hg; exact hg
   ·have hdr := (RR_45 (.inl h)).1
    rw [bt_body hin] at hdr
    rw [dg_no (by rw [h]; decide) (by rw [h]; decide), h] at hg
    rw [h, show ci (mkR 4) = 115 from rfl, static_ref hN, dr_no hdr]
    exact hg
   ·have hdr := (RR_45 (.inr h)).1
    rw [bt_body hin] at hdr
    rw [dg_no (by rw [h]; decide) (by rw [h]; decide), h] at hg
    rw [h, show ci (mkR 5) = 109 from rfl, static_ref hN, dr_no hdr]
    exact hg
  ·have hb : (bodyS o).length ≤ i := by omega
   obtain ⟨_, _, hcr⟩ := cr_at hb hi
   have h3 := RR_out hb
   have eit : itS o ds (decide (n < 0)) lead i (outS o ds (decide (n < 0)) lead i).length = [cond (decide (n < 0)) (ci (bt o i)) 32] := by
    unfold itS
    rw [decide_eq_false hin, cond_false]
   rw [eit, dg_no (by rw [h3]; decide) (by rw [h3]; decide)] at hg
   rw [mkS_hi hb hi, show ci 115 = 115 from rfl, static_ref hN, isD_cr hcr, hcr]
   exact hg
theorem fld_fin {lead : Int} (hW : Dft (bodyS o) ≠ 0 → 1 ≤ lead ∧ lead ≤ ((o.length - c2 (bodyS o) o.length : Nat) : Int)) (hl2 : lead ≤ 1000) (m : Bool) :
  (cond (!(decide (ci (Dft (bodyS o)) = (0 : Int)))) (Option.bind (F_213 N (ci (Dft (bodyS o))) m) (fun (r10 : Int) => (cond (inB (IntKind.wrap .i64 (lead - (1 : Int))) (ilen (outS o ds m lead o.length))) (some (ofInts (isetI (outS o ds m lead o.length) (IntKind.wrap .i64 (lead - (1 : Int))) r10))) none))) (some (ofInts (outS o ds m lead o.length)))) = some (finS o ds m lead) := by
 rw [ci_zero, sgn_spec]
 unfold finS
 have hlen := outS_len (o := o) (ds := ds) m lead o.length
 by_cases hd : Dft (bodyS o) = 0
 ·rw [decide_eq_true hd]; rfl
 ·obtain ⟨h1, h2⟩ := hW hd
  rw [decide_eq_false hd, w64 (by omega) (by omega)]
  simp only [Bool.not_false, cond_true, cond_false, Option.bind_some]
  rw [inB_of (by omega) (by rw [ilen_nat]; omega)]; rfl
end Go.Yec
namespace Go.Yec
open Go
variable {N : Nat} {o b ds : List UInt8}
def zr (ds : List UInt8) : Bool := ds.all fun c => ([48] : List UInt8).elem c
def PB (b ds : List UInt8) : Bool := decide (0 < c0 b b.length) || !(zr ds)
def stp (b ds : List UInt8) (i : Nat) : Bool := (decide (RR b i = 0) || (decide (RR b i = 1) && !(decide (bt ds (dg b i) = 48)))) || (decide (RR b i = 2) && PB b ds)
def ldS (b ds : List UInt8) : Int := match (List.range b.length).find? (stp b ds) with
 | some i => (i : Int)
 | none => -1
theorem find_hit {p : Nat → Bool} {n i : Nat} (hi : i < n) (hp : p i = true) (hn : ∀ j, j < i → p j = false) : (List.range n).find? p = some i := by
 rw [List.find?_range_eq_some]
 exact ⟨hp, List.mem_range.2 hi, fun j hj => by rw [hn j hj]; rfl⟩
theorem find_no {p : Nat → Bool} {n : Nat} (hn : ∀ j, j < n → p j = false) : (List.range n).find? p = none := by
 rw [List.find?_range_eq_none]
 exact fun j hj => by rw [hn j hj]; rfl
theorem ldS_hit {i : Nat} (hi : i < b.length) (hp : stp b ds i = true) (hn : ∀ j, j < i → stp b ds j = false) : ldS b ds = (i : Int) := by
 unfold ldS; rw [find_hit hi hp hn]
theorem zr_iff : zr ds = true ↔ ∀ k, k < ds.length → bt ds k = 48 := by
 unfold zr
 rw [all_bt]
 constructor
 ·intro h k hk; have := h k hk; simpa using this
 ·intro h k hk; rw [h k hk]; rfl
theorem zr_rep : decide (ds = List.replicate ds.length 48) = zr ds := by
 cases h : zr ds
 ·refine decide_eq_false fun e => ?_
  have : zr ds = true := by
   rw [zr_iff]
   intro k hk
   rw [e] at hk ⊢
   simp at hk
   rw [bt_getElem (by simpa using hk)]
   simp
  rw [h] at this; cases this
 ·refine decide_eq_true ?_
  rw [zr_iff] at h
  refine List.ext_getElem (by simp) fun k h1 h2 => ?_
  have := h k h1
  rw [bt_getElem h1] at this
  rw [this]; simp
theorem dg_hit {k : Nat} : ∀ {n : Nat}, k < dg b n → ∃ i, i < n ∧ (RR b i = 0 ∨ RR b i = 1) ∧ dg b i = k
 | 0, h => by exact absurd h (Nat.not_lt_zero k)
 | n + 1, h => by
  by_cases hr : RR b n = 0 ∨ RR b n = 1
  ·rw [dg_yes hr] at h
   by_cases hk : k < dg b n
   ·obtain ⟨i, h1, h2⟩ := dg_hit hk; exact ⟨i, by omega, h2⟩
   ·exact ⟨n, by omega, hr, by omega⟩
  ·rw [dg_no (fun e => hr (.inl e)) (fun e => hr (.inr e))] at h
   obtain ⟨i, h1, h2⟩ := dg_hit h; exact ⟨i, by omega, h2⟩
theorem stop_ex (hds : dg b b.length = ds.length) (hP : PB b ds = true) : ∃ i, i < b.length ∧ stp b ds i = true := by
 unfold PB at hP
 by_cases h0 : 0 < c0 b b.length
 ·have : ¬ ∀ i, i < b.length → (fun i => decide (RR b i = 0)) i = false := fun h => by
   have := cnt_zero.2 h
   have e : c0 b b.length = 0 := this
   omega
  apply Classical.byContradiction
  intro hn
  apply this
  intro i hi
  cases hx : decide (RR b i = 0)
  ·exact hx
  ·exact absurd ⟨i, hi, by unfold stp; rw [hx]; rfl⟩ hn
 ·rw [decide_eq_false h0, Bool.false_or] at hP
  have hz : ¬ ∀ k, k < ds.length → bt ds k = 48 := fun h => by
   rw [zr_iff.2 h] at hP; cases hP
  apply Classical.byContradiction
  intro hn
  apply hz
  intro k hk
  rw [← hds] at hk
  obtain ⟨i, h1, h2, h3⟩ := dg_hit hk
  apply Classical.byContradiction
  intro hne
  apply hn
  refine ⟨i, h1, ?_⟩
  unfold stp
  rcases h2 with h2 | h2
  ·rw [h2]; rfl
  ·rw [h2, h3, decide_eq_false hne]; rfl
theorem mk_elem (r : Int) (hr : mkR r ≠ 115) : (mkS o).elem (mkR r) = true ↔ ∃ i, i < (bodyS o).length ∧ mkR (RR (bodyS o) i) = mkR r := by
 rw [elem_iff, mem_bt]
 constructor
 ·rintro ⟨i, h1, h2⟩
  rw [mkS_len] at h1
  by_cases hi : i < (bodyS o).length
  ·rw [mkS_lo hi] at h2; exact ⟨i, hi, h2⟩
  ·rw [mkS_hi (by omega) h1] at h2; exact absurd h2.symm hr
 ·rintro ⟨i, h1, h2⟩
  have := body_lt o
  exact ⟨i, by rw [mkS_len]; omega, by rw [mkS_lo h1]; exact h2⟩
theorem mk_99 : (mkS o).elem 99 = !(decide (c1 (bodyS o) (bodyS o).length = 0)) := by
 have h := mk_elem (o := o) 1 (by decide)
 rw [show mkR 1 = 99 from rfl] at h
 by_cases hz : c1 (bodyS o) (bodyS o).length = 0
 ·rw [decide_eq_true hz]
  cases hx : (mkS o).elem 99
  ·rfl
  ·obtain ⟨i, h1, h2⟩ := h.1 hx
   have : decide (RR (bodyS o) i = 1) = false := cnt_zero.1 hz i h1
   rcases RR_cases (bodyS o) i with e | e | e | e | e | e <;> rw [e] at h2 this <;> revert h2 this <;> decide
 ·rw [decide_eq_false hz]
  refine h.2 ?_
  apply Classical.byContradiction
  intro hn
  apply hz
  refine cnt_zero.2 fun i hi => ?_
  cases hx : decide (RR (bodyS o) i = 1)
  ·rfl
  ·exact absurd ⟨i, hi, by rw [of_decide_eq_true hx]; rfl⟩ hn
theorem mk_100 : (mkS o).elem 100 = decide (0 < c0 (bodyS o) (bodyS o).length) := by
 have h := mk_elem (o := o) 0 (by decide)
 rw [show mkR 0 = 100 from rfl] at h
 by_cases hz : c0 (bodyS o) (bodyS o).length = 0
 ·rw [decide_eq_false (show ¬ 0 < c0 (bodyS o) (bodyS o).length by omega)]
  cases hx : (mkS o).elem 100
  ·rfl
  ·obtain ⟨i, h1, h2⟩ := h.1 hx
   have : decide (RR (bodyS o) i = 0) = false := cnt_zero.1 hz i h1
   rcases RR_cases (bodyS o) i with e | e | e | e | e | e <;> rw [e] at h2 this <;> revert h2 this <;> decide
 ·rw [decide_eq_true (show 0 < c0 (bodyS o) (bodyS o).length by omega)]
  refine h.2 ?_
  apply Classical.byContradiction
  intro hn
  apply hz
  refine cnt_zero.2 fun i hi => ?_
  cases hx : decide (RR (bodyS o) i = 0)
  ·rfl
  ·exact absurd ⟨i, hi, by rw [of_decide_eq_true hx]; rfl⟩ hn
theorem end_loop (hol : o.length ≤ 100) (hN : 1100 ≤ N) (hds : dg (bodyS o) (bodyS o).length = ds.length) (hP : PB (bodyS o) ds = true) :
  iter N (L_209_1 N ds (mkS o)) (0, 0, 0) = some (ldS (bodyS o) ds) := by
 have hml : (mkS o).length = o.length := mkS_len o
 obtain ⟨e, he1, he2⟩ := stop_ex hds hP
 have hbl := body_lt o
 refine walk0 (n := o.length) (P := Unit) (fun _ i => ((i : Int), ((dg (bodyS o) i : Nat) : Int), (i : Int))) (fun _ i => ∀ j, j < i → stp (bodyS o) ds j = false) (fun x => x = _) ?_ ?_ () (fun j h => absurd h (Nat.not_lt_zero j)) (by omega)
 ·intro again _ hno
  have := hno e (by omega)
  rw [he2] at this; cases this
 ·intro again _ i hno hi hag
  have hin : i < (bodyS o).length := by
   apply Classical.byContradiction
   intro hn
   have := hno e (by omega)
   rw [he2] at this; cases this
  have him : i < (mkS o).length := by omega
  have hdl := dg_le (bodyS o) i
  have hc : ∀ h : RR (bodyS o) i = 0 ∨ RR (bodyS o) i = 1, dg (bodyS o) i < ds.length := fun h => by rw [← hds]; exact dg_lt hin h
  have hit : stp (bodyS o) ds i = true → some ((i : Int)) = some (ldS (bodyS o) ds) := fun hs => by rw [ldS_hit hin hs hno]
  have nx : stp (bodyS o) ds i = false → again (((i + 1 : Nat) : Int), ((dg (bodyS o) (i + 1) : Nat) : Int), ((i + 1 : Nat) : Int)) = some (ldS (bodyS o) ds) := fun hs => hag () fun j hj => by
   by_cases e : j = i
   ·rw [e]; exact hs
   ·exact hno j (by omega)
  unfold L_209_1
  simp only [lt_slen him, inB_slen him, cond_true, wsucc (i := i) (by omega), wsucc (i := dg (bodyS o) i) (by omega)]
  rw [sget_bt, sget_bt, mkS_lo hin]
  unfold stp at hit nx
  rcases RR_cases (bodyS o) i with h | h | h | h | h | h
  ·rw [h] at hit ⊢; exact hit rfl
  ·have hd := hc (.inr h)
   rw [dg_yes (.inr h)] at nx
   rw [h] at hit nx ⊢
   rw [show ci (mkR 1) = 99 from rfl, inB_slen hd, ci_lit (bt ds (dg (bodyS o) i)) 48 (show (48 : Int) = ci 48 from rfl)]
   cases hx : decide (bt ds (dg (bodyS o) i) = 48)
   ·rw [hx] at hit; exact hit rfl
   ·rw [hx] at nx; exact nx rfl
  ·rw [h, hP] at hit
   rw [h]
   exact hit rfl
  ·rw [dg_no (by rw [h]; decide) (by rw [h]; decide)] at nx
   rw [h] at nx ⊢
   exact nx rfl
  ·rw [dg_no (by rw [h]; decide) (by rw [h]; decide)] at nx
   rw [h] at nx ⊢
   exact nx rfl
  ·rw [dg_no (by rw [h]; decide) (by rw [h]; decide)] at nx
   rw [h] at nx ⊢
   exact nx rfl
theorem end_ref (hol : o.length ≤ 100) (hN : 1100 ≤ N) (hds : dg (bodyS o) (bodyS o).length = ds.length) (w sc : Int) (sg : Bool) :
  F_209 N o true w (ds.length : Int) sc sg ds = some (cond (decide (c1 (bodyS o) (bodyS o).length = 0)) 0 (cond (PB (bodyS o) ds) (ldS (bodyS o) ds) w)) := by
 have hdl : ds.length ≤ 100 := by
  have h1 := dg_le (bodyS o) (bodyS o).length
  have h2 := body_lt o
  omega
 unfold F_209
 rw [marks_spec (by omega) hN]
 simp only [Option.bind_some]
 rw [HasC (s := mkS o) (by rw [mkS_len]; omega) hN 99 (n := 99) rfl, HasC (s := mkS o) (by rw [mkS_len]; omega) hN 100 (n := 100) rfl, mk_99, mk_100, show (48 : Int) = ci 48 from rfl, Many_spec N 48 (by omega) (by omega) (by omega)]
 simp only [Option.bind_some, Bool.not_not]
 cases hc : decide (c1 (bodyS o) (bodyS o).length = 0)
 ·rw [cond_false, cond_false]
  cases h0 : decide (0 < c0 (bodyS o) (bodyS o).length)
  ·simp only [Bool.not_false, cond_true, Option.bind_some]
   rw [Int.toNat_natCast, zr_rep]
   cases hz : zr ds
   ·have hP : PB (bodyS o) ds = true := by unfold PB; rw [h0, hz]; rfl
    rw [cond_false, end_loop hol hN hds hP, hP]; rfl
   ·have hP : PB (bodyS o) ds = false := by unfold PB; rw [h0, hz]; rfl
    rw [hP]; rfl
  ·have hP : PB (bodyS o) ds = true := by unfold PB; rw [h0]; rfl
   simp only [Bool.not_true, cond_false, Option.bind_some]
   rw [end_loop hol hN hds hP, hP]; rfl
 ·rfl
end Go.Yec
namespace Go.Yec
open Go
variable {N : Nat} {o b ds s : List UInt8}
def dv (ds : List UInt8) : Nat := ds.foldl (fun a c => a * 10 + (c.toNat - 48)) 0
theorem dv_app (ds : List UInt8) (c : UInt8) : dv (ds ++ [c]) = dv ds * 10 + (c.toNat - 48) := by unfold dv; rw [List.foldl_append]; rfl
theorem dv_take {k : Nat} (h : k < ds.length) : dv (ds.take (k + 1)) = dv (ds.take k) * 10 + ((bt ds k).toNat - 48) := by
 rw [List.take_succ_eq_append_getElem h, dv_app, bt_getElem h]
theorem dv_lt (h : ∀ k, k < ds.length → isDig (bt ds k)) : ∀ k, k ≤ ds.length → dv (ds.take k) < 10 ^ k
 | 0, _ => by simp [dv]
 | k + 1, hk => by
  have ih := dv_lt h k (by omega)
  have hd := h k (by omega)
  unfold isDig ci at hd
  rw [dv_take (by omega), Nat.pow_succ]
  omega
theorem repI_rep : ∀ n, repI n = List.replicate n 0
 | 0 => rfl
 | n + 1 => by show (0 : Int) :: repI n = _; rw [repI_rep n]; rfl
theorem digits_loop (hl : ds.length ≤ 18) (hdig : ∀ k, k < ds.length → isDig (bt ds k)) : ∀ (k M : Nat), k ≤ ds.length → k + 1 ≤ M →
  iter M (L_208_1 N) (((dv (ds.take k) : Nat) : Int), (k : Int) - 1, List.replicate k 0 ++ toInts (ds.drop k)) = some ds
 | 0, M, _, hM => by
  obtain ⟨M, rfl, _⟩ := iter_ge hM
  rw [iter_succ]
  unfold L_208_1
  simp only
  rw [decide_eq_false (show ¬ (0 : Int) ≤ ((0 : Nat) : Int) - 1 by omega), cond_false]
  simp only [List.replicate_zero, List.nil_append, List.drop_zero]
  rw [ofInts_toInts]
 | k + 1, M, hk, hM => by
  obtain ⟨M, rfl, hM2⟩ := iter_ge hM
  have ih := digits_loop hl hdig k M (by omega) (by omega)
  have hd := hdig k (by omega)
  unfold isDig ci at hd
  have hlt := dv_lt hdig (k + 1) hk
  have hp : 10 ^ (k + 1) ≤ 10 ^ 18 := Nat.pow_le_pow_right (by omega) (by omega)
  rw [dv_take (by omega)] at hlt ⊢
  rw [iter_succ]
  unfold L_208_1
  simp only
  have e0 : ((k + 1 : Nat) : Int) - 1 = (k : Int) := by omega
  generalize hv : dv (ds.take k) = v at ih hlt ⊢
  generalize hc : (bt ds k).toNat = c at hd hlt ⊢
  have e1 : IntKind.wrap .u64 (Int.tdiv (((v * 10 + (c - 48) : Nat) : Int)) 10) = (v : Int) := by
   rw [IntKind.wrap_u64, Int.tdiv_eq_ediv_of_nonneg (by omega)]
   omega
  have e2 : IntKind.wrap .u8 (IntKind.wrap .u64 (48 + Int.tmod (((v * 10 + (c - 48) : Nat) : Int)) 10)) = (c : Int) := by
   rw [IntKind.wrap_u64, Int.tmod_eq_emod_of_nonneg (by omega), IntKind.wrap_u8]
   omega
  rw [e0, decide_eq_true (show (0 : Int) ≤ (k : Int) by omega), cond_true, inB_of (by omega) (by rw [ilen_nat]; simp; omega), cond_true, e1, e2, w64 (n := (k : Int) - 1) (by omega) (by omega)]
  have e3 : isetI (List.replicate (k + 1) 0 ++ toInts (ds.drop (k + 1))) (k : Int) (c : Int) = List.replicate k 0 ++ toInts (ds.drop k) := by
   unfold isetI
   rw [Int.toNat_natCast, List.replicate_succ', List.append_assoc, List.set_append_right _ _ (by simp), List.length_replicate, Nat.sub_self]
   have : ds.drop k = bt ds k :: ds.drop (k + 1) := by rw [bt_getElem (by omega)]; exact List.drop_eq_getElem_cons (by omega)
   rw [this]
   show _ ++ ((c : Int) :: toInts (ds.drop (k + 1))) = _ ++ (((bt ds k).toNat : Int) :: toInts (ds.drop (k + 1)))
   rw [hc]
  rw [e3]
  exact ih
theorem digits_spec (hl : ds.length ≤ 18) (hN : 1100 ≤ N) (hdig : ∀ k, k < ds.length → isDig (bt ds k)) {n : Int} (hn : n = ((dv ds : Nat) : Int) ∨ n = -((dv ds : Nat) : Int)) : F_208 N n (ds.length : Int) = some ds := by
 have hlt := dv_lt hdig ds.length (Nat.le_refl _)
 rw [List.take_length] at hlt
 have hp : 10 ^ ds.length ≤ 10 ^ 18 := Nat.pow_le_pow_right (by omega) hl
 have hm : F_228 N n = some ((dv ds : Nat) : Int) := by
  unfold F_228
  cases hx : decide (n < 0)
  ·have := of_decide_eq_false hx
   rw [cond_false, IntKind.wrap_u64]
   congr 1; omega
  ·have := of_decide_eq_true hx
   rw [cond_true, w64 (n := n + 1) (by omega) (by omega), w64 (by omega) (by omega), IntKind.wrap_u64, IntKind.wrap_u64]
   congr 1; omega
 unfold F_208
 rw [hm]
 simp only [Option.bind_some]
 rw [decide_eq_true (show 0 ≤ ((ds.length : Nat) : Int) ∧ ((ds.length : Nat) : Int) ≤ 1000000 by omega), cond_true, w64 (by omega) (by omega), Int.toNat_natCast, repI_rep]
 have := digits_loop (N := N) hl hdig ds.length N (Nat.le_refl _) (by omega)
 rw [List.take_length, List.drop_length] at this
 simpa [toInts] using this
def LD (b ds : List UInt8) : Int := cond (decide (c1 b b.length = 0)) 0 (ldS b ds)
def fldS (o ds : List UInt8) (m : Bool) : List UInt8 := cond (!(decide (c1 (bodyS o) (bodyS o).length = 0)) && !(PB (bodyS o) ds)) (List.replicate (o.length - c2 (bodyS o) o.length) (fillB o).toNat.toUInt8) (finS o ds m (LD (bodyS o) ds))
theorem elem_body {c : UInt8} (hc : crL.elem c = false) : o.elem c = (bodyS o).elem c := by
 cases h : (bodyS o).elem c
 ·cases h2 : o.elem c
  ·rfl
  ·obtain ⟨i, h3, h4⟩ := mem_bt.1 (elem_iff.1 h2)
   by_cases hi : i < (bodyS o).length
   ·have : (bodyS o).elem c = true := elem_iff.2 (mem_bt.2 ⟨i, hi, by rw [bt_body hi]; exact h4⟩)
    rw [h] at this; cases this
   ·have := (cr_at (by omega) h3).2.2
    rw [h4, hc] at this; cases this
 ·exact elem_iff.2 (body_mem (elem_iff.1 h))
theorem fill_ref (hl : o.length ≤ 1000) (hN : 1100 ≤ N) : F_210 N o = some (fillB o) := by
 unfold F_210 fillB
 rw [HasC hl hN 42 (n := 42) rfl, elem_body (by decide)]
 simp only [Option.bind_some]
 cases (bodyS o).elem 42 <;> rfl
structure PicOk (o ds : List UInt8) : Prop where
 len : o.length ≤ 32
 num : NumP o
 let' : ∀ c, c ∈ o → lettersL.elem c = true
 dsl : dg (bodyS o) (bodyS o).length = ds.length
 dig : ∀ k, k < ds.length → isDig (bt ds k)
theorem PicOk.dlen (h : PicOk o ds) : 1 ≤ ds.length ∧ ds.length ≤ 9 := by
 have := h.num.2.2.2.2.1
 unfold LeadB at this
 simp only [Bool.and_eq_true, decide_eq_true_eq] at this
 have e : dg (bodyS o) (bodyS o).length = c0 (bodyS o) (bodyS o).length + c1 (bodyS o) (bodyS o).length := rfl
 have := h.dsl
 omega
theorem PicOk.ko (h : PicOk o ds) : ko (bodyS o) (bodyS o).length = true := by
 have := h.num.2.2.2.2.1
 unfold LeadB at this
 rw [Bool.and_eq_true] at this
 exact this.1
theorem PicOk.zs (h : PicOk o ds) (hd : Dft (bodyS o) ≠ 0) : (bodyS o).elem 90 = false ∧ (bodyS o).elem 42 = false := by
 have := h.num.2.2.2.1
 unfold ZsB at this
 rw [decide_eq_true hd] at this
 cases h1 : (bodyS o).elem 90 <;> cases h2 : (bodyS o).elem 42 <;> rw [h1, h2] at this <;> revert this <;> decide
end Go.Yec
namespace Go.Yec
open Go
variable {N : Nat} {o b ds s : List UInt8}
theorem ko_lead {n i j : Nat} (hk : ko b n = true) (hij : i < j) (hj : j < n) (h0 : RR b i = 0) (h1 : RR b j = 1) : False := by
 have e : ko b (j + 1) = (ko b j && !(decide (RR b j = 1) && decide (0 < c0 b j))) := rfl
 have hp : 0 < c0 b j := cnt_pos hij (by rw [h0]; rfl)
 rw [h1, decide_eq_true hp] at e
 have := ko_le (show j + 1 ≤ n by omega) (e.trans (by cases ko b j <;> rfl))
 rw [this] at hk; cases hk
theorem c2_grow {i : Nat} : ∀ {n : Nat}, i ≤ n → c2 b n ≤ c2 b i + (n - i)
  | 0, h => by obtain rfl : i = 0 := by omega
               simp
  | n + 1, h => by
    by_cases e : i = n + 1
    · rw [e]; omega
    · have := c2_grow (i := i) (n := n) (by omega)
      rw [c2_succ]
      cases decide (RR b n = 2) <;> simp only [cond_true, cond_false] <;> omega
theorem c2_out {i : Nat} (h : b.length ≤ i) : c2 b i = c2 b b.length := by
 induction h with
 | refl => rfl
 | step h ih => rw [Nat.succ_eq_add_one, c2_succ, ih, RR_out h]; rfl
theorem wid_eq (hlet : ∀ c, c ∈ o → lettersL.elem c = true) : (o.length : Int) - ((o.count 86 : Nat) : Int) = ((o.length - c2 (bodyS o) o.length : Nat) : Int) := by
 have h1 := body_lt o
 rw [count_body hlet, ← c2_count, c2_out (b := bodyS o) (i := o.length) (by omega)]
 have := c_lim (bodyS o) (bodyS o).length
 omega
theorem drift_lead (h : PicOk o ds) (hd : Dft (bodyS o) ≠ 0) : c1 (bodyS o) (bodyS o).length ≠ 0 ∧ (PB (bodyS o) ds = true → 1 ≤ ldS (bodyS o) ds) := by
 have hk := h.ko
 obtain ⟨z1, z2⟩ := h.zs hd
 have hdr := Dft_dr hd
 have h2 : 2 ≤ (bodyS o).count (Dft (bodyS o)) := by
  have := Dft_some hd
  unfold isDr at this
  rw [Bool.and_eq_true, decide_eq_true_eq] at this
  exact this.2
 obtain ⟨f, l, hF, hL, hV, _⟩ : DOK (bodyS o) (Dft (bodyS o)) := by
  rcases h.num.2.2.1 with e | e
  ·exact absurd e hd
  ·exact e.2
 have hfl : f < l := by
  apply Classical.byContradiction
  intro hn
  have : (bodyS o).count (Dft (bodyS o)) ≤ 1 := by
   rw [count_cnt]
   have : cnt (fun i => decide (bt (bodyS o) i = Dft (bodyS o))) (bodyS o).length = 1 := cnt_one hF.1 (decide_eq_true hF.2.1) fun i hi hne => by
    refine decide_eq_false fun e => ?_
    by_cases hif : i < f
    ·exact hF.2.2 i hif e
    ·exact hL.2.2 i (by omega) hi e
   omega
  omega
 have hlead : RR (bodyS o) l = 1 := by
  have hs : sn (bodyS o) l = true := sn_iff.2 ⟨hd, f, hfl, hF.2.1⟩
  have hi : isD (bodyS o) (bt (bodyS o) l) = true := by
   unfold isD
   rw [decide_eq_true hd, decide_eq_true hL.2.1]; rfl
  unfold RR rl
  rw [hs, hi, hL.2.1]
  rcases dr_cases hdr with e | e | e | e <;> rw [e] <;> rfl
 refine ⟨fun e => ?_, fun hP => ?_⟩
 ·have := cnt_zero.1 e l hL.1
  rw [hlead] at this; cases this
 ·have hno : ∀ j, j ≤ f → stp (bodyS o) ds j = false := fun j hj => by
   have hjb : j < (bodyS o).length := by have := hF.1; omega
   have hs : sn (bodyS o) j = false := by
    cases hx : sn (bodyS o) j
    ·rfl
    ·obtain ⟨_, k, hk1, hk2⟩ := sn_iff.1 hx
     exact absurd hk2 (hF.2.2 k (by omega))
   have r0 : RR (bodyS o) j ≠ 0 := fun e => ko_lead hk (show j < l by omega) hL.1 e hlead
   have r1 : RR (bodyS o) j ≠ 1 := fun e => by
    have hz : zsL.elem (bt (bodyS o) j) = false := by
     cases hx : zsL.elem (bt (bodyS o) j)
     ·rfl
     ·have : bt (bodyS o) j = 90 ∨ bt (bodyS o) j = 42 := by simpa [zsL] using hx
      rcases this with e | e
      ·rw [elem_iff.2 (mem_bt.2 ⟨j, hjb, e⟩)] at z1; cases z1
      ·rw [elem_iff.2 (mem_bt.2 ⟨j, hjb, e⟩)] at z2; cases z2
    unfold RR rl at e
    rw [hs, hz, Bool.and_false] at e
    revert e
    cases firmL.elem (bt (bodyS o) j) <;> cases decide (bt (bodyS o) j = 86) <;> cases decide (bt (bodyS o) j = 36) <;> cases sgL.elem (bt (bodyS o) j) <;> decide
   have r2 : decide (RR (bodyS o) j = 2) = false := by
    rw [RR2]
    refine decide_eq_false fun e => ?_
    by_cases hjf : j < f
    ·exact hV j hjf e
    ·obtain rfl : j = f := by omega
     rw [← hF.2.1, e] at hdr; cases hdr
   unfold stp
   rw [decide_eq_false r0, decide_eq_false r1, r2]; rfl
  obtain ⟨e, he1, he2⟩ := stop_ex h.dsl hP
  unfold ldS
  cases hx : (List.range (bodyS o).length).find? (stp (bodyS o) ds) with
  | none =>
   have := (List.find?_range_eq_none.1 hx) e he1
   rw [he2] at this; cases this
  | some i =>
   have hp := List.find?_some hx
   show 1 ≤ ((i : Nat) : Int)
   have : ¬ i ≤ f := fun hle => by rw [hno i hle] at hp; cases hp
   omega
theorem ld_le (h : PicOk o ds) (hP : PB (bodyS o) ds = true) : 0 ≤ ldS (bodyS o) ds ∧ ldS (bodyS o) ds ≤ ((o.length - c2 (bodyS o) o.length : Nat) : Int) := by
 obtain ⟨e, he1, he2⟩ := stop_ex h.dsl hP
 have hb := body_lt o
 unfold ldS
 cases hx : (List.range (bodyS o).length).find? (stp (bodyS o) ds) with
 | none =>
  have := (List.find?_range_eq_none.1 hx) e he1
  rw [he2] at this; cases this
 | some i =>
  obtain ⟨_, hi, hn⟩ := List.find?_range_eq_some.1 hx
  have hi := List.mem_range.1 hi
  have hz : c2 (bodyS o) i = 0 := cnt_zero.2 fun j hj => by
   have := hn j hj
   cases hy : decide (RR (bodyS o) j = 2)
   ·rfl
   ·exfalso
    unfold stp at this
    rw [hy, hP] at this
    simp at this
  have := c2_grow (b := bodyS o) (show i ≤ (bodyS o).length by omega)
  rw [c2_out (b := bodyS o) (i := o.length) (by omega)]
  show (0 : Int) ≤ ((i : Nat) : Int) ∧ ((i : Nat) : Int) ≤ _
  omega
theorem Dft_body (o : List UInt8) : Dft o = Dft (bodyS o) := by
 cases hc : crB o
 ·rw [body_no hc]
 ·have h2 := crB_len hc
  have hbt : bodyS o = o.take (o.length - 2) := by unfold bodyS; rw [hc]; rfl
  have ho : o = bodyS o ++ o.drop (o.length - 2) := by rw [hbt, List.take_append_drop]
  have hcr : ∀ c, c ∈ o.drop (o.length - 2) → drL.elem c = false := fun c hm => by
   obtain ⟨i, h3, h4⟩ := mem_bt.1 hm
   rw [List.length_drop] at h3
   rw [bt_drop] at h4
   rw [← h4]
   exact crL_no (cr_at (by rw [hbt, List.length_take]; omega) (by omega)).2.2
  have e : isDr o = isDr (bodyS o) := by
   funext c
   unfold isDr
   cases hd : drL.elem c
   ·rfl
   ·have : o.count c = (bodyS o).count c := by
     conv => lhs; rw [ho]
     rw [List.count_append]
     have : (o.drop (o.length - 2)).count c = 0 := List.count_eq_zero.2 fun hm => by rw [hcr c hm] at hd; cases hd
     omega
    rw [this]
  have e2 : ∀ p : UInt8 → Bool, o.find? p = (bodyS o ++ o.drop (o.length - 2)).find? p := fun p => congrArg (List.find? p) ho
  unfold Dft
  rw [e, e2, List.find?_append]
  have : (o.drop (o.length - 2)).find? (isDr (bodyS o)) = none := by
   rw [List.find?_eq_none]
   intro c hm
   unfold isDr
   rw [hcr c hm]; simp
  rw [this, Option.or_none]
theorem dv_zero (hdig : ∀ k, k < ds.length → isDig (bt ds k)) : dv ds = 0 ↔ zr ds = true := by
 have key : ∀ k, k ≤ ds.length → (dv (ds.take k) = 0 ↔ ∀ j, j < k → bt ds j = 48) := by
  intro k
  induction k with
  | zero => intro _; simp [dv]
  | succ k ih =>
   intro hk
   rw [dv_take (by omega)]
   have := ih (by omega)
   have hd := hdig k (by omega)
   unfold isDig ci at hd
   constructor
   ·intro h j hj
    by_cases e : j = k
    ·rw [e]; exact UInt8.toNat_inj.1 (by show _ = 48; omega)
    ·exact this.1 (by omega) j (by omega)
   ·intro h
    have h1 := this.2 fun j hj => h j (by omega)
    have h2 := h k (by omega)
    rw [h1, h2]; rfl
 have := key ds.length (Nat.le_refl _)
 rw [List.take_length] at this
 rw [this, zr_iff]
theorem fillB_ci (o : List UInt8) : fillB o = ci (fillB o).toNat.toUInt8 := by
 unfold fillB
 cases (bodyS o).elem 42 <;> rfl
theorem field_spec (h : PicOk o ds) (hN : 1100 ≤ N) {n : Int} (hn : n = ((dv ds : Nat) : Int) ∨ n = -((dv ds : Nat) : Int)) (sc : Int) (sg : Bool) :
  F_180 N o true ((o.length : Int) - ((o.count 86 : Nat) : Int)) (ds.length : Int) sc sg n = some (fldS o ds (decide (n < 0))) := by
 have hol := h.len
 have hdl := h.dlen
 have hb := body_lt o
 rw [wid_eq h.let']
 unfold F_180
 rw [digits_spec (by omega) hN h.dig hn]
 simp only [Option.bind_some]
 rw [end_ref (by omega) hN h.dsl, fill_ref (by omega) hN, marks_spec (by omega) hN]
 simp only [Option.bind_some]
 rw [HasC (s := mkS o) (by rw [mkS_len]; omega) hN 100 (n := 100) rfl, HasC (s := mkS o) (by rw [mkS_len]; omega) hN 99 (n := 99) rfl, mk_100, mk_99, HasC (s := o) (by omega) hN 90 (n := 90) rfl, HasC (s := o) (by omega) hN 42 (n := 42) rfl, elem_body (c := 90) (by decide), elem_body (c := 42) (by decide), Drift_spec (by omega) hN, Dft_body]
 have hdg : dg (bodyS o) (bodyS o).length = c0 (bodyS o) (bodyS o).length + c1 (bodyS o) (bodyS o).length := rfl
 have hds := h.dsl
 have hWp : 0 < o.length - c2 (bodyS o) o.length := by
  have := c_lim (bodyS o) (bodyS o).length
  rw [c2_out (b := bodyS o) (i := o.length) (by omega)]
  omega
 generalize hW : o.length - c2 (bodyS o) o.length = W at hWp ⊢
 have go : ∀ L : Int, (c1 (bodyS o) (bodyS o).length ≠ 0 → PB (bodyS o) ds = true) → L = LD (bodyS o) ds →
   (Option.bind (some ((bodyS o).elem 90)) (fun (r5 : Bool) => (Option.bind (cond (!r5) (some ((bodyS o).elem 42)) (some (default : Bool))) (fun (r6 : Bool) => (Option.bind (cond (cond (!r5) (!r6) false) (some (!(decide (c1 (bodyS o) (bodyS o).length = 0)))) (some (default : Bool))) (fun (r7 : Bool) => (cond (cond (cond (!r5) (!r6) false) r7 false) (Option.bind (some (ci (Dft (bodyS o)))) (fun (r8 : Int) => (iter N (L_180_1 N o n ds L (fillB o) (mkS o) r8) (([] : List Int), (0 : Int), (0 : Int))))) (iter N (L_180_2 N o n ds L (fillB o) (mkS o)) (([] : List Int), (0 : Int), (0 : Int)))))))))) = some (finS o ds (decide (n < 0)) (LD (bodyS o) ds)) := by
  intro L hPB hL
  have fin : iter N (L_180_1 N o n ds L (fillB o) (mkS o) (ci (Dft (bodyS o)))) ([], 0, 0) = some (finS o ds (decide (n < 0)) (LD (bodyS o) ds)) := by
   rw [fld_loop (by omega) hN h.dsl h.dig, hL]
   refine fld_fin (fun hd => ?_) ?_ _
   ·obtain ⟨d1, d2⟩ := drift_lead h hd
    have hP := hPB d1
    unfold LD
    rw [decide_eq_false d1, cond_false]
    exact ⟨d2 hP, (ld_le h hP).2⟩
   ·unfold LD
    cases hc : decide (c1 (bodyS o) (bodyS o).length = 0)
    ·have := (ld_le h (hPB (of_decide_eq_false hc))).2
     rw [cond_false]; omega
    ·rw [cond_true]; omega
  by_cases hd : Dft (bodyS o) = 0
  ·have e2 : L_180_2 N o n ds L (fillB o) (mkS o) = L_180_1 N o n ds L (fillB o) (mkS o) (ci (Dft (bodyS o))) := by rw [hd]; rfl
   rw [e2]
   cases (bodyS o).elem 90 <;> cases (bodyS o).elem 42 <;> cases decide (c1 (bodyS o) (bodyS o).length = 0) <;> exact fin
  ·obtain ⟨z1, z2⟩ := h.zs hd
   rw [z1, z2, decide_eq_false (drift_lead h hd).1]
   exact fin
 unfold fldS
 cases hc1 : decide (c1 (bodyS o) (bodyS o).length = 0)
 ·have hc1' := of_decide_eq_false hc1
  cases hP : PB (bodyS o) ds
  ·
   have hP2 := hP
   unfold PB at hP2
   rw [Bool.or_eq_false_iff, Bool.not_eq_false'] at hP2
   have hn0 : n = 0 := by have := (dv_zero h.dig).2 hP2.2; omega
   rw [hP2.1, hn0]
   simp only [cond_true, cond_false, Bool.not_false, Bool.and_self, Option.bind_some]
   rw [decide_eq_true (show (0 : Int) < (W : Int) by omega)]
   simp only [decide_true, cond_true, Option.bind_some, Bool.not_false]
   rw [fillB_ci o, Many_spec N _ (by omega) (by omega) (by omega), hW]
   simp only [Option.bind_some, Int.toNat_natCast]
   rw [← fillB_ci o]
  ·have key := go (ldS (bodyS o) ds) (fun _ => hP) (by unfold LD; rw [hc1]; rfl)
   rw [hc1] at key
   simp only [cond_true, cond_false, Bool.not_false, Bool.not_true, Bool.and_false]
   refine Eq.trans ?_ key
   cases hx : cond (cond (decide (0 < ldS (bodyS o) ds)) (decide (ldS (bodyS o) ds = (W : Int))) false) (decide (n = 0)) false
   ·rfl
   ·have hn0 : n = 0 := by
     cases hy : decide (n = 0)
     ·rw [hy] at hx; exfalso; revert hx; cases (cond (decide (0 < ldS (bodyS o) ds)) (decide (ldS (bodyS o) ds = (W : Int))) false) <;> decide
     ·exact of_decide_eq_true hy
    have hc0 : decide (0 < c0 (bodyS o) (bodyS o).length) = true := by
     cases hy : decide (0 < c0 (bodyS o) (bodyS o).length)
     ·unfold PB at hP
      rw [hy, Bool.false_or, Bool.not_eq_true'] at hP
      have := (dv_zero h.dig).1 (by omega)
      rw [this] at hP; cases hP
     ·rfl
    rw [hc0]; rfl
 ·have key := go 0 (fun hne => absurd (of_decide_eq_true hc1) hne) (by unfold LD; rw [hc1]; rfl)
  rw [hc1] at key
  simp only [cond_true, cond_false, Bool.not_true, Bool.false_and]
  refine Eq.trans ?_ key
  rfl
end Go.Yec
