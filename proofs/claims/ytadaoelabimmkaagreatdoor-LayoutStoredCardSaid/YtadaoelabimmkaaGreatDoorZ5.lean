/-
  PICTURES, PLAIN LEAN: the characters of a number in a field: what both write, place by place.; PICTURES, PLAIN LEAN: the reference writes a field.; PICTURES, PLAIN LEAN: where suppression ends, by the reference.; PICTURES, PLAIN LEAN: digits and numbers; the reference's field.; PICTURES, PLAIN LEAN: the reference's field, whole.
-/
import Derived.Test.YtadaoelabimmkaaGreatDoorZ4
import Derived.Laws.Bits64
import Derived.KernelRfl
set_option linter.all false
namespace Go.Yec
open Go
variable {N : Nat} {o b ds : List UInt8}
def u3D (c d : Int) (m : Bool) : Int:=cond (cond (decide (c = 89)) (decide (d = 48)) false) 32 (cond (cond (cond (decide (c = 84)) true (cond (decide (c = 73)) (!m) false)) true (cond (decide (c = 82)) m false)) (z3S (IntKind.wrap .i64 (IntKind.wrap .u8 (d - 48))) m) d)
def sgnC (c : Int) (m : Bool) : Int:=cond (decide (c = 36)) 36 (cond m (cond (decide (c = 43)) 32 45) (cond (decide (c = 45)) 32 43))
def dg (b : List UInt8) (i : Nat) : Nat:=c0 b i + c1 b i
def itS (o ds : List UInt8) (m : Bool) (lead : Int) (i len : Nat) : List Int :=
  cond (decide (i < (x0B o).length))
    (cond (decide (RR (x0B o) i = 0)) [u3D (ci (bt o i)) (ci (bt ds (dg (x0B o) i))) m]
    (cond (decide (RR (x0B o) i = 1)) [cond (decide ((len : Int) < lead)) (x4B o) (ci (bt ds (dg (x0B o) i)))]
    (cond (decide (RR (x0B o) i = 2)) []
    (cond (decide (RR (x0B o) i = 3)) [cond (decide (bt o i = 66)) 32 (cond (decide ((len : Int) < lead)) (x4B o) (ci (bt o i)))]
      [cond (isD (x0B o) (bt o i)) 32 (sgnC (ci (bt o i)) m)]))))
    [cond m (ci (bt o i)) 32]
theorem v7T {o ds : List UInt8} {m : Bool} {lead : Int} {i len : Nat} (h : i < (x0B o).length) : itS o ds m lead i len = (cond (decide (RR (x0B o) i = 0)) [u3D (ci (bt o i)) (ci (bt ds (dg (x0B o) i))) m]
    (cond (decide (RR (x0B o) i = 1)) [cond (decide ((len : Int) < lead)) (x4B o) (ci (bt ds (dg (x0B o) i)))]
    (cond (decide (RR (x0B o) i = 2)) []
    (cond (decide (RR (x0B o) i = 3)) [cond (decide (bt o i = 66)) 32 (cond (decide ((len : Int) < lead)) (x4B o) (ci (bt o i)))]
      [cond (isD (x0B o) (bt o i)) 32 (sgnC (ci (bt o i)) m)])))):=by
  unfold itS; rw [decide_eq_true h,cond_true]
def outS (o ds : List UInt8) (m : Bool) (lead : Int) : Nat -> List Int
  | 0=>[]
  | i + 1=>outS o ds m lead i ++ itS o ds m lead i (outS o ds m lead i).length
def finS (o ds : List UInt8) (m : Bool) (lead : Int) : List UInt8 :=
  x0X (cond (decide (Dft (x0B o) = 0)) (outS o ds m lead o.length) (x4Y (outS o ds m lead o.length) (lead - 1) (sgnC (ci (Dft (x0B o))) m)))
theorem bt_out {i : Nat} (h : b.length <= i) : bt b i = 0:=by
  unfold bt; rw [List.getD_eq_getElem?_getD,List.getElem?_eq_none h]; rfl
theorem y1X {i : Nat} (h : b.length <= i) : RR b i = 3:=by
  unfold RR
  rw [bt_out h,isD_no (by decide)]
  rfl
theorem u4X (b : List UInt8) (i : Nat) : dg b (i + 1) = dg b i + cond (decide (RR b i = 0) || decide (RR b i = 1)) 1 0:=by
  have x0 : c0 b (i + 1) = c0 b i + cond (decide (RR b i = 0)) 1 0:=rfl
  have x1 : c1 b (i + 1) = c1 b i + cond (decide (RR b i = 1)) 1 0:=rfl
  unfold dg
  rw [x0,x1]
  rcases x2E b i with h | h | h | h | h | h <;> rw [h] <;> simp <;> omega
theorem y4K {i : Nat} (h : RR b i = 0 \/ RR b i = 1) : dg b (i + 1) = dg b i + 1:=by
  rw [u4X]
  rcases h with h | h <;> rw [h] <;> rfl
theorem x5U {i : Nat} (h0 : RR b i ≠ 0) (h1 : RR b i ≠ 1) : dg b (i + 1) = dg b i:=by
  rw [u4X,decide_eq_false h0,decide_eq_false h1]; rfl
theorem w0L {i j : Nat} (h : i <= j) : dg b i <= dg b j:=by
  unfold dg
  exact Nat.add_le_add (z4T h) (z4T h)
theorem w0M {i : Nat} (hi : i < b.length) (h : RR b i = 0 \/ RR b i = 1) : dg b i < dg b b.length:=by
  have:=w0L (b:=b) (show i + 1 <= b.length by omega)
  rw [y4K h] at this
  omega
theorem v3S (b : List UInt8) (i : Nat) : dg b i <= i:=by have:=u0J b i; unfold dg; omega
theorem dg_out {i : Nat} (h : b.length <= i) : dg b i = dg b b.length:=by
  induction h with
  | refl=>rfl
  | step h ih=>rw [Nat.succ_eq_add_one,x5U (by rw [y1X h]; decide) (by rw [y1X h]; decide),ih]
theorem x7Q (b : List UInt8) (i : Nat) : c2 b (i + 1) = c2 b i + cond (decide (RR b i = 2)) 1 0:=rfl
theorem y1F (m : Bool) (lead : Int) : ∀ i, (outS o ds m lead i).length + c2 (x0B o) i = i
  | 0=>rfl
  | i + 1 => by
    have ih:=y1F m lead i
    show (outS o ds m lead i ++ itS o ds m lead i (outS o ds m lead i).length).length + c2 (x0B o) (i + 1) = _
    rw [List.length_append,x7Q]
    have e : (itS o ds m lead i (outS o ds m lead i).length).length + cond (decide (RR (x0B o) i = 2)) 1 0 = 1:=by
      unfold itS
      by_cases hi : i < (x0B o).length
      . rw [decide_eq_true hi]
        rcases x2E (x0B o) i with h | h | h | h | h | h <;> rw [h] <;> rfl
      . rw [decide_eq_false hi,y1X (by omega)]; rfl
    omega
theorem y9B {i : Nat} (h : i < (x0B o).length) : bt (x0B o) i = bt o i:=by
  unfold x0B at h |-
  cases hc : crB o
  . rfl
  . rw [hc] at h
    simp only [cond_true,List.length_take] at h |-
    exact z4X (by omega)
def crL : List UInt8:=[67, 82, 68, 66]
theorem cr_at {i : Nat} (h : (x0B o).length <= i) (h2 : i < o.length) : crB o = true /\ (x0B o).length = o.length - 2 /\ crL.elem (bt o i) = true:=by
  have hl:=x2Z o
  cases hc : crB o
  . rw [hc,cond_false] at hl; omega
  . rw [hc, cond_true] at hl
    refine ⟨rfl,by omega, ?_⟩
    unfold crB at hc
    have h2l:=x7N (s:=o) (by unfold crB; exact hc)
    rw [decide_eq_true h2l,cond_true,Bool.or_eq_true,decide_eq_true_eq,decide_eq_true_eq] at hc
    have e : bt o i = bt (o.drop (o.length - 2)) (i - (o.length - 2)):=by rw [u5E]; congr 1; omega
    have : i - (o.length - 2) = 0 \/ i - (o.length - 2) = 1:=by omega
    rcases hc with hc | hc <;> rw [e,hc] <;> rcases this with e | e <;> rw [e] <;> rfl
theorem crL_no {c : UInt8} (h : crL.elem c = true) : drL.elem c = false:=by
  have : c = 67 \/ c = 82 \/ c = 68 \/ c = 66:=by simpa [crL] using h
  rcases this with e | e | e | e <;> rw [e] <;> rfl
theorem dr_no {c : UInt8} (h : drL.elem c = true) : crL.elem c = false:=by
  have : c = 36 \/ c = 83 \/ c = 43 \/ c = 45:=x9M h
  rcases this with e | e | e | e <;> rw [e] <;> rfl
def x8B (c : UInt8) : Prop:= 48 <= ci c /\ ci c <= 57
theorem pun_tab : ∀ (m : Bool) (k : Nat),k < 10 -> z3S (k : Int) m = ci (bt (cond m [125, 74, 75, 76, 77, 78, 79, 80, 81, 82] [123, 65, 66, 67, 68, 69, 70, 71, 72, 73]) k):=by decide
theorem v8E {d : UInt8} (hd : x8B d) (c : Int) (m : Bool) : v4J N c (ci d) m = some (u3D c (ci d) m):=by
  obtain ⟨h1,h2⟩:=hd
  have e1 : IntKind.wrap .i64 (IntKind.wrap .u8 (ci d - 48)) = ci d - 48:=by rw [w8 (by omega) (by omega),w64 (by omega) (by omega)]
  obtain ⟨k,hk⟩ : ∃ k : Nat,ci d - 48 = (k : Int):=⟨(ci d - 48).toNat,by omega⟩
  have hk10 : k < 10:=by omega
  have e2 : w2S N (ci d - 48) m = some (z3S (ci d - 48) m,true):=by
    unfold w2S
    rw [hk,decide_eq_false (show ¬ (k : Int) < 0 by omega),decide_eq_false (show ¬ (9 : Int) < (k : Int) by omega),pun_tab m k hk10]
    cases m
    . simp only [cond_false]
      rw [x6V (by omega) (by rw [x0H]; simp; omega)]; rfl
    . simp only [cond_false, cond_true]
      rw [x6V (by omega) (by rw [x0H]; simp; omega)]; rfl
  unfold v4J u3D
  rw [e1,e2]
  simp only [Option.bind_some]
  cases (cond (decide (c = 89)) (decide (ci d = 48)) false)
  . cases (cond (cond (decide (c = 84)) true (cond (decide (c = 73)) (!m) false)) true (cond (decide (c = 82)) m false)) <;> rfl
  . rfl
theorem u7E (c : Int) (m : Bool) : z5U N c m = some (sgnC c m):=by
  unfold z5U sgnC
  cases decide (c = 36)
  . cases m
    . cases decide (c = 45) <;> rfl
    . cases decide (c = 43) <;> rfl
  . rfl
theorem y2C (hN : 1100 <= N) (c d : UInt8) (m : Bool) : v4H N (ci c) (ci d) m = some (cond (decide (d ≠ 0) && decide (c = d)) 32 (cond (crL.elem c) (cond m (ci c) 32) (sgnC (ci c) m))):=by
  unfold v4H
  rw [x9Y,x8S,show ([67, 82, 68, 66] : List UInt8) = crL from rfl,HasL crL (by decide) hN,u7E]
  simp only [Option.bind_some]
  have e : cond (!(decide (d = 0))) (decide (c = d)) false = (decide (d ≠ 0) && decide (c = d)):=by
    by_cases h : d = 0
    . rw [decide_eq_true h,decide_eq_false (show ¬ d ≠ 0 from fun h2=>h2 h)]; rfl
    . rw [decide_eq_false h,decide_eq_true h]; rfl
  rw [e]
  cases (decide (d ≠ 0) && decide (c = d))
  . cases crL.elem c
    . rfl
    . cases m <;> rfl
  . rfl
end Go.Yec
namespace Go.Yec
open Go
variable {N : Nat} {o b ds : List UInt8}
theorem v1B (h : Dft b ≠ 0) : drL.elem (Dft b) = true:=by
  have:=y1Y h
  unfold isDr at this
  rw [Bool.and_eq_true] at this
  exact this.1
theorem isD_cr {c : UInt8} (h : crL.elem c = true) : (decide (Dft b ≠ 0) && decide (c = Dft b)) = false:=by
  by_cases hd : Dft b = 0
  . rw [decide_eq_false (fun h2 : Dft b ≠ 0=>h2 hd)]; rfl
  . rw [decide_eq_false (fun e : c = Dft b=>by
      have:=v1B hd
      rw [<- e,crL_no h] at this; cases this),Bool.and_false]
theorem fld_loop (hol : o.length <= 100) (hN : 1100 <= N) (hds : dg (x0B o) (x0B o).length = ds.length) (hdig : ∀ k, k < ds.length -> x8B (bt ds k)) (n lead : Int) :
    iter N (y0S N o n ds lead (x4B o) (mkS o) (ci (Dft (x0B o)))) ([], 0, 0) =
      (cond (!(decide (ci (Dft (x0B o)) = (0 : Int)))) (Option.bind (z5U N (ci (Dft (x0B o))) (decide (n < 0))) (fun (r10 : Int)=>(cond (inB (IntKind.wrap .i64 (lead - (1 : Int))) (ilen (outS o ds (decide (n < 0)) lead o.length))) (some (x0X (x4Y (outS o ds (decide (n < 0)) lead o.length) (IntKind.wrap .i64 (lead - (1 : Int))) r10))) none))) (some (x0X (outS o ds (decide (n < 0)) lead o.length)))):=by
  have hml : (mkS o).length = o.length:=x4T o
  refine x3M (n:=o.length) (P:=Unit) (fun _ i=>(outS o ds (decide (n < 0)) lead i,((dg (x0B o) i : Nat) : Int),(i : Int))) (fun _ _=>True) (fun x=>x = _) ?_ ?_ () trivial (by omega)
  . intro again _ _
    unfold y0S
    simp only
    rw [decide_eq_false (show ¬ ((o.length : Nat) : Int) < slen (mkS o) by rw [x0H]; omega),cond_false]
  . intro again _ i _ hi hag
    have hg:=hag () trivial
    have hlen:=y1F (o:=o) (ds:=ds) (decide (n < 0)) lead i
    have ho : outS o ds (decide (n < 0)) lead (i + 1) = outS o ds (decide (n < 0)) lead i ++ itS o ds (decide (n < 0)) lead i (outS o ds (decide (n < 0)) lead i).length:=rfl
    rw [ho] at hg
    have him : i < (mkS o).length:=by omega
    have hdl:=v3S (x0B o) i
    unfold y0S
    simp only [x2P him,x0T him,x0T hi,cond_true,x1N (i:=i) (by omega),x9Q (show (outS o ds (decide (n < 0)) lead i).length < 137438953472 by omega),x1N (i:=dg (x0B o) i) (by omega)]
    rw [x1L,x1L,x1L]
    by_cases hin : i < (x0B o).length
    . rw [z1E hin]
      rw [v7T hin] at hg
      have hc : ∀ h : RR (x0B o) i = 0 \/ RR (x0B o) i = 1,dg (x0B o) i < ds.length:=fun h=>by rw [<- hds]; exact w0M hin h
      rcases x2E (x0B o) i with h | h | h | h | h | h
      . have hd := hc (.inl h)
        rw [y4K (.inl h),h] at hg
        rw [h,show ci (mkR 0) = 100 from rfl,x0T hd,v8E (hdig _ hd)]
        exact hg
      . have hd := hc (.inr h)
        rw [y4K (.inr h),h] at hg
        rw [h,show ci (mkR 1) = 99 from rfl,x0T hd]
        cases hx : decide (ilen (outS o ds (decide (n < 0)) lead i) < lead)
        . rw [show decide ((((outS o ds (decide (n < 0)) lead i).length : Nat) : Int) < lead) = false from hx] at hg
          exact hg
        . rw [show decide ((((outS o ds (decide (n < 0)) lead i).length : Nat) : Int) < lead) = true from hx] at hg
          exact hg
      . rw [x5U (by rw [h]; decide) (by rw [h]; decide), h] at hg
        rw [h,show ci (mkR 2) = 118 from rfl]
        have hg2 : again (outS o ds (decide (n < 0)) lead i ++ [],((dg (x0B o) i : Nat) : Int),((i + 1 : Nat) : Int)) = _:=hg
        rw [List.append_nil] at hg2
        exact hg2
      . rw [x5U (by rw [h]; decide) (by rw [h]; decide), h] at hg
        rw [h,show ci (mkR 3) = 105 from rfl,x3S (bt o i) 66 (show (66 : Int) = ci 66 from rfl)]
        cases hx : decide (bt o i = 66)
        . rw [hx] at hg
          cases hy : decide (ilen (outS o ds (decide (n < 0)) lead i) < lead)
          . rw [show decide ((((outS o ds (decide (n < 0)) lead i).length : Nat) : Int) < lead) = false from hy] at hg
            exact hg
          . rw [show decide ((((outS o ds (decide (n < 0)) lead i).length : Nat) : Int) < lead) = true from hy] at hg
            exact hg
        . rw [hx] at hg; exact hg
      . have hdr := (u5L (.inl h)).1
        rw [y9B hin] at hdr
        rw [x5U (by rw [h]; decide) (by rw [h]; decide),h] at hg
        rw [h,show ci (mkR 4) = 115 from rfl,y2C hN,dr_no hdr]
        exact hg
      . have hdr := (u5L (.inr h)).1
        rw [y9B hin] at hdr
        rw [x5U (by rw [h]; decide) (by rw [h]; decide),h] at hg
        rw [h,show ci (mkR 5) = 109 from rfl,y2C hN,dr_no hdr]
        exact hg
    . have hb : (x0B o).length <= i := by omega
      obtain ⟨_,_,hcr⟩:=cr_at hb hi
      have h3:=y1X hb
      have eit : itS o ds (decide (n < 0)) lead i (outS o ds (decide (n < 0)) lead i).length = [cond (decide (n < 0)) (ci (bt o i)) 32]:=by
        unfold itS
        rw [decide_eq_false hin,cond_false]
      rw [eit,x5U (by rw [h3]; decide) (by rw [h3]; decide)] at hg
      rw [u8H hb hi,show ci 115 = 115 from rfl,y2C hN,isD_cr hcr,hcr]
      exact hg
theorem fld_fin {lead : Int} (hW : Dft (x0B o) ≠ 0 -> 1 <= lead /\ lead <= ((o.length - c2 (x0B o) o.length : Nat) : Int)) (hl2 : lead <= 1000) (m : Bool) :
    (cond (!(decide (ci (Dft (x0B o)) = (0 : Int)))) (Option.bind (z5U N (ci (Dft (x0B o))) m) (fun (r10 : Int)=>(cond (inB (IntKind.wrap .i64 (lead - (1 : Int))) (ilen (outS o ds m lead o.length))) (some (x0X (x4Y (outS o ds m lead o.length) (IntKind.wrap .i64 (lead - (1 : Int))) r10))) none))) (some (x0X (outS o ds m lead o.length)))) = some (finS o ds m lead):=by
  rw [x8S,u7E]
  unfold finS
  have hlen:=y1F (o:=o) (ds:=ds) m lead o.length
  by_cases hd : Dft (x0B o) = 0
  . rw [decide_eq_true hd]; rfl
  . obtain ⟨h1, h2⟩ := hW hd
    rw [decide_eq_false hd,w64 (by omega) (by omega)]
    simp only [Bool.not_false,cond_true,cond_false,Option.bind_some]
    rw [x6V (by omega) (by rw [x2B]; omega)]; rfl
end Go.Yec
namespace Go.Yec
open Go
variable {N : Nat} {o b ds : List UInt8}
def zr (ds : List UInt8) : Bool:=ds.all fun c=>([48] : List UInt8).elem c
def PB (b ds : List UInt8) : Bool:=decide (0 < c0 b b.length) || !(zr ds)
def stp (b ds : List UInt8) (i : Nat) : Bool:=(decide (RR b i = 0) || (decide (RR b i = 1) && !(decide (bt ds (dg b i) = 48)))) || (decide (RR b i = 2) && PB b ds)
def ldS (b ds : List UInt8) : Int:=match (List.range b.length).find? (stp b ds) with
  | some i=>(i : Int)
  | none=> -1
theorem find_hit {p : Nat -> Bool} {n i : Nat} (hi : i < n) (hp : p i = true) (hn : ∀ j,j < i -> p j = false) : (List.range n).find? p = some i:=by
  rw [List.find?_range_eq_some]
  exact ⟨hp,List.mem_range.2 hi,fun j hj=>by rw [hn j hj]; rfl⟩
theorem v8F {p : Nat -> Bool} {n : Nat} (hn : ∀ j,j < n -> p j = false) : (List.range n).find? p = none:=by
  rw [List.find?_range_eq_none]
  exact fun j hj=>by rw [hn j hj]; rfl
theorem v7P {i : Nat} (hi : i < b.length) (hp : stp b ds i = true) (hn : ∀ j,j < i -> stp b ds j = false) : ldS b ds = (i : Int):=by
  unfold ldS; rw [find_hit hi hp hn]
theorem zr_iff : zr ds = true ↔ ∀ k,k < ds.length -> bt ds k = 48:=by
  unfold zr
  rw [all_bt]
  constructor
  . intro h k hk; have:=h k hk; simpa using this
  . intro h k hk; rw [h k hk]; rfl
theorem zr_rep : decide (ds = List.replicate ds.length 48) = zr ds:=by
  cases h : zr ds
  . refine decide_eq_false fun e => ?_
    have : zr ds = true:=by
      rw [zr_iff]
      intro k hk
      rw [e] at hk |-
      simp at hk
      rw [x2K (by simpa using hk)]
      simp
    rw [h] at this; cases this
  . refine decide_eq_true ?_
    rw [zr_iff] at h
    refine List.ext_getElem (by simp) fun k h1 h2=> ?_
    have:=h k h1
    rw [x2K h1] at this
    rw [this]; simp
theorem w0N {k : Nat} : ∀ {n : Nat}, k < dg b n -> ∃ i,i < n /\ (RR b i = 0 \/ RR b i = 1) /\ dg b i = k
  | 0,h=>by exact absurd h (Nat.not_lt_zero k)
  | n + 1, h => by
    by_cases hr : RR b n = 0 \/ RR b n = 1
    . rw [y4K hr] at h
      by_cases hk : k < dg b n
      . obtain ⟨i,h1,h2⟩:=w0N hk; exact ⟨i,by omega,h2⟩
      . exact ⟨n,by omega,hr,by omega⟩
    . rw [x5U (fun e => hr (.inl e)) (fun e => hr (.inr e))] at h
      obtain ⟨i,h1,h2⟩:=w0N h; exact ⟨i,by omega,h2⟩
theorem u1R (hds : dg b b.length = ds.length) (hP : PB b ds = true) : ∃ i,i < b.length /\ stp b ds i = true:=by
  unfold PB at hP
  by_cases h0 : 0 < c0 b b.length
  . have : ¬ ∀ i, i < b.length -> (fun i => decide (RR b i = 0)) i = false := fun h => by
      have:=cnt_zero.2 h
      have e : c0 b b.length = 0:=this
      omega
    apply Classical.byContradiction
    intro hn
    apply this
    intro i hi
    cases hx : decide (RR b i = 0)
    . exact hx
    . exact absurd ⟨i,hi,by unfold stp; rw [hx]; rfl⟩ hn
  . rw [decide_eq_false h0, Bool.false_or] at hP
    have hz : ¬ ∀ k,k < ds.length -> bt ds k = 48:=fun h=>by
      rw [zr_iff.2 h] at hP; cases hP
    apply Classical.byContradiction
    intro hn
    apply hz
    intro k hk
    rw [<- hds] at hk
    obtain ⟨i,h1,h2,h3⟩:=w0N hk
    apply Classical.byContradiction
    intro hne
    apply hn
    refine ⟨i,h1, ?_⟩
    unfold stp
    rcases h2 with h2 | h2
    . rw [h2]; rfl
    . rw [h2,h3,decide_eq_false hne]; rfl
theorem v7F (r : Int) (hr : mkR r ≠ 115) : (mkS o).elem (mkR r) = true ↔ ∃ i,i < (x0B o).length /\ mkR (RR (x0B o) i) = mkR r:=by
  rw [elem_iff,mem_bt]
  constructor
  . rintro ⟨i, h1, h2⟩
    rw [x4T] at h1
    by_cases hi : i < (x0B o).length
    . rw [z1E hi] at h2; exact ⟨i,hi,h2⟩
    . rw [u8H (by omega) h1] at h2; exact absurd h2.symm hr
  . rintro ⟨i, h1, h2⟩
    have:=x2Z o
    exact ⟨i,by rw [x4T]; omega,by rw [z1E h1]; exact h2⟩
theorem mk_99 : (mkS o).elem 99 = !(decide (c1 (x0B o) (x0B o).length = 0)):=by
  have h:=v7F (o:=o) 1 (by decide)
  rw [show mkR 1 = 99 from rfl] at h
  by_cases hz : c1 (x0B o) (x0B o).length = 0
  . rw [decide_eq_true hz]
    cases hx : (mkS o).elem 99
    . rfl
    . obtain ⟨i, h1, h2⟩ := h.1 hx
      have : decide (RR (x0B o) i = 1) = false:=cnt_zero.1 hz i h1
      rcases x2E (x0B o) i with e | e | e | e | e | e <;> rw [e] at h2 this <;> revert h2 this <;> decide
  . rw [decide_eq_false hz]
    refine h.2 ?_
    apply Classical.byContradiction
    intro hn
    apply hz
    refine cnt_zero.2 fun i hi=> ?_
    cases hx : decide (RR (x0B o) i = 1)
    . rfl
    . exact absurd ⟨i,hi,by rw [of_decide_eq_true hx]; rfl⟩ hn
theorem mk_100 : (mkS o).elem 100 = decide (0 < c0 (x0B o) (x0B o).length):=by
  have h:=v7F (o:=o) 0 (by decide)
  rw [show mkR 0 = 100 from rfl] at h
  by_cases hz : c0 (x0B o) (x0B o).length = 0
  . rw [decide_eq_false (show ¬ 0 < c0 (x0B o) (x0B o).length by omega)]
    cases hx : (mkS o).elem 100
    . rfl
    . obtain ⟨i, h1, h2⟩ := h.1 hx
      have : decide (RR (x0B o) i = 0) = false:=cnt_zero.1 hz i h1
      rcases x2E (x0B o) i with e | e | e | e | e | e <;> rw [e] at h2 this <;> revert h2 this <;> decide
  . rw [decide_eq_true (show 0 < c0 (x0B o) (x0B o).length by omega)]
    refine h.2 ?_
    apply Classical.byContradiction
    intro hn
    apply hz
    refine cnt_zero.2 fun i hi=> ?_
    cases hx : decide (RR (x0B o) i = 0)
    . rfl
    . exact absurd ⟨i,hi,by rw [of_decide_eq_true hx]; rfl⟩ hn
theorem u9N (hol : o.length <= 100) (hN : 1100 <= N) (hds : dg (x0B o) (x0B o).length = ds.length) (hP : PB (x0B o) ds = true) :
    iter N (u5M N ds (mkS o)) (0, 0, 0) = some (ldS (x0B o) ds):=by
  have hml : (mkS o).length = o.length:=x4T o
  obtain ⟨e,he1,he2⟩:=u1R hds hP
  have hbl:=x2Z o
  refine x3M (n:=o.length) (P:=Unit) (fun _ i=>((i : Int),((dg (x0B o) i : Nat) : Int),(i : Int))) (fun _ i=> ∀ j,j < i -> stp (x0B o) ds j = false) (fun x=>x = _) ?_ ?_ () (fun j h=>absurd h (Nat.not_lt_zero j)) (by omega)
  . intro again _ hno
    have:=hno e (by omega)
    rw [he2] at this; cases this
  . intro again _ i hno hi hag
    have hin : i < (x0B o).length:=by
      apply Classical.byContradiction
      intro hn
      have:=hno e (by omega)
      rw [he2] at this; cases this
    have him : i < (mkS o).length:=by omega
    have hdl:=v3S (x0B o) i
    have hc : ∀ h : RR (x0B o) i = 0 \/ RR (x0B o) i = 1,dg (x0B o) i < ds.length:=fun h=>by rw [<- hds]; exact w0M hin h
    have hit : stp (x0B o) ds i = true -> some ((i : Int)) = some (ldS (x0B o) ds):=fun hs=>by rw [v7P hin hs hno]
    have nx : stp (x0B o) ds i = false -> again (((i + 1 : Nat) : Int),((dg (x0B o) (i + 1) : Nat) : Int),((i + 1 : Nat) : Int)) = some (ldS (x0B o) ds):=fun hs=>hag () fun j hj=>by
      by_cases e : j = i
      . rw [e]; exact hs
      . exact hno j (by omega)
    unfold u5M
    simp only [x2P him,x0T him,cond_true,x1N (i:=i) (by omega),x1N (i:=dg (x0B o) i) (by omega)]
    rw [x1L,x1L,z1E hin]
    unfold stp at hit nx
    rcases x2E (x0B o) i with h | h | h | h | h | h
    . rw [h] at hit |-; exact hit rfl
    . have hd := hc (.inr h)
      rw [y4K (.inr h)] at nx
      rw [h] at hit nx |-
      rw [show ci (mkR 1) = 99 from rfl,x0T hd,x3S (bt ds (dg (x0B o) i)) 48 (show (48 : Int) = ci 48 from rfl)]
      cases hx : decide (bt ds (dg (x0B o) i) = 48)
      . rw [hx] at hit; exact hit rfl
      . rw [hx] at nx; exact nx rfl
    . rw [h, hP] at hit
      rw [h]
      exact hit rfl
    . rw [x5U (by rw [h]; decide) (by rw [h]; decide)] at nx
      rw [h] at nx |-
      exact nx rfl
    . rw [x5U (by rw [h]; decide) (by rw [h]; decide)] at nx
      rw [h] at nx |-
      exact nx rfl
    . rw [x5U (by rw [h]; decide) (by rw [h]; decide)] at nx
      rw [h] at nx |-
      exact nx rfl
theorem end_ref (hol : o.length <= 100) (hN : 1100 <= N) (hds : dg (x0B o) (x0B o).length = ds.length) (w sc : Int) (sg : Bool) :
    w2V N o true w (ds.length : Int) sc sg ds = some (cond (decide (c1 (x0B o) (x0B o).length = 0)) 0 (cond (PB (x0B o) ds) (ldS (x0B o) ds) w)):=by
  have hdl : ds.length <= 100:=by
    have h1:=v3S (x0B o) (x0B o).length
    have h2:=x2Z o
    omega
  unfold w2V
  rw [x6U (by omega) hN]
  simp only [Option.bind_some]
  rw [HasC (s:=mkS o) (by rw [x4T]; omega) hN 99 (n:= 99) rfl,HasC (s:=mkS o) (by rw [x4T]; omega) hN 100 (n:= 100) rfl,mk_99,mk_100,show (48 : Int) = ci 48 from rfl,y9Y N 48 (by omega) (by omega) (by omega)]
  simp only [Option.bind_some,Bool.not_not]
  cases hc : decide (c1 (x0B o) (x0B o).length = 0)
  . rw [cond_false, cond_false]
    cases h0 : decide (0 < c0 (x0B o) (x0B o).length)
    . simp only [Bool.not_false, cond_true, Option.bind_some]
      rw [Int.toNat_natCast,zr_rep]
      cases hz : zr ds
      . have hP : PB (x0B o) ds = true := by unfold PB; rw [h0, hz]; rfl
        rw [cond_false,u9N hol hN hds hP,hP]; rfl
      . have hP : PB (x0B o) ds = false := by unfold PB; rw [h0, hz]; rfl
        rw [hP]; rfl
    . have hP : PB (x0B o) ds = true := by unfold PB; rw [h0]; rfl
      simp only [Bool.not_true,cond_false,Option.bind_some]
      rw [u9N hol hN hds hP,hP]; rfl
  . rfl
end Go.Yec
namespace Go.Yec
open Go
variable {N : Nat} {o b ds s : List UInt8}
def dv (ds : List UInt8) : Nat:=ds.foldl (fun a c=>a * 10 + (c.toNat - 48)) 0
theorem dv_app (ds : List UInt8) (c : UInt8) : dv (ds ++ [c]) = dv ds * 10 + (c.toNat - 48):=by unfold dv; rw [List.foldl_append]; rfl
theorem u4T {k : Nat} (h : k < ds.length) : dv (ds.take (k + 1)) = dv (ds.take k) * 10 + ((bt ds k).toNat - 48):=by
  rw [List.take_succ_eq_append_getElem h,dv_app,x2K h]
theorem dv_lt (h : ∀ k,k < ds.length -> x8B (bt ds k)) : ∀ k,k <= ds.length -> dv (ds.take k) < 10 ^ k
  | 0,_=>by simp [dv]
  | k + 1, hk => by
    have ih:=dv_lt h k (by omega)
    have hd:=h k (by omega)
    unfold x8B ci at hd
    rw [u4T (by omega),Nat.pow_succ]
    omega
theorem u7M : ∀ n,repI n = List.replicate n 0
  | 0=>rfl
  | n + 1=>by show (0 : Int) :: repI n = _; rw [u7M n]; rfl
theorem y8N (hl : ds.length <= 18) (hdig : ∀ k,k < ds.length -> x8B (bt ds k)) : ∀ (k M : Nat),k <= ds.length -> k + 1 <= M ->
    iter M (z5H N) (((dv (ds.take k) : Nat) : Int),(k : Int) - 1,List.replicate k 0 ++ x0J (ds.drop k)) = some ds
  | 0, M, _, hM => by
    obtain ⟨M,rfl,_⟩:=x2X hM
    rw [x1E]
    unfold z5H
    simp only
    rw [decide_eq_false (show ¬ (0 : Int) <= ((0 : Nat) : Int) - 1 by omega),cond_false]
    simp only [List.replicate_zero,List.nil_append,List.drop_zero]
    rw [x2M]
  | k + 1, M, hk, hM => by
    obtain ⟨M,rfl,hM2⟩:=x2X hM
    have ih:=y8N hl hdig k M (by omega) (by omega)
    have hd:=hdig k (by omega)
    unfold x8B ci at hd
    have hlt:=dv_lt hdig (k + 1) hk
    have hp : 10 ^ (k + 1) <= 10 ^ 18:=Nat.pow_le_pow_right (by omega) (by omega)
    rw [u4T (by omega)] at hlt |-
    rw [x1E]
    unfold z5H
    simp only
    have e0 : ((k + 1 : Nat) : Int) - 1 = (k : Int):=by omega
    generalize hv : dv (ds.take k) = v at ih hlt |-
    generalize hc : (bt ds k).toNat = c at hd hlt |-
    have e1 : IntKind.wrap .u64 (Int.tdiv (((v * 10 + (c - 48) : Nat) : Int)) 10) = (v : Int):=by
      rw [IntKind.wrap_u64,Int.tdiv_eq_ediv_of_nonneg (by omega)]
      omega
    have e2 : IntKind.wrap .u8 (IntKind.wrap .u64 (48 + Int.tmod (((v * 10 + (c - 48) : Nat) : Int)) 10)) = (c : Int):=by
      rw [IntKind.wrap_u64,Int.tmod_eq_emod_of_nonneg (by omega),IntKind.wrap_u8]
      omega
    rw [e0,decide_eq_true (show (0 : Int) <= (k : Int) by omega),cond_true,x6V (by omega) (by rw [x2B]; simp; omega),cond_true,e1,e2,w64 (n:=(k : Int) - 1) (by omega) (by omega)]
    have e3 : x4Y (List.replicate (k + 1) 0 ++ x0J (ds.drop (k + 1))) (k : Int) (c : Int) = List.replicate k 0 ++ x0J (ds.drop k):=by
      unfold x4Y
      rw [Int.toNat_natCast,List.replicate_succ',List.append_assoc,List.set_append_right _ _ (by simp),List.length_replicate,Nat.sub_self]
      have : ds.drop k = bt ds k :: ds.drop (k + 1):=by rw [x2K (by omega)]; exact List.drop_eq_getElem_cons (by omega)
      rw [this]
      show _ ++ ((c : Int) :: x0J (ds.drop (k + 1))) = _ ++ (((bt ds k).toNat : Int) :: x0J (ds.drop (k + 1)))
      rw [hc]
    rw [e3]
    exact ih
theorem u4W (hl : ds.length <= 18) (hN : 1100 <= N) (hdig : ∀ k,k < ds.length -> x8B (bt ds k)) {n : Int} (hn : n = ((dv ds : Nat) : Int) \/ n = -((dv ds : Nat) : Int)) : w2W N n (ds.length : Int) = some ds:=by
  have hlt:=dv_lt hdig ds.length (Nat.le_refl _)
  rw [List.take_length] at hlt
  have hp : 10 ^ ds.length <= 10 ^ 18:=Nat.pow_le_pow_right (by omega) hl
  have hm : w2T N n = some ((dv ds : Nat) : Int):=by
    unfold w2T
    cases hx : decide (n < 0)
    . have := of_decide_eq_false hx
      rw [cond_false,IntKind.wrap_u64]
      congr 1; omega
    . have := of_decide_eq_true hx
      rw [cond_true,w64 (n:=n + 1) (by omega) (by omega),w64 (by omega) (by omega),IntKind.wrap_u64,IntKind.wrap_u64]
      congr 1; omega
  unfold w2W
  rw [hm]
  simp only [Option.bind_some]
  rw [decide_eq_true (show 0 <= ((ds.length : Nat) : Int) /\ ((ds.length : Nat) : Int) <= 1000000 by omega),cond_true,w64 (by omega) (by omega),Int.toNat_natCast,u7M]
  have:=y8N (N:=N) hl hdig ds.length N (Nat.le_refl _) (by omega)
  rw [List.take_length,List.drop_length] at this
  simpa [x0J] using this
def LD (b ds : List UInt8) : Int:=cond (decide (c1 b b.length = 0)) 0 (ldS b ds)
def fldS (o ds : List UInt8) (m : Bool) : List UInt8:=cond (!(decide (c1 (x0B o) (x0B o).length = 0)) && !(PB (x0B o) ds)) (List.replicate (o.length - c2 (x0B o) o.length) (x4B o).toNat.toUInt8) (finS o ds m (LD (x0B o) ds))
theorem y8K {c : UInt8} (hc : crL.elem c = false) : o.elem c = (x0B o).elem c := by
  cases h : (x0B o).elem c
  . cases h2 : o.elem c
    . rfl
    . obtain ⟨i, h3, h4⟩ := mem_bt.1 (elem_iff.1 h2)
      by_cases hi : i < (x0B o).length
      . have : (x0B o).elem c = true := elem_iff.2 (mem_bt.2 ⟨i, hi, by rw [y9B hi]; exact h4⟩)
        rw [h] at this; cases this
      . have := (cr_at (by omega) h3).2.2
        rw [h4,hc] at this; cases this
  . exact elem_iff.2 (v0L (elem_iff.1 h))
theorem fill_ref (hl : o.length <= 1000) (hN : 1100 <= N) : w2U N o = some (x4B o):=by
  unfold w2U x4B
  rw [HasC hl hN 42 (n:= 42) rfl,y8K (by decide)]
  simp only [Option.bind_some]
  cases (x0B o).elem 42 <;> rfl
structure PicOk (o ds : List UInt8) : Prop where
  len : o.length <= 32
  num : NumP o
  let' : ∀ c,c ∈ o -> lettersL.elem c = true
  dsl : dg (x0B o) (x0B o).length = ds.length
  dig : ∀ k,k < ds.length -> x8B (bt ds k)
theorem PicOk.dlen (h : PicOk o ds) : 1 <= ds.length /\ ds.length <= 9:=by
  have:=h.num.2.2.2.2.1
  unfold x8X at this
  simp only [Bool.and_eq_true,decide_eq_true_eq] at this
  have e : dg (x0B o) (x0B o).length = c0 (x0B o) (x0B o).length + c1 (x0B o) (x0B o).length:=rfl
  have:=h.dsl
  omega
theorem PicOk.ko (h : PicOk o ds) : ko (x0B o) (x0B o).length = true:=by
  have:=h.num.2.2.2.2.1
  unfold x8X at this
  rw [Bool.and_eq_true] at this
  exact this.1
theorem PicOk.zs (h : PicOk o ds) (hd : Dft (x0B o) ≠ 0) : (x0B o).elem 90 = false /\ (x0B o).elem 42 = false:=by
  have:=h.num.2.2.2.1
  unfold ZsB at this
  rw [decide_eq_true hd] at this
  cases h1 : (x0B o).elem 90 <;> cases h2 : (x0B o).elem 42 <;> rw [h1,h2] at this <;> revert this <;> decide
end Go.Yec
namespace Go.Yec
open Go
variable {N : Nat} {o b ds s : List UInt8}
theorem v7Q {n i j : Nat} (hk : ko b n = true) (hij : i < j) (hj : j < n) (h0 : RR b i = 0) (h1 : RR b j = 1) : False:=by
  have e : ko b (j + 1) = (ko b j && !(decide (RR b j = 1) && decide (0 < c0 b j))):=rfl
  have hp : 0 < c0 b j:=y3C hij (by rw [h0]; rfl)
  rw [h1,decide_eq_true hp] at e
  have:=ko_le (show j + 1 <= n by omega) (e.trans (by cases ko b j <;> rfl))
  rw [this] at hk; cases hk
theorem u5C {i : Nat} : ∀ {n : Nat}, i <= n -> c2 b n <= c2 b i + (n - i)
  | 0, h => by obtain rfl : i = 0 := by omega
               simp
  | n + 1, h => by
    by_cases e : i = n + 1
    . rw [e]; omega
    . have := u5C (i := i) (n := n) (by omega)
      rw [x7Q]
      cases decide (RR b n = 2) <;> simp only [cond_true,cond_false] <;> omega
theorem w1F {i : Nat} (h : b.length <= i) : c2 b i = c2 b b.length:=by
  induction h with
  | refl=>rfl
  | step h ih=>rw [Nat.succ_eq_add_one,x7Q,ih,y1X h]; rfl
theorem z6E (hlet : ∀ c,c ∈ o -> lettersL.elem c = true) : (o.length : Int) - ((o.count 86 : Nat) : Int) = ((o.length - c2 (x0B o) o.length : Nat) : Int):=by
  have h1:=x2Z o
  rw [z2G hlet, <- v0H,w1F (b:=x0B o) (i:=o.length) (by omega)]
  have:=u0J (x0B o) (x0B o).length
  omega
theorem y3B (h : PicOk o ds) (hd : Dft (x0B o) ≠ 0) : c1 (x0B o) (x0B o).length ≠ 0 /\ (PB (x0B o) ds = true -> 1 <= ldS (x0B o) ds) := by
  have hk:=h.ko
  obtain ⟨z1,z2⟩:=h.zs hd
  have hdr:=v1B hd
  have h2 : 2 <= (x0B o).count (Dft (x0B o)):=by
    have:=y1Y hd
    unfold isDr at this
    rw [Bool.and_eq_true,decide_eq_true_eq] at this
    exact this.2
  obtain ⟨f,l,hF,hL,hV,_⟩ : DOK (x0B o) (Dft (x0B o)):=by
    rcases h.num.2.2.1 with e | e
    . exact absurd e hd
    . exact e.2
  have hfl : f < l:=by
    apply Classical.byContradiction
    intro hn
    have : (x0B o).count (Dft (x0B o)) <= 1:=by
      rw [x5M]
      have : cnt (fun i=>decide (bt (x0B o) i = Dft (x0B o))) (x0B o).length = 1:=w0X hF.1 (decide_eq_true hF.2.1) fun i hi hne=>by
        refine decide_eq_false fun e=> ?_
        by_cases hif : i < f
        . exact hF.2.2 i hif e
        . exact hL.2.2 i (by omega) hi e
      omega
    omega
  have hlead : RR (x0B o) l = 1:=by
    have hs : sn (x0B o) l = true:=sn_iff.2 ⟨hd,f,hfl,hF.2.1⟩
    have hi : isD (x0B o) (bt (x0B o) l) = true:=by
      unfold isD
      rw [decide_eq_true hd,decide_eq_true hL.2.1]; rfl
    unfold RR rl
    rw [hs,hi,hL.2.1]
    rcases x9M hdr with e | e | e | e <;> rw [e] <;> rfl
  refine ⟨fun e=> ?_,fun hP=> ?_⟩
  . have := cnt_zero.1 e l hL.1
    rw [hlead] at this; cases this
  . have hno : ∀ j, j <= f -> stp (x0B o) ds j = false := fun j hj => by
      have hjb : j < (x0B o).length:=by have:=hF.1; omega
      have hs : sn (x0B o) j = false:=by
        cases hx : sn (x0B o) j
        . rfl
        . obtain ⟨_, k, hk1, hk2⟩ := sn_iff.1 hx
          exact absurd hk2 (hF.2.2 k (by omega))
      have r0 : RR (x0B o) j ≠ 0:=fun e=>v7Q hk (show j < l by omega) hL.1 e hlead
      have r1 : RR (x0B o) j ≠ 1:=fun e=>by
        have hz : zsL.elem (bt (x0B o) j) = false:=by
          cases hx : zsL.elem (bt (x0B o) j)
          . rfl
          . have : bt (x0B o) j = 90 \/ bt (x0B o) j = 42 := by simpa [zsL] using hx
            rcases this with e | e
            . rw [elem_iff.2 (mem_bt.2 ⟨j,hjb,e⟩)] at z1; cases z1
            . rw [elem_iff.2 (mem_bt.2 ⟨j,hjb,e⟩)] at z2; cases z2
        unfold RR rl at e
        rw [hs,hz,Bool.and_false] at e
        revert e
        cases firmL.elem (bt (x0B o) j) <;> cases decide (bt (x0B o) j = 86) <;> cases decide (bt (x0B o) j = 36) <;> cases sgL.elem (bt (x0B o) j) <;> decide
      have r2 : decide (RR (x0B o) j = 2) = false:=by
        rw [RR2]
        refine decide_eq_false fun e=> ?_
        by_cases hjf : j < f
        . exact hV j hjf e
        . obtain rfl : j = f := by omega
          rw [<- hF.2.1,e] at hdr; cases hdr
      unfold stp
      rw [decide_eq_false r0,decide_eq_false r1,r2]; rfl
    obtain ⟨e,he1,he2⟩:=u1R h.dsl hP
    unfold ldS
    cases hx : (List.range (x0B o).length).find? (stp (x0B o) ds) with
    | none =>
      have:=(List.find?_range_eq_none.1 hx) e he1
      rw [he2] at this; cases this
    | some i =>
      have hp:=List.find?_some hx
      show 1 <= ((i : Nat) : Int)
      have : ¬ i <= f:=fun hle=>by rw [hno i hle] at hp; cases hp
      omega
theorem ld_le (h : PicOk o ds) (hP : PB (x0B o) ds = true) : 0 <= ldS (x0B o) ds /\ ldS (x0B o) ds <= ((o.length - c2 (x0B o) o.length : Nat) : Int) := by
  obtain ⟨e,he1,he2⟩:=u1R h.dsl hP
  have hb:=x2Z o
  unfold ldS
  cases hx : (List.range (x0B o).length).find? (stp (x0B o) ds) with
  | none =>
    have:=(List.find?_range_eq_none.1 hx) e he1
    rw [he2] at this; cases this
  | some i =>
    obtain ⟨_,hi,hn⟩:=List.find?_range_eq_some.1 hx
    have hi:=List.mem_range.1 hi
    have hz : c2 (x0B o) i = 0:=cnt_zero.2 fun j hj=>by
      have:=hn j hj
      cases hy : decide (RR (x0B o) j = 2)
      . rfl
      . exfalso
        unfold stp at this
        rw [hy,hP] at this
        simp at this
    have:=u5C (b:=x0B o) (show i <= (x0B o).length by omega)
    rw [w1F (b:=x0B o) (i:=o.length) (by omega)]
    show (0 : Int) <= ((i : Nat) : Int) /\ ((i : Nat) : Int) <= _
    omega
theorem Dft_body (o : List UInt8) : Dft o = Dft (x0B o) := by
  cases hc : crB o
  . rw [y3G hc]
  . have h2 := x7N hc
    have hbt : x0B o = o.take (o.length - 2):=by unfold x0B; rw [hc]; rfl
    have ho : o = x0B o ++ o.drop (o.length - 2):=by rw [hbt,List.take_append_drop]
    have hcr : ∀ c,c ∈ o.drop (o.length - 2) -> drL.elem c = false:=fun c hm=>by
      obtain ⟨i,h3,h4⟩:=mem_bt.1 hm
      rw [List.length_drop] at h3
      rw [u5E] at h4
      rw [<- h4]
      exact crL_no (cr_at (by rw [hbt,List.length_take]; omega) (by omega)).2.2
    have e : isDr o = isDr (x0B o):=by
      funext c
      unfold isDr
      cases hd : drL.elem c
      . rfl
      . have : o.count c = (x0B o).count c := by
          conv=>lhs; rw [ho]
          rw [List.count_append]
          have : (o.drop (o.length - 2)).count c = 0:=List.count_eq_zero.2 fun hm=>by rw [hcr c hm] at hd; cases hd
          omega
        rw [this]
    have e2 : ∀ p : UInt8 -> Bool,o.find? p = (x0B o ++ o.drop (o.length - 2)).find? p:=fun p=>congrArg (List.find? p) ho
    unfold Dft
    rw [e,e2,List.find?_append]
    have : (o.drop (o.length - 2)).find? (isDr (x0B o)) = none:=by
      rw [List.find?_eq_none]
      intro c hm
      unfold isDr
      rw [hcr c hm]; simp
    rw [this,Option.or_none]
theorem w0E (hdig : ∀ k, k < ds.length -> x8B (bt ds k)) : dv ds = 0 ↔ zr ds = true := by
  have key : ∀ k,k <= ds.length -> (dv (ds.take k) = 0 ↔ ∀ j,j < k -> bt ds j = 48):=by
    intro k
    induction k with
    | zero=>intro _; simp [dv]
    | succ k ih =>
      intro hk
      rw [u4T (by omega)]
      have:=ih (by omega)
      have hd:=hdig k (by omega)
      unfold x8B ci at hd
      constructor
      . intro h j hj
        by_cases e : j = k
        . rw [e]; exact UInt8.toNat_inj.1 (by show _ = 48; omega)
        . exact this.1 (by omega) j (by omega)
      . intro h
        have h1:=this.2 fun j hj=>h j (by omega)
        have h2:=h k (by omega)
        rw [h1,h2]; rfl
  have:=key ds.length (Nat.le_refl _)
  rw [List.take_length] at this
  rw [this,zr_iff]
theorem u9A (o : List UInt8) : x4B o = ci (x4B o).toNat.toUInt8:=by
  unfold x4B
  cases (x0B o).elem 42 <;> rfl
theorem z1S (h : PicOk o ds) (hN : 1100 <= N) {n : Int} (hn : n = ((dv ds : Nat) : Int) \/ n = -((dv ds : Nat) : Int)) (sc : Int) (sg : Bool) :
    u1F N o true ((o.length : Int) - ((o.count 86 : Nat) : Int)) (ds.length : Int) sc sg n = some (fldS o ds (decide (n < 0))):=by
  have hol:=h.len
  have hdl:=h.dlen
  have hb:=x2Z o
  rw [z6E h.let']
  unfold u1F
  rw [u4W (by omega) hN h.dig hn]
  simp only [Option.bind_some]
  rw [end_ref (by omega) hN h.dsl,fill_ref (by omega) hN,x6U (by omega) hN]
  simp only [Option.bind_some]
  rw [HasC (s:=mkS o) (by rw [x4T]; omega) hN 100 (n:= 100) rfl,HasC (s:=mkS o) (by rw [x4T]; omega) hN 99 (n:= 99) rfl,mk_100,mk_99,HasC (s:=o) (by omega) hN 90 (n:= 90) rfl,HasC (s:=o) (by omega) hN 42 (n:= 42) rfl,y8K (c:= 90) (by decide),y8K (c:= 42) (by decide),x5C (by omega) hN,Dft_body]
  have hdg : dg (x0B o) (x0B o).length = c0 (x0B o) (x0B o).length + c1 (x0B o) (x0B o).length:=rfl
  have hds:=h.dsl
  have hWp : 0 < o.length - c2 (x0B o) o.length:=by
    have:=u0J (x0B o) (x0B o).length
    rw [w1F (b:=x0B o) (i:=o.length) (by omega)]
    omega
  generalize hW : o.length - c2 (x0B o) o.length = W at hWp |-
  have go : ∀ L : Int, (c1 (x0B o) (x0B o).length ≠ 0 -> PB (x0B o) ds = true) -> L = LD (x0B o) ds ->
      (Option.bind (some ((x0B o).elem 90)) (fun (r5 : Bool)=>(Option.bind (cond (!r5) (some ((x0B o).elem 42)) (some (default : Bool))) (fun (r6 : Bool)=>(Option.bind (cond (cond (!r5) (!r6) false) (some (!(decide (c1 (x0B o) (x0B o).length = 0)))) (some (default : Bool))) (fun (r7 : Bool)=>(cond (cond (cond (!r5) (!r6) false) r7 false) (Option.bind (some (ci (Dft (x0B o)))) (fun (r8 : Int)=>(iter N (y0S N o n ds L (x4B o) (mkS o) r8) (([] : List Int),(0 : Int),(0 : Int))))) (iter N (u5T N o n ds L (x4B o) (mkS o)) (([] : List Int),(0 : Int),(0 : Int)))))))))) = some (finS o ds (decide (n < 0)) (LD (x0B o) ds)):=by
    intro L hPB hL
    have fin : iter N (y0S N o n ds L (x4B o) (mkS o) (ci (Dft (x0B o)))) ([], 0, 0) = some (finS o ds (decide (n < 0)) (LD (x0B o) ds)):=by
      rw [fld_loop (by omega) hN h.dsl h.dig,hL]
      refine fld_fin (fun hd=> ?_) ?_ _
      . obtain ⟨d1, d2⟩ := y3B h hd
        have hP:=hPB d1
        unfold LD
        rw [decide_eq_false d1,cond_false]
        exact ⟨d2 hP,(ld_le h hP).2⟩
      . unfold LD
        cases hc : decide (c1 (x0B o) (x0B o).length = 0)
        . have := (ld_le h (hPB (of_decide_eq_false hc))).2
          rw [cond_false]; omega
        . rw [cond_true]; omega
    by_cases hd : Dft (x0B o) = 0
    . have e2 : u5T N o n ds L (x4B o) (mkS o) = y0S N o n ds L (x4B o) (mkS o) (ci (Dft (x0B o))) := by rw [hd]; rfl
      rw [e2]
      cases (x0B o).elem 90 <;> cases (x0B o).elem 42 <;> cases decide (c1 (x0B o) (x0B o).length = 0) <;> exact fin
    . obtain ⟨z1, z2⟩ := h.zs hd
      rw [z1,z2,decide_eq_false (y3B h hd).1]
      exact fin
  unfold fldS
  cases hc1 : decide (c1 (x0B o) (x0B o).length = 0)
  . have hc1' := of_decide_eq_false hc1
    cases hP : PB (x0B o) ds
    ·
      have hP2:=hP
      unfold PB at hP2
      rw [Bool.or_eq_false_iff,Bool.not_eq_false'] at hP2
      have hn0 : n = 0:=by have:=(w0E h.dig).2 hP2.2; omega
      rw [hP2.1,hn0]
      simp only [cond_true,cond_false,Bool.not_false,Bool.and_self,Option.bind_some]
      rw [decide_eq_true (show (0 : Int) < (W : Int) by omega)]
      simp only [decide_true,cond_true,Option.bind_some,Bool.not_false]
      rw [u9A o,y9Y N _ (by omega) (by omega) (by omega),hW]
      simp only [Option.bind_some,Int.toNat_natCast]
      rw [<- u9A o]
    . have key := go (ldS (x0B o) ds) (fun _ => hP) (by unfold LD; rw [hc1]; rfl)
      rw [hc1] at key
      simp only [cond_true,cond_false,Bool.not_false,Bool.not_true,Bool.and_false]
      refine Eq.trans ?_ key
      cases hx : cond (cond (decide (0 < ldS (x0B o) ds)) (decide (ldS (x0B o) ds = (W : Int))) false) (decide (n = 0)) false
      . rfl
      . have hn0 : n = 0 := by
          cases hy : decide (n = 0)
          . rw [hy] at hx; exfalso; revert hx; cases (cond (decide (0 < ldS (x0B o) ds)) (decide (ldS (x0B o) ds = (W : Int))) false) <;> decide
          . exact of_decide_eq_true hy
        have hc0 : decide (0 < c0 (x0B o) (x0B o).length) = true:=by
          cases hy : decide (0 < c0 (x0B o) (x0B o).length)
          . unfold PB at hP
            rw [hy,Bool.false_or,Bool.not_eq_true'] at hP
            have:=(w0E h.dig).1 (by omega)
            rw [this] at hP; cases hP
          . rfl
        rw [hc0]; rfl
  . have key := go 0 (fun hne => absurd (of_decide_eq_true hc1) hne) (by unfold LD; rw [hc1]; rfl)
    rw [hc1] at key
    simp only [cond_true,cond_false,Bool.not_true,Bool.false_and]
    refine Eq.trans ?_ key
    rfl
end Go.Yec
