/-
  LayoutStored: which bits set turns.
-/
import Derived.Test.YtadaoelabimmkaaGreatDoorM3
import Derived.Laws.BitsAllLaws
set_option linter.all false
namespace Go.Proofs.YtadaoelabimmkaaGreatDoor
open Go.RowKit
open Go.Xec (Glob)
variable {f : Nat -> Int} {x y : Int} {n i j : Nat}
noncomputable def byteP (a j t : Nat) : Bool :=
  let m : Int:= 128 / 2 ^ j
  let o : Int:=bits .or .u8 a m
  let b : Int:=bits .andNot .u8 a m
  let h (z : Int) : Int:=(48 + bits .and .u8 (z / 2 ^ (7 - t)) 1) % 256
  cond (decide (j = t)) (decide (h o = 49) && decide (h b = 48)) (decide (h o = h a) && decide (h b = h a))
theorem w1J : ((List.range 256).all fun a=>(List.range 8).all fun j=>(List.range 8).all fun t=>byteP a j t) = true:=by kernel_rfl
theorem putB_ch {a : Int} (h0 : 0 <= a) (h1 : a <= 255) {b : UInt8} (hb : b = 48 \/ b = 49) : chOf (putB a x b) y = if x % 8 = y % 8 then (b.toNat : Int) else chOf a y:=by
  have h:=List.all_eq_true.1 (List.all_eq_true.1 (List.all_eq_true.1 w1J a.toNat (List.mem_range.2 (by omega))) (x % 8).toNat (List.mem_range.2 (by omega))) (y % 8).toNat (List.mem_range.2 (by omega))
  unfold byteP at h
  rw [show ((a.toNat : Nat) : Int) = a by omega] at h
  have hj : (7 - y % 8).toNat = 7 - (y % 8).toNat:=by omega
  unfold chOf putB
  rw [hj]
  by_cases e : x % 8 = y % 8
  . rw [if_pos e]
    rw [decide_eq_true (show (x % 8).toNat = (y % 8).toNat by rw [e])] at h
    simp only [cond_true,Bool.and_eq_true,decide_eq_true_eq] at h
    rcases hb with rfl | rfl
    . exact h.2
    . exact h.1
  . rw [if_neg e]
    rw [decide_eq_false (show ¬ (x % 8).toNat = (y % 8).toNat by omega)] at h
    simp only [cond_false,Bool.and_eq_true,decide_eq_true_eq] at h
    rcases hb with rfl | rfl
    . exact h.2
    . exact h.1
theorem z3D (hc : ∀ j,j < 65536 -> 0 <= f j /\ f j <= 255) (l : List UInt8) : ∀ i j,j < 65536 -> 0 <= setF f x l i j /\ setF f x l i j <= 255
  | 0,j,hj=>hc j hj
  | i + 1, j, hj => by
    rw [y6B]
    dsimp only
    by_cases e : j = ((x + i) / 8).toNat
    . rw [if_pos e]
      have:=z3D hc l i ((x + i) / 8).toNat (by rw [<- e]; exact hj)
      exact v6G this.1 this.2 _
    . rw [if_neg e]
      exact z3D hc l i j hj
theorem u1U (hc : ∀ j, j < 65536 -> 0 <= f j /\ f j <= 255) (l : List UInt8) (hl : ∀ b ∈ l, b = 48 \/ b = 49) (x0 : 0 <= x) (y0 : 0 <= y) (y1 : y < 524288) :
    ∀ i,i <= l.length -> chOf (setF f x l i (y / 8).toNat) y = if x <= y /\ y < x + i then ((l.getD (y - x).toNat 0).toNat : Int) else chOf (f (y / 8).toNat) y
  | 0, _ => by
    rw [if_neg (by omega)]
    rfl
  | i + 1, h => by
    have ih:=u1U hc l hl x0 y0 y1 i (by omega)
    have hb : l.getD i 0 = 48 \/ l.getD i 0 = 49:=hl _ (by rw [List.getD_eq_getElem?_getD,List.getElem?_eq_getElem (show i < l.length by omega)]; exact List.getElem_mem _)
    rw [y6B]
    dsimp only
    by_cases e : (y / 8).toNat = ((x + i) / 8).toNat
    . rw [if_pos e, <- e]
      have hi:=z3D (x:=x) hc l i (y / 8).toNat (by omega)
      rw [putB_ch hi.1 hi.2 hb]
      by_cases e2 : (x + i) % 8 = y % 8
      . have e3 : y = x + i := by omega
        rw [if_pos e2,if_pos (by omega),e3,show (x + (i : Int) - x).toNat = i by omega]
      . rw [if_neg e2, ih]
        by_cases h2 : x <= y /\ y < x + i
        . rw [if_pos h2,if_pos (by omega)]
        . rw [if_neg h2,if_neg (by omega)]
    . rw [if_neg e, ih]
      by_cases h2 : x <= y /\ y < x + i
      . rw [if_pos h2,if_pos (by omega)]
      . rw [if_neg h2,if_neg (by omega)]
theorem u5G {A t : Nat} (hA : A < 256) : bits .and .u8 ((A : Int) / 2 ^ t) 1 = ((A / 2 ^ t % 2 : Nat) : Int):=by
  have e : ((A : Int) / 2 ^ t) = ((A / 2 ^ t : Nat) : Int):=by simp
  rw [e,show (1 : Int) = ((1 : Nat) : Int) from rfl,u8_and_nat _ _ (Nat.lt_of_le_of_lt (Nat.div_le_self _ _) hA) (by decide),Nat.and_one_is_mod]
theorem xor_ch {a b : Int} (a0 : 0 <= a) (a1 : a <= 255) (b0 : 0 <= b) (b1 : b <= 255) (h : chOf a y = chOf b y) : bits .and .u8 (bits .xor .u8 a b / 2 ^ (7 - y % 8).toNat) 1 = 0:=by
  unfold chOf at h
  generalize (7 - y % 8).toNat = t at h |-
  obtain ⟨A,rfl⟩ : ∃ A : Nat,a = A:=⟨a.toNat,by omega⟩
  obtain ⟨B,rfl⟩ : ∃ B : Nat,b = B:=⟨b.toNat,by omega⟩
  have hA : A < 256:=by omega
  have hB : B < 256:=by omega
  have hX : A ^^^ B < 256:=Nat.xor_lt_two_pow (n:= 8) hA hB
  rw [u5G hA,u5G hB] at h
  rw [u8_xor_nat A B hA hB,u5G hX]
  have e : A / 2 ^ t % 2 = B / 2 ^ t % 2:=by omega
  have hx:=Nat.testBit_xor A B t
  rw [Nat.testBit_eq_decide_div_mod_eq,Nat.testBit_eq_decide_div_mod_eq,Nat.testBit_eq_decide_div_mod_eq,e,Bool.xor_self,decide_eq_false_iff_not] at hx
  omega
end Go.Proofs.YtadaoelabimmkaaGreatDoor
