/-
  BITS, PLAIN LEAN: what was encoded, with any bits behind it up to its type's size, is decoded to the value that it was.
-/
import Derived.Test.YtadaoelabimmkaaGreatDoorZ9
set_option linter.all false
namespace Go.Yec
open Go
variable {N : Nat}
theorem dec_own3 {p q n : Int} {pic u t : List UInt8} (hN : 6100 <= N) (hty : tyS 3 p q true pic = true) (hva : vaS 3 p true pic n u = true) (ht : ((encS 3 p true n u ++ t).length : Int) = szS 3 p q true pic) : F_74 N 3 p q true pic (encS 3 p true n u ++ t) = some ((n,u),true):=by
  obtain ⟨p0,p1⟩:=ty3 hty
  obtain ⟨rfl,b1⟩:=va3 hva
  rw [x0H] at b1
  have hs : szS 3 p q true pic = 16 + 8 * p:=by
    unfold szS
    rw [hty]
    show IntKind.wrap .i64 (16 + (IntKind.wrap .i64 (8 * p))) = _
    rw [w64 (n:= 8 * p) (by omega) (by omega),w64 (by omega) (by omega)]
  have hf : encS 3 p true 0 u ++ t = x1G 16 u.length ++ (hBits u ++ t):=by rw [show encS 3 p true 0 u = x1G 16 u.length ++ hBits u from rfl,List.append_assoc]
  have hlen : (encS 3 p true 0 u ++ t).length = 16 + 8 * p.toNat:=by
    rw [hs] at ht
    omega
  have t1 : ssub (encS 3 p true 0 u ++ t) 0 16 = x1G 16 u.length:=(x5D (n:= 16)).trans (by rw [hf,take_left (x0N _ 16)])
  have t2 : ((encS 3 p true 0 u ++ t).drop 16).take (8 * u.length) = hBits u:=by rw [hf,drop_left (x0N _ 16),take_left (hBits_len u)]
  clear hf ht
  generalize encS 3 p true 0 u ++ t = s at hlen t1 t2 |-
  have e1:=v6X (N:=N) (x1W u.length 16) (by rw [x0N]; decide) (by omega)
  rw [x7R,Nat.mod_eq_of_lt (show u.length < 2 ^ 16 by omega)] at e1
  show cond (decide ((0 : Int) <= 16 /\ (16 : Int) <= slen s)) (Option.bind (z5V N (ssub s 0 16)) _) none = _
  have c8 : IntKind.wrap .i64 (8 * (u.length : Int)) = 8 * (u.length : Int):=w64 (by omega) (by omega)
  have c16 : IntKind.wrap .i64 (16 + 8 * (u.length : Int)) = ((16 + 8 * u.length : Nat) : Int):=by rw [w64 (by omega) (by omega)]; omega
  have t3 : ssub s 16 ((16 + 8 * u.length : Nat) : Int) = hBits u:=(x8F (a:= 16) (b:= 8 * u.length)).trans t2
  rw [decide_eq_true (by rw [x0H]; omega),cond_true,t1,e1,Option.bind_some,w64 (n:=(u.length : Int)) (by omega) (by omega),decide_eq_false (by omega),cond_false,c8,c16,decide_eq_true (by rw [x0H]; omega),cond_true,t3,
    y1S (x3Q u) (m:=u.length) (by omega) (hBits_len u) (by omega),y0V]
  rfl
theorem dec_any {k p q n : Int} {v : Bool} {pic u t : List UInt8} (hb : BitL t) (hl : pic.length <= 1000) (hN : 6100 <= N) (hty : tyS k p q v pic = true) (h7 : k ≠ 7) (hva : vaS k p v pic n u = true) (ht : ((encS k p v n u ++ t).length : Int) = szS k p q v pic) : F_25 N k p q v pic (encS k p v n u ++ t) = some ((n,u), 0):=by
  obtain ⟨l1,l2,l3,l4⟩:=z4J hty h7 hva
  by_cases hw : ((encS k p v n u).length : Int) = szS k p q v pic
  . have h0 : t = [] := by
      rw [List.length_append] at ht
      exact List.eq_nil_of_length_eq_zero (by omega)
    have:=dec_back (N:=N) (f:= 48) (.inl rfl) hl hN hty h7 hva
    unfold x9T at this
    rw [hw,Int.sub_self] at this
    rw [h0]
    exact this
  . have hv : v = true := by cases v; exact absurd (l2 rfl) hw; rfl
    have h3 : k = 3:=by
      by_cases h : k = 3
      . exact h
      . exact absurd (l3 h) hw
    subst hv h3
    have hb2 : BitL (encS 3 p true n u ++ t):=(y1M hty h7 hva).append hb
    have e74:=dec_own3 hN hty hva ht
    generalize encS 3 p true n u ++ t = s at ht hb2 e74 |-
    have hty2 : (tyS 3 p q true pic && !(decide ((3 : Int) = 7))) = true:=by rw [hty]; rfl
    have e62 : F_62 N 3 p q true pic = some true:=by
      unfold F_62
      rw [y5W hl (by omega),hty]; rfl
    unfold F_25
    rw [e62,z6P hl (by omega),y9K (by omega) (by omega),bsS_of hb2,e74]
    simp only [Option.bind_some]
    rw [decide_eq_true (show slen s = szS 3 p q true pic from ht),u6Y hl (by omega),hty2,hva]
    rfl
end Go.Yec
