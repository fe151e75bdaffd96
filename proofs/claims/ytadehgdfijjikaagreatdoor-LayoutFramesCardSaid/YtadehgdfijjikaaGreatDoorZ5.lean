/-
  PICTURES, PLAIN LEAN: roles of the characters, by the program.; PICTURES, PLAIN LEAN: what stands still, and signs, by the program.; PICTURES, PLAIN LEAN: the program reads a picture as the reference does.; PICTURES, PLAIN LEAN: the characters of a number in a field: what both write, place by place.; PICTURES, PLAIN LEAN: the reference writes a field.; PICTURES, PLAIN LEAN: where suppression ends, by the reference.; PICTURES, PLAIN LEAN: digits and numbers; the reference's field.; PICTURES, PLAIN LEAN: the reference's field, whole.
-/
import Derived.Test.YtadehgdfijjikaaGreatDoorZ4
import Derived.Laws.Bits64
import Derived.KernelRfl
set_option linter.all false
namespace Go.Yec
open Go
variable {N : Nat} {s b : List UInt8}
theorem isD_no {b : List UInt8} {c : UInt8} (h : drL.elem c = false) : isD b c = false:=by
  unfold isD
  by_cases e : c = Dft b
  . by_cases h0 : Dft b = 0
    . rw [h0]; rfl
    . have:=z4M h0
      unfold isDr at this
      rw [<- e,h] at this; cases this
  . rw [decide_eq_false e,Bool.and_false]
theorem sn_iff {b : List UInt8} : ∀ {i : Nat}, sn b i = true ↔ Dft b ≠ 0 /\ ∃ j,j < i /\ bt b j = Dft b
  | 0=>⟨fun h=>(by cases h),fun ⟨_,j,h,_⟩=>(by omega)⟩
  | i + 1=>by
    show (sn b i || isD b (bt b i)) = true ↔ _
    rw [Bool.or_eq_true,sn_iff]
    unfold isD
    rw [Bool.and_eq_true,decide_eq_true_eq,decide_eq_true_eq]
    constructor
    . rintro (⟨h0,j,hj,e⟩ | ⟨h0,e⟩)
      . exact ⟨h0,j,by omega,e⟩
      . exact ⟨h0,i,by omega,e⟩
    . rintro ⟨h0,j,hj,e⟩
      by_cases hji : j = i
      . subst hji; exact .inr ⟨h0,e⟩
      . exact .inl ⟨h0,j,by omega,e⟩
theorem RR2 (b : List UInt8) (i : Nat) : decide (RR b i = 2) = decide (bt b i = 86):=by
  unfold RR rl
  by_cases h : bt b i = 86
  . rw [h,isD_no rfl,Bool.false_and]; rfl
  . rw [decide_eq_false h]
    cases firmL.elem (bt b i)
    . cases (zsL.elem (bt b i) || (isD b (bt b i) && sn b i))
      . cases decide (bt b i = 36)
        . cases sgL.elem (bt b i) <;> rfl
        . rfl
      . rfl
    . rfl
theorem c2_count (b : List UInt8) : c2 b b.length = b.count 86:=by
  rw [x6N]; exact y6T fun i _=>RR2 b i
theorem c2_elem {b : List UInt8} {i : Nat} (hi : i <= b.length) (h : b.count 86 <= 1) : c2 b i = cond ((b.take i).elem 86) 1 0:=by
  have e : c2 b i = (b.take i).count 86:=by
    rw [<- v6K hi]; exact y6T fun i _=>RR2 b i
  have l : (b.take i).count 86 <= b.count 86:=(List.take_sublist i b).count_le 86
  rw [e]
  cases hx : (b.take i).elem 86
  . refine List.count_eq_zero.2 fun hm=> ?_
    rw [elem_iff.2 hm] at hx; cases hx
  . have : 0 < (b.take i).count 86:=List.count_pos_iff.2 (elem_iff.1 hx)
    rw [cond_true]; omega
def scl2 (b : List UInt8) : Nat -> Nat
  | 0=> 0
  | i + 1=>scl2 b i + cond (decide (RR b i = 0) || decide (RR b i = 1)) (c2 b i) 0
theorem v2H {b : List UInt8} (h : b.count 86 <= 1) : ∀ {i : Nat}, i <= b.length -> scl2 b i = scl b i
  | 0,_=>rfl
  | i + 1,hi=>by
    show scl2 b i + _ = scl b i + _
    rw [v2H h (by omega),c2_elem (by omega) h]
    cases (decide (RR b i = 0) || decide (RR b i = 1)) <;> rfl
theorem v2G {b : List UInt8} : ∀ {i : Nat}, scl2 b i <= i * i
  | 0=>Nat.le_refl _
  | i + 1=>by
    have h1:=v2G (b:=b) (i:=i)
    have h2 : c2 b i <= i:=y0Q _ i
    show scl2 b i + _ <= _
    have h3 : (i + 1) * (i + 1) = i * i + 2 * i + 1:=by rw [Nat.add_mul,Nat.mul_add]; omega
    cases (decide (RR b i = 0) || decide (RR b i = 1)) <;> simp only [cond_true,cond_false] <;> omega
theorem v2P {R : Type} {f : Int} (hf : FI b f) (hz : ∀ c,c ∈ b -> c ≠ 0) {i : Nat} (hi : i < b.length) (p2 : List UInt8) (p3 : Bool) (p4 p5 p6 : Int) (p7 : Bool) (p10 : Bool) (p11 p12 : Int) (p13 : List Int) (k0 : Int -> Option R) :
    z4J N (ci (bt b i)) (i : Int) p2 p3 p4 p5 p6 p7 (ci (Dft b)) f p10 p11 p12 p13 k0 = k0 (RR b i):=by
  unfold z4J
  rw [show ([57, 89, 84, 73, 82] : List UInt8) = firmL from rfl,u0T,y0R,x8D (bt b i) 90 (show (90 : Int) = ci 90 from rfl),x8D (bt b i) 42 (show (42 : Int) = ci 42 from rfl),x8D (bt b i) 86 (show (86 : Int) = ci 86 from rfl),x8D (bt b i) 36 (show (36 : Int) = ci 36 from rfl),x8D (bt b i) 83 (show (83 : Int) = ci 83 from rfl),x8D (bt b i) 43 (show (43 : Int) = ci 43 from rfl),x8D (bt b i) 45 (show (45 : Int) = ci 45 from rfl)]
  have e1 : cond (cond (decide (bt b i = 90)) true (decide (bt b i = 42))) true (cond (decide (bt b i = Dft b)) (!(decide ((i : Int) = f))) false) = (zsL.elem (bt b i) || (isD b (bt b i) && sn b i)):=by
    have z : zsL.elem (bt b i) = cond (decide (bt b i = 90)) true (decide (bt b i = 42)):=by
      by_cases h1 : bt b i = 90
      . rw [h1]; rfl
      . by_cases h2 : bt b i = 42
        . rw [h2]; rfl
        . rw [decide_eq_false h1,decide_eq_false h2]
          cases h3 : zsL.elem (bt b i)
          . rfl
          . have : bt b i = 90 \/ bt b i = 42:=by simpa [zsL] using h3
            rcases this with e | e
            . exact absurd e h1
            . exact absurd e h2
    have d : cond (decide (bt b i = Dft b)) (!(decide ((i : Int) = f))) false = (isD b (bt b i) && sn b i):=by
      by_cases e : bt b i = Dft b
      . rw [decide_eq_true e,cond_true]
        have h0 : Dft b ≠ 0:=by rw [<- e]; exact hz _ (mem_bt.2 ⟨i,hi,rfl⟩)
        have hd : isD b (bt b i) = true:=by unfold isD; rw [decide_eq_true h0,decide_eq_true e]; rfl
        rw [hd,Bool.true_and]
        rcases hf with ⟨h,_⟩ | ⟨_,n,hn,rfl⟩
        . exact absurd h h0
        . by_cases hin : i = n
          . subst hin
            rw [decide_eq_true rfl]
            cases hs : sn b i
            . rfl
            . obtain ⟨_,j,hj,hj2⟩:=sn_iff.1 hs
              exact absurd hj2 (hn.2.2 j hj)
          . rw [decide_eq_false (by omega)]
            have : n < i:=by
              apply Classical.byContradiction
              intro hn2
              exact hn.2.2 i (by omega) e
            rw [sn_iff.2 ⟨h0,n,this,hn.2.1⟩]; rfl
      . rw [decide_eq_false e]
        unfold isD
        rw [decide_eq_false e,Bool.and_false]; rfl
    rw [z,d]
    cases cond (decide (bt b i = 90)) true (decide (bt b i = 42)) <;> rfl
  have e2 : cond (cond (decide (bt b i = 83)) true (decide (bt b i = 43))) true (decide (bt b i = 45)) = sgL.elem (bt b i):=by
    by_cases h1 : bt b i = 83
    . rw [h1]; rfl
    . by_cases h2 : bt b i = 43
      . rw [h2]; rfl
      . by_cases h3 : bt b i = 45
        . rw [h3]; rfl
        . rw [decide_eq_false h1,decide_eq_false h2,decide_eq_false h3]
          cases h4 : sgL.elem (bt b i)
          . rfl
          . have : bt b i = 83 \/ bt b i = 43 \/ bt b i = 45:=by simpa [sgL] using h4
            rcases this with e | e | e
            . exact absurd e h1
            . exact absurd e h2
            . exact absurd e h3
  rw [e1,e2]
  unfold RR rl
  cases firmL.elem (bt b i)
  . cases (zsL.elem (bt b i) || (isD b (bt b i) && sn b i))
    . cases decide (bt b i = 86)
      . cases decide (bt b i = 36)
        . cases sgL.elem (bt b i) <;> rfl
        . rfl
      . rfl
    . rfl
  . rfl
def rrow (b : List UInt8) (i : Nat) : List Int:=(List.range i).map (RR b)
theorem v2L (b : List UInt8) (i : Nat) : rrow b (i + 1) = rrow b i ++ [RR b i]:=by
  unfold rrow; rw [List.range_succ,List.map_append]; rfl
theorem x4R (b : List UInt8) (i : Nat) : (rrow b i).length = i:=by unfold rrow; simp
theorem z2C {b : List UInt8} {n i : Nat} (h : i < n) : x1P (rrow b n) (i : Int) = RR b i:=by
  rw [z6X,List.getD_eq_getElem?_getD,List.getElem?_eq_getElem (by rw [x4R]; exact h)]
  unfold rrow; simp
theorem c_lim (b : List UInt8) (i : Nat) : c0 b i + c1 b i + c2 b i <= i:=by
  induction i with
  | zero=>exact Nat.le_refl _
  | succ i ih =>
    have e0 : c0 b (i + 1) = c0 b i + cond (decide (RR b i = 0)) 1 0:=rfl
    have e1 : c1 b (i + 1) = c1 b i + cond (decide (RR b i = 1)) 1 0:=rfl
    have e2 : c2 b (i + 1) = c2 b i + cond (decide (RR b i = 2)) 1 0:=rfl
    rw [e0,e1,e2]
    rcases x9D b i with h | h | h | h | h | h <;> rw [h] <;> simp <;> omega
abbrev KP0 (R : Type):=List UInt8 -> Bool -> Int -> Int -> Int -> Bool -> Int -> Int -> Bool -> Int -> Int -> List Int -> Option R
abbrev KP1 (R : Type):=Bool -> List UInt8 -> Bool -> Int -> Int -> Int -> Bool -> Int -> Int -> Bool -> Int -> Int -> List Int -> Option R
theorem z9Z {R : Type} (hl : b.length <= 1000) (hN : 1100 <= N) {f : Int} (hf : FI b f) (hz : ∀ c,c ∈ b -> c ≠ 0) {k0 : KP0 R} {k1 : KP1 R} {z : Option R} (p1 : List UInt8) (p2 p6 p9 : Bool) (p10 : Int)
    (z0 : ∀ a b c d e f g h i j k l,k0 a b c d e f g h i j k l = z) (z1 : ∀ a b c d e f g h i j k l,k1 false a b c d e f g h i j k l = z) :
    iter N (z4F N b k0 k1) (0,false, 0,p1,p2, 0, 0, 0,p6,[],ci (Dft b),f,p9,p10, 0) =
      cond (x9G b && decide (b.count 86 <= 1)) (k1 true p1 p2 ((b.length - b.count 86 : Nat) : Int) ((c0 b b.length + c1 b b.length : Nat) : Int) ((scl b b.length : Nat) : Int) p6 (ci (Dft b)) f p9 p10 ((c0 b b.length : Nat) : Int) (rrow b b.length)) z:=by
  refine x7S (n:=b.length) (P:=Unit) (fun _ i=>(((c2 b i : Nat) : Int),bh b i,(i : Int),p1,p2,((i - c2 b i : Nat) : Int),((c0 b i + c1 b i : Nat) : Int),((scl2 b i : Nat) : Int),p6,rrow b i,ci (Dft b),f,p9,p10,((c0 b i : Nat) : Int))) (fun _ i=>ko b i = true)
    (fun o=>o = cond (x9G b && decide (b.count 86 <= 1)) (k1 true p1 p2 ((b.length - b.count 86 : Nat) : Int) ((c0 b b.length + c1 b b.length : Nat) : Int) ((scl b b.length : Nat) : Int) p6 (ci (Dft b)) f p9 p10 ((c0 b b.length : Nat) : Int) (rrow b b.length)) z) ?_ ?_ () rfl (by omega)
  . intro again _ hk
    unfold z4F
    simp only
    have nl : decide (((b.length : Nat) : Int) < ilen (x0Q b)) = false:=by
      have:=z2K (x0Q b)
      rw [x1K] at this; exact this
    rw [nl,cond_false,c2_count]
    have e1 : decide ((1 : Int) <= ((c0 b b.length + c1 b b.length : Nat) : Int)) = decide (1 <= c0 b b.length + c1 b b.length):=decide_eq_decide.2 (by omega)
    have e2 : decide (((c0 b b.length + c1 b b.length : Nat) : Int) <= 9) = decide (c0 b b.length + c1 b b.length <= 9):=decide_eq_decide.2 (by omega)
    have e3 : decide (((b.count 86 : Nat) : Int) <= 1) = decide (b.count 86 <= 1):=decide_eq_decide.2 (by omega)
    have e4 : decide ((0 : Int) < ((c0 b b.length : Nat) : Int)) = decide (0 < c0 b b.length):=decide_eq_decide.2 (by omega)
    rw [e1,e2,e3,e4]
    unfold x9G
    rw [hk]
    by_cases hp : b.count 86 <= 1
    . rw [decide_eq_true hp,v2H hp (Nat.le_refl _)]
      cases decide (1 <= c0 b b.length + c1 b b.length) <;> cases decide (c0 b b.length + c1 b b.length <= 9) <;> cases bh b b.length <;> cases decide (0 < c0 b b.length) <;> first | rfl | exact z1 _ _ _ _ _ _ _ _ _ _ _ _
    . rw [decide_eq_false hp,Bool.and_false]
      exact z1 _ _ _ _ _ _ _ _ _ _ _ _
  . intro again _ i hk hi hag
    have hlim:=c_lim b i
    have hs2:=v2G (b:=b) (i:=i)
    have hii : i * i <= 1000 * 1000:=Nat.mul_le_mul (by omega) (by omega)
    have e0 : c0 b (i + 1) = c0 b i + cond (decide (RR b i = 0)) 1 0:=rfl
    have e1 : c1 b (i + 1) = c1 b i + cond (decide (RR b i = 1)) 1 0:=rfl
    have e2 : c2 b (i + 1) = c2 b i + cond (decide (RR b i = 2)) 1 0:=rfl
    have es : scl2 b (i + 1) = scl2 b i + cond (decide (RR b i = 0) || decide (RR b i = 1)) (c2 b i) 0:=rfl
    have ek : ko b (i + 1) = (ko b i && !(decide (RR b i = 1) && decide (0 < c0 b i))):=rfl
    have eb : bh b (i + 1) = (bh b i || (decide (RR b i = 1) && decide (0 < c2 b i))):=rfl
    have hg:=hag ()
    rw [e0,e1,e2,es,ek,eb,hk,v2L] at hg
    unfold z4F
    simp only
    rw [y1L (b:=x0Q b) (by rw [x1K]; exact hi),cond_true,x7C (b:=x0Q b) (by rw [x1K]; exact hi),cond_true,y3X hi,v2P hf hz hi]
    have w0 : IntKind.wrap .i64 (((c2 b i : Nat) : Int) + 1) = ((c2 b i + 1 : Nat) : Int):=x2Z (by omega)
    have w1 : IntKind.wrap .i64 ((i : Int) + 1) = ((i + 1 : Nat) : Int):=x2Z (by omega)
    have w2 : IntKind.wrap .i64 (((i - c2 b i : Nat) : Int) + 1) = ((i + 1 - c2 b i : Nat) : Int):=by rw [x2Z (by omega)]; congr 1; omega
    have w3 : IntKind.wrap .i64 (((c0 b i + c1 b i : Nat) : Int) + 1) = ((c0 b i + c1 b i + 1 : Nat) : Int):=x2Z (by omega)
    have w4 : IntKind.wrap .i64 (((scl2 b i : Nat) : Int) + ((c2 b i : Nat) : Int)) = ((scl2 b i + c2 b i : Nat) : Int):=by rw [w64 (by omega) (by omega)]; omega
    have w5 : IntKind.wrap .i64 (((c0 b i : Nat) : Int) + 1) = ((c0 b i + 1 : Nat) : Int):=x2Z (by omega)
    have d1 : decide ((0 : Int) < ((c0 b i : Nat) : Int)) = decide (0 < c0 b i):=decide_eq_decide.2 (by omega)
    have d2 : decide ((0 : Int) < ((c2 b i : Nat) : Int)) = decide (0 < c2 b i):=decide_eq_decide.2 (by omega)
    rw [z3Z (show (rrow b i).length < 137438953472 by rw [x4R]; omega),cond_true,w0,w1,w2,w3,w4,w5,d1,d2]
    rcases x9D b i with h | h | h | h | h | h
    . rw [h] at hg |-
      have:=hg rfl
      simp only [decide_true,decide_false,Int.reduceEq,cond_true,cond_false,Nat.add_zero,Bool.false_and,Bool.or_false,Bool.true_or] at this |-
      rw [show c0 b i + 1 + c1 b i = c0 b i + c1 b i + 1 by omega] at this
      exact this
    . rw [h] at hg |-
      cases hz' : decide (0 < c0 b i)
      . rw [hz'] at hg
        have:=hg rfl
        simp only [decide_true,decide_false,Int.reduceEq,cond_true,cond_false,Nat.add_zero,Bool.true_and,Bool.or_true] at this |-
        rw [show c0 b i + (c1 b i + 1) = c0 b i + c1 b i + 1 by omega] at this
        have eo : (bh b i || decide (0 < c2 b i)) = cond (bh b i) true (decide (0 < c2 b i)):=by cases bh b i <;> rfl
        rw [eo] at this
        exact this
      . have : x9G b = false := by
          unfold x9G
          rw [ko_le (i:=i + 1) (by omega) (by rw [ek,h,hz',hk]; rfl)]; rfl
        rw [this]
        simp only [decide_true,decide_false,Int.reduceEq,cond_true,cond_false,Bool.false_and]
        exact z0 _ _ _ _ _ _ _ _ _ _ _ _
    . rw [h] at hg |-
      have:=hg rfl
      simp only [decide_true,decide_false,Int.reduceEq,cond_true,cond_false,Nat.add_zero,Bool.false_and,Bool.or_false] at this |-
      rw [show i + 1 - (c2 b i + 1) = i - c2 b i by omega] at this
      exact this
    . rw [h] at hg |-
      have:=hg rfl
      simp only [decide_true,decide_false,Int.reduceEq,cond_true,cond_false,Nat.add_zero,Bool.false_and,Bool.or_false] at this |-
      exact this
    . rw [h] at hg |-
      have:=hg rfl
      simp only [decide_true,decide_false,Int.reduceEq,cond_true,cond_false,Nat.add_zero,Bool.false_and,Bool.or_false] at this |-
      exact this
    . rw [h] at hg |-
      have:=hg rfl
      simp only [decide_true,decide_false,Int.reduceEq,cond_true,cond_false,Nat.add_zero,Bool.false_and,Bool.or_false] at this |-
      exact this
end Go.Yec
namespace Go.Yec
open Go
variable {N : Nat} {s b : List UInt8}
theorem z4B {b : List UInt8} {i : Nat} (h : (isD b (bt b i) && sn b i) = true) : RR b i = 0 \/ RR b i = 1:=by
  unfold RR rl
  rw [h,Bool.or_true]
  cases firmL.elem (bt b i)
  . exact .inr rfl
  . exact .inl rfl
theorem u6B {c : UInt8} (h : drL.elem c = true) : c = 36 \/ c = 83 \/ c = 43 \/ c = 45:=by simpa [drL] using h
theorem RR_dr {b : List UInt8} {i : Nat} (hd : drL.elem (bt b i) = true) (h : (isD b (bt b i) && sn b i) = false) : RR b i = cond (decide (bt b i = 36)) 5 4:=by
  unfold RR rl
  rw [h]
  rcases u6B hd with e | e | e | e <;> rw [e] <;> rfl
theorem RR_45 {b : List UInt8} {i : Nat} (h : RR b i = 4 \/ RR b i = 5) : drL.elem (bt b i) = true /\ (isD b (bt b i) && sn b i) = false:=by
  have hs : (isD b (bt b i) && sn b i) = false:=by
    cases hx : (isD b (bt b i) && sn b i)
    . rfl
    . rcases z4B hx with e | e <;> rw [e] at h <;> simp at h
  refine ⟨?_,hs⟩
  unfold RR rl at h
  rw [hs,Bool.or_false] at h
  cases h1 : firmL.elem (bt b i)
  . cases h2 : zsL.elem (bt b i)
    . by_cases h3 : bt b i = 86
      . rw [h1,h2,decide_eq_true h3] at h; simp at h
      . by_cases h4 : bt b i = 36
        . rw [h4]; rfl
        . cases h5 : sgL.elem (bt b i)
          . rw [h1,h2,decide_eq_false h3,decide_eq_false h4,h5] at h; simp at h
          . have : bt b i = 83 \/ bt b i = 43 \/ bt b i = 45:=by simpa [sgL] using h5
            rcases this with e | e | e <;> rw [e] <;> rfl
    . rw [h1,h2] at h; simp at h
  . rw [h1] at h; simp at h
theorem u3W {f : Int} (hf : FI b f) {i : Nat} (e : bt b i = Dft b) (h0 : Dft b ≠ 0) : (isD b (bt b i) && sn b i) = !(decide ((i : Int) = f)):=by
  rcases hf with ⟨h,_⟩ | ⟨_,n,hn,rfl⟩
  . exact absurd h h0
  . have hd : isD b (bt b i) = true:=by unfold isD; rw [decide_eq_true h0,decide_eq_true e]; rfl
    rw [hd,Bool.true_and]
    by_cases hin : i = n
    . subst hin
      rw [decide_eq_true rfl]
      cases hs : sn b i
      . rfl
      . obtain ⟨_,j,hj,hj2⟩:=sn_iff.1 hs
        exact absurd hj2 (hn.2.2 j hj)
    . rw [decide_eq_false (by omega)]
      have : n < i:=by
        apply Classical.byContradiction
        intro hn2
        exact hn.2.2 i (by omega) e
      rw [sn_iff.2 ⟨h0,n,this,hn.2.1⟩]; rfl
theorem FI_at {f : Int} (hf : FI b f) {i : Nat} (e : (i : Int) = f) : bt b i = Dft b /\ Dft b ≠ 0:=by
  rcases hf with ⟨_,h⟩ | ⟨h0,n,hn,rfl⟩
  . omega
  . have : i = n:=by omega
    subst this; exact ⟨hn.2.1,h0⟩
def djF (b : List UInt8) (f : Int) (j : Nat) : Bool:=cond (cond (decide (RR b j = 0)) true (decide (RR b j = 1))) true (decide ((j : Int) = f))
theorem djF_eq {f : Int} (hf : FI b f) (hz : ∀ c,c ∈ b -> c ≠ 0) {j : Nat} (hj : j < b.length) : djF b f j = dj b j:=by
  unfold djF dj
  cases h1 : decide (RR b j = 0)
  . cases h2 : decide (RR b j = 1)
    . simp only [cond_false,Bool.or_self,Bool.false_or]
      by_cases e : bt b j = Dft b
      . rw [decide_eq_true e]
        have h0 : Dft b ≠ 0:=by rw [<- e]; exact hz _ (mem_bt.2 ⟨j,hj,rfl⟩)
        have:=u3W hf e h0
        cases h3 : decide ((j : Int) = f)
        . rw [h3] at this
          rcases z4B this with h | h
          . rw [h] at h1; cases h1
          . rw [h] at h2; cases h2
        . rfl
      . rw [decide_eq_false e]
        exact decide_eq_false fun h=>e (FI_at hf h).1
    . simp
  . simp
theorem st_eq {f : Int} (hf : FI b f) (hz : ∀ c,c ∈ b -> c ≠ 0) {i : Nat} (hi : i < b.length) : cond (cond (decide (RR b i = 4)) true (decide (RR b i = 5))) (!(decide ((i : Int) = f))) false = (drL.elem (bt b i) && !(decide (bt b i = Dft b))):=by
  cases hd : drL.elem (bt b i)
  . have h4 : ¬ RR b i = 4:=fun e=>by rw [(RR_45 (.inl e)).1] at hd; cases hd
    have h5 : ¬ RR b i = 5:=fun e=>by rw [(RR_45 (.inr e)).1] at hd; cases hd
    rw [decide_eq_false h4,decide_eq_false h5]; rfl
  . by_cases e : bt b i = Dft b
    . rw [decide_eq_true e]
      have h0 : Dft b ≠ 0:=by rw [<- e]; exact hz _ (mem_bt.2 ⟨i,hi,rfl⟩)
      have h1:=u3W hf e h0
      cases h3 : decide ((i : Int) = f)
      . rw [h3] at h1
        have h2:=z4B h1
        rw [decide_eq_false (show ¬ RR b i = 4 by omega),decide_eq_false (show ¬ RR b i = 5 by omega)]; rfl
      . cases cond (decide (RR b i = 4)) true (decide (RR b i = 5)) <;> rfl
    . have hn : (isD b (bt b i) && sn b i) = false:=by unfold isD; rw [decide_eq_false e,Bool.and_false]; rfl
      have h1:=RR_dr hd hn
      have h3 : ¬ (i : Int) = f:=fun h=>e (FI_at hf h).1
      rw [decide_eq_false e,decide_eq_false h3]
      cases h4 : decide (bt b i = 36) <;> rw [h4] at h1 <;> rw [h1] <;> rfl
theorem y4Q {R : Type} (hl : b.length <= 1000) (hN : 1100 <= N) {f : Int} (hf : FI b f) (hz : ∀ c,c ∈ b -> c ≠ 0) (k0 k1 : Option R) :
    (Sta b -> iter N (y7V N f (rrow b b.length) k0 k1) (slen b, -1, 0) = k1) /\ (¬ Sta b -> iter N (y7V N f (rrow b b.length) k0 k1) (slen b, -1, 0) = k0):=by
  refine x7S (n:=b.length) (P:=Int × Int) (fun a i=>(a.1,a.2,(i : Int))) (fun a i=>(∀ j,j < i -> dj b j = true -> a.1 <= (j : Int) /\ (j : Int) <= a.2) /\ (a.1 = (b.length : Int) \/ ∃ j : Nat,j < i /\ a.1 = (j : Int) /\ dj b j = true) /\ (a.2 = -1 \/ ∃ j : Nat,j < i /\ a.2 = (j : Int) /\ dj b j = true)) (fun o=>(Sta b -> o = k1) /\ (¬ Sta b -> o = k0)) ?_ ?_ (slen b, -1) ⟨fun j h=>by omega, .inl rfl, .inl rfl⟩ (by omega)
  . rintro again ⟨lo,hi⟩ ⟨h1,h2,h3⟩
    simp only at h1 h2 h3
    unfold y7V
    have nl : decide (((b.length : Nat) : Int) < ilen (rrow b b.length)) = false:=by
      have:=z2K (rrow b b.length)
      rw [x4R] at this; exact this
    rw [nl,cond_false]
    refine x7S (n:=b.length) (P:=Unit) (fun _ i=>(i : Int)) (fun _ i=> ∀ k,k < i -> drL.elem (bt b k) = true -> bt b k ≠ Dft b -> ¬((∃ j,j < k /\ dj b j = true) /\ ∃ j,k < j /\ j < b.length /\ dj b j = true)) (fun o=>(Sta b -> o = k1) /\ (¬ Sta b -> o = k0)) ?_ ?_ () (fun k h=>by omega) (by omega)
    . intro again1 _ h
      unfold u2Z
      rw [nl,cond_false]
      exact ⟨fun _=>rfl,fun hn=>absurd h hn⟩
    . intro again1 _ i h hi' hag
      unfold u2Z
      simp only
      rw [y1L (b:=rrow b b.length) (by rw [x4R]; exact hi'),x7C (b:=rrow b b.length) (by rw [x4R]; exact hi'),cond_true,cond_true,z2C hi',st_eq hf hz hi',x2Z (i:=i) (by omega)]
      have go : (drL.elem (bt b i) = true -> bt b i ≠ Dft b -> ¬((∃ j,j < i /\ dj b j = true) /\ ∃ j,i < j /\ j < b.length /\ dj b j = true)) -> (Sta b -> again1 ((i + 1 : Nat) : Int) = k1) /\ (¬ Sta b -> again1 ((i + 1 : Nat) : Int) = k0):=fun h2=>hag () fun k hk=>by
        by_cases e : k = i
        . rw [e]; exact h2
        . exact h k (by omega)
      cases hd : drL.elem (bt b i)
      . exact go (by rw [hd]; intro h; cases h)
      . by_cases e : bt b i = Dft b
        . rw [decide_eq_true e]
          exact go fun _ hn=>absurd e hn
        . rw [decide_eq_false e]
          simp only [Bool.not_false,Bool.and_self,cond_true]
          by_cases hlo : lo < (i : Int)
          . by_cases hhi : (i : Int) < hi
            . rw [decide_eq_true hlo,decide_eq_true hhi]
              refine ⟨fun hs=> ?_,fun _=>rfl⟩
              have a1 : ∃ j,j < i /\ dj b j = true:=by
                rcases h2 with h | ⟨j,_,e1,e2⟩
                . omega
                . exact ⟨j,by omega,e2⟩
              have a2 : ∃ j,i < j /\ j < b.length /\ dj b j = true:=by
                rcases h3 with h | ⟨j,e0,e1,e2⟩
                . omega
                . exact ⟨j,by omega,e0,e2⟩
              exact absurd ⟨a1,a2⟩ (hs i hi' hd e)
            . rw [decide_eq_false hhi,decide_eq_true hlo]
              refine go fun _ _=> ?_
              rintro ⟨_,j,hj1,hj2,hj3⟩
              have:=(h1 j hj2 hj3).2
              omega
          . rw [decide_eq_false hlo]
            refine go fun _ _=> ?_
            rintro ⟨⟨j,hj1,hj3⟩,_⟩
            have:=(h1 j (by omega) hj3).1
            omega
  . rintro again ⟨lo,hi⟩ i ⟨h1,h2,h3⟩ hi' hag
    simp only at h1 h2 h3
    unfold y7V
    simp only
    rw [y1L (b:=rrow b b.length) (by rw [x4R]; exact hi'),x7C (b:=rrow b b.length) (by rw [x4R]; exact hi'),cond_true,cond_true,z2C hi',x2Z (i:=i) (by omega)]
    have:=djF_eq hf hz hi'
    unfold djF at this
    rw [this]
    cases hx : dj b i
    . rw [cond_false]
      refine hag (lo,hi) ⟨fun j hj hd=> ?_, ?_, ?_⟩
      . by_cases e : j = i
        . rw [e,hx] at hd; cases hd
        . exact h1 j (by omega) hd
      . rcases h2 with h | ⟨j,a,b,c⟩
        . exact .inl h
        . exact .inr ⟨j,by omega,b,c⟩
      . rcases h3 with h | ⟨j,a,b,c⟩
        . exact .inl h
        . exact .inr ⟨j,by omega,b,c⟩
    . rw [cond_true]
      refine hag (min lo (i : Int),max hi (i : Int)) ⟨fun j hj hd=> ?_, ?_, ?_⟩
      . simp only
        by_cases e : j = i
        . omega
        . have:=h1 j (by omega) hd; omega
      . simp only
        by_cases hm : (i : Int) <= lo
        . exact .inr ⟨i,by omega,by omega,hx⟩
        . rcases h2 with h | ⟨j,a,b,c⟩
          . omega
          . exact .inr ⟨j,by omega,by omega,c⟩
      . simp only
        by_cases hm : hi <= (i : Int)
        . exact .inr ⟨i,by omega,by omega,hx⟩
        . rcases h3 with h | ⟨j,a,b,c⟩
          . omega
          . exact .inr ⟨j,by omega,by omega,c⟩
def tirL : List UInt8:=[84, 73, 82]
def qS (b : List UInt8) (i : Nat) : Bool:=cond (decide (RR b i = 4)) true (tirL.elem (bt b i))
theorem z9M {R : Type} (hl : b.length <= 1000) (hN : 1100 <= N) (cr : Bool) (k0 : Int -> Option R) :
    iter N (z4E N b cr (rrow b b.length) k0) (0, 0) = k0 (((cnt (qS b) b.length : Nat) : Int) + cond cr 1 0):=by
  refine x7S (n:=b.length) (P:=Unit) (fun _ i=>(((cnt (qS b) i : Nat) : Int),(i : Int))) (fun _ _=>True) (fun o=>o = k0 (((cnt (qS b) b.length : Nat) : Int) + cond cr 1 0)) ?_ ?_ () trivial (by omega)
  . intro again _ _
    have:=y0Q (qS b) b.length
    unfold z4E
    have nl : decide (((b.length : Nat) : Int) < ilen (x0Q b)) = false:=by
      have:=z2K (x0Q b)
      rw [x1K] at this; exact this
    simp only [nl,cond_false]
    cases cr
    . simp
    . rw [cond_true,w64 (by omega) (by omega),cond_true]
  . intro again _ i _ hi hag
    have:=y0Q (qS b) i
    have hg:=hag () trivial
    have e0 : cnt (qS b) (i + 1) = cnt (qS b) i + cond (qS b i) 1 0:=rfl
    rw [e0] at hg
    unfold z4E
    simp only
    rw [y1L (b:=x0Q b) (by rw [x1K]; exact hi),x7C (b:=x0Q b) (by rw [x1K]; exact hi),x7C (b:=rrow b b.length) (by rw [x4R]; exact hi),cond_true,cond_true,cond_true,z2C hi,y3X hi,show ([84, 73, 82] : List UInt8) = tirL from rfl,u0T,x2Z (i:=i) (by omega),x2Z (i:=cnt (qS b) i) (by omega)]
    show (cond (qS b i) _ _) = _
    cases hq : qS b i <;> rw [hq] at hg <;> exact hg
theorem v6J {p : Nat -> Bool} {n : Nat} (h : ∀ i,i < n -> p i = false) : cnt p n = 0:=cnt_zero.2 h
theorem cnt_one {p : Nat -> Bool} {n m : Nat} (hm : m < n) (h1 : p m = true) (h : ∀ i,i < n -> i ≠ m -> p i = false) : cnt p n = 1:=by
  have a : 0 < cnt p n:=v6H hm h1
  have : ∀ k,k <= n -> cnt p k <= cond (decide (m < k)) 1 0:=by
    intro k
    induction k with
    | zero=>intro _; exact Nat.zero_le _
    | succ k ih =>
      intro hk
      have:=ih (by omega)
      show cnt p k + cond (p k) 1 0 <= _
      by_cases e : k = m
      . subst e
        rw [h1,decide_eq_true (by omega)]
        rw [decide_eq_false (by omega)] at this
        simp only [cond_true,cond_false] at this |-; omega
      . rw [h k (by omega) e]
        by_cases e2 : m < k
        . rw [decide_eq_true e2] at this
          rw [decide_eq_true (by omega)]; simpa using this
        . rw [decide_eq_false e2] at this
          rw [decide_eq_false (by omega)]; simpa using this
  have:=this n (Nat.le_refl _)
  rw [decide_eq_true hm] at this
  simp only [cond_true] at this; omega
theorem v2D (hd : DRok b) {c : UInt8} (hc : drL.elem c = true) (hc36 : c ≠ 36) : cnt (fun i=>decide (RR b i = 4) && decide (bt b i = c)) b.length = cond (b.elem c) 1 0:=by
  have h0c : c ≠ 0:=fun e=>by rw [e] at hc; revert hc; decide
  cases he : b.elem c
  . refine v6J fun i hi=> ?_
    have : bt b i ≠ c:=fun e=>by
      rw [elem_iff.2 (mem_bt.2 ⟨i,hi,e⟩)] at he; cases he
    rw [decide_eq_false this,Bool.and_false]
  . obtain ⟨n,hn⟩:=IsF.ex (elem_iff.1 he)
    rw [cond_true]
    refine cnt_one hn.1 ?_ fun i hi hne=> ?_
    . have hsn : (isD b (bt b n) && sn b n) = false := by
        cases hx : (isD b (bt b n) && sn b n)
        . rfl
        . rw [Bool.and_eq_true] at hx
          obtain ⟨h0,j,hj,hj2⟩:=sn_iff.1 hx.2
          unfold isD at hx
          rw [Bool.and_eq_true,decide_eq_true_eq,decide_eq_true_eq,hn.2.1] at hx
          exact absurd (by rw [hj2, <- hx.1.2]) (hn.2.2 j hj)
      rw [RR_dr (by rw [hn.2.1]; exact hc) hsn,hn.2.1,decide_eq_false hc36]
      simp
    . by_cases e : bt b i = c
      . have hin : n < i := by
          apply Classical.byContradiction
          intro h
          exact hn.2.2 i (by omega) e
        have h2 : 2 <= b.count c:=by
          rw [x6N]
          exact cnt_two hin hi (by simpa using hn.2.1) (by simpa using e)
        have hD : Dft b = c:=by
          rcases hd with h | ⟨h,_⟩
          . have:=z4L h hc; omega
          . apply Classical.byContradiction
            intro hne2
            have:=h c hc fun e=>hne2 e.symm
            omega
        have hsn : (isD b (bt b i) && sn b i) = true:=by
          unfold isD
          rw [e,hD,decide_eq_true h0c,decide_eq_true rfl,sn_iff.2 ⟨by rw [hD]; exact h0c,n,hin,by rw [hD]; exact hn.2.1⟩]; rfl
        rcases z4B hsn with h | h <;> rw [h] <;> rfl
      . rw [decide_eq_false e,Bool.and_false]
theorem R4_sg {i : Nat} (h : RR b i = 4) : bt b i = 83 \/ bt b i = 43 \/ bt b i = 45:=by
  obtain ⟨h1,h2⟩:=RR_45 (.inl h)
  rcases u6B h1 with e | e | e | e
  . have:=RR_dr h1 h2
    rw [h,e] at this
    simp at this
  . exact .inl e
  . exact .inr (.inl e)
  . exact .inr (.inr e)
theorem sg_cnt (hd : DRok b) : cnt (qS b) b.length = cond (b.elem 83) 1 0 + cond (b.elem 43) 1 0 + cond (b.elem 45) 1 0 + b.count 84 + b.count 73 + b.count 82:=by
  rw [<- v2D hd (c:= 83) rfl (by decide), <- v2D hd (c:= 43) rfl (by decide), <- v2D hd (c:= 45) rfl (by decide),x6N (c:= 84),x6N (c:= 73),x6N (c:= 82)]
  have tir : ∀ i,tirL.elem (bt b i) = (decide (bt b i = 84) || (decide (bt b i = 73) || decide (bt b i = 82))):=fun i=>by
    by_cases h1 : bt b i = 84
    . rw [h1]; rfl
    . by_cases h2 : bt b i = 73
      . rw [h2]; rfl
      . by_cases h3 : bt b i = 82
        . rw [h3]; rfl
        . rw [decide_eq_false h1,decide_eq_false h2,decide_eq_false h3]
          cases h4 : tirL.elem (bt b i)
          . rfl
          . have : bt b i = 84 \/ bt b i = 73 \/ bt b i = 82:=by simpa [tirL] using h4
            rcases this with e | e | e
            . exact absurd e h1
            . exact absurd e h2
            . exact absurd e h3
  have key : ∀ n,cnt (qS b) n = cnt (fun i=>decide (RR b i = 4) && decide (bt b i = 83)) n + cnt (fun i=>decide (RR b i = 4) && decide (bt b i = 43)) n + cnt (fun i=>decide (RR b i = 4) && decide (bt b i = 45)) n + cnt (fun i=>decide (bt b i = 84)) n + cnt (fun i=>decide (bt b i = 73)) n + cnt (fun i=>decide (bt b i = 82)) n:=by
    intro n
    induction n with
    | zero=>rfl
    | succ n ih =>
      unfold cnt
      rw [ih]
      have : (cond (qS b n) 1 0 : Nat) = cond (decide (RR b n = 4) && decide (bt b n = 83)) 1 0 + cond (decide (RR b n = 4) && decide (bt b n = 43)) 1 0 + cond (decide (RR b n = 4) && decide (bt b n = 45)) 1 0 + cond (decide (bt b n = 84)) 1 0 + cond (decide (bt b n = 73)) 1 0 + cond (decide (bt b n = 82)) 1 0:=by
        unfold qS
        rw [tir]
        by_cases h4 : RR b n = 4
        . rw [decide_eq_true h4]
          rcases R4_sg h4 with e | e | e <;> rw [e] <;> rfl
        . rw [decide_eq_false h4]
          by_cases h1 : bt b n = 84
          . rw [h1]; rfl
          . by_cases h2 : bt b n = 73
            . rw [h2]; rfl
            . by_cases h3 : bt b n = 82
              . rw [h3]; rfl
              . rw [decide_eq_false h1,decide_eq_false h2,decide_eq_false h3]; rfl
      rw [this]; omega
  exact key b.length
end Go.Yec
namespace Go.Yec
open Go
variable {N : Nat} {s b : List UInt8}
def K133 {R : Type} (N : Nat) (b : List UInt8) (z : Option R) (kk : KP0 R) : KD R:=(fun (r0 : List UInt8) (r1 : Bool) (r2 : Int) (r3 : Int) (r4 : Int) (r5 : Bool) (r6 : Int) (r7 : Int) (r8 : Bool) (r9 : Int) (r10 : Int)=>(cond (hOne ([42] : List UInt8)) (cond (hOne ([90] : List UInt8)) (cond (cond (cond (hHas b ([42] : List UInt8)) (hHas b ([90] : List UInt8)) false) true (cond (cond (hHas b ([42] : List UInt8)) true (hHas b ([90] : List UInt8))) (!(decide (r6 = (0 : Int)))) false)) z (u6Z N b r0 r1 r2 r3 r4 r5 r6 r7 r8 r9 r10 (fun (r11 : List UInt8) (r12 : Bool) (r13 : Int) (r14 : Int) (r15 : Int) (r16 : Bool) (r17 : Int) (r18 : Int) (r19 : Bool) (r20 : Int) (r21 : Int) (r22 : List Int)=>z) (fun (r11 : Bool) (r12 : List UInt8) (r13 : Bool) (r14 : Int) (r15 : Int) (r16 : Int) (r17 : Bool) (r18 : Int) (r19 : Int) (r20 : Bool) (r21 : Int) (r22 : Int) (r23 : List Int)=>(cond (!r11) z (u6Y N b r12 r13 r14 r15 r16 r17 r18 r19 r20 r21 r22 r23 z (u6X N b r12 r13 r14 r15 r16 r17 r18 r19 r20 r21 r22 r23 (fun (r24 : Int)=>(cond (decide ((1 : Int) < r24)) z (cond (hHas b ([42] : List UInt8)) (cond r20 (cond (apOk (List.length r23) ([(4 : Int),(4 : Int)] : List Int)) (kk r12 r13 (IntKind.wrap .i64 (r14 + (2 : Int))) r15 r16 (decide (r24 = (1 : Int))) r18 r19 r20 (42 : Int) r22 (r23 ++ ([(4 : Int),(4 : Int)] : List Int))) none) (kk r12 r13 r14 r15 r16 (decide (r24 = (1 : Int))) r18 r19 r20 (42 : Int) r22 r23)) (cond r20 (cond (apOk (List.length r23) ([(4 : Int),(4 : Int)] : List Int)) (kk r12 r13 (IntKind.wrap .i64 (r14 + (2 : Int))) r15 r16 (decide (r24 = (1 : Int))) r18 r19 r20 r21 r22 (r23 ++ ([(4 : Int),(4 : Int)] : List Int))) none) (kk r12 r13 r14 r15 r16 (decide (r24 = (1 : Int))) r18 r19 r20 r21 r22 r23))))))))))) none) none))
def u4B (s : List UInt8) : List Int:=rrow (x0K s) (x0K s).length ++ cond (crB s) [4, 4] []
def fillB (s : List UInt8) : Int:=cond ((x0K s).elem 42) 42 32
theorem y2Q (t : List UInt8) : ∀ l : List UInt8,decide (0 <= Lib.indexAny l t) = l.any fun b=>t.elem b
  | []=>rfl
  | x :: l=>by
    have ih:=y2Q t l
    have hg:=Lib.indexAny_ge t l
    unfold Lib.indexAny
    rw [List.any_cons]
    rw [<- ih]
    have hc : t.contains x = t.elem x:=(List.elem_eq_contains).symm
    rw [hc]
    cases h : t.elem x
    . rw [Bool.false_or,if_neg (by decide)]
      by_cases hm : Lib.indexAny l t = -1
      . simp [hm]
      . have h2 : (Lib.indexAny l t == -1) = false:=by simpa using hm
        rw [h2,if_neg (by decide)]
        exact decide_eq_decide.2 (by omega)
    . rw [Bool.true_or,if_pos rfl]; rfl
theorem u5K (s t : List UInt8) : hAny s t = s.any fun b=>t.elem b:=by
  unfold hAny Lib.containsAny; exact y2Q t s
theorem y9N : ∀ c : UInt8,lettersL.elem c = true -> c ≠ 0 /\ c.toNat < 128:=by
  intro c h
  have : c ∈ lettersL:=elem_iff.1 h
  simp [lettersL] at this
  rcases this with e | e | e | e | e | e | e | e | e | e | e | e | e | e | e | e | e | e | e | e <;> rw [e] <;> decide
theorem u6P {b : List UInt8} (h : ∀ c,c ∈ b -> lettersL.elem c = true) : y7M b = true:=by
  unfold y7M
  rw [List.all_eq_true]
  intro c hc
  exact decide_eq_true (y9N c (h c hc)).2
theorem body_mem {c : UInt8} (h : c ∈ x0K s) : c ∈ s:=by
  unfold x0K at h
  cases hc : crB s
  . rw [hc] at h; exact h
  . rw [hc] at h; exact List.mem_of_mem_take h
theorem v1V (p : List UInt8) : hSuf s p = decide (s.drop (s.length - p.length) = p):=by
  unfold hSuf Lib.hasSuffix
  cases h : p.isSuffixOf s
  . refine (decide_eq_false fun e=> ?_).symm
    have : p <:+ s:=List.suffix_iff_eq_drop.2 e.symm
    rw [List.isSuffixOf_iff_suffix.2 this] at h; cases h
  . refine (decide_eq_true ?_).symm
    exact (List.suffix_iff_eq_drop.1 (List.isSuffixOf_iff_suffix.1 h)).symm
theorem v0E : cond (hSuf s [67, 82]) true (hSuf s [68, 66]) = crB s:=by
  rw [v1V,v1V]
  unfold crB
  by_cases h : 2 <= s.length
  . rw [decide_eq_true h]
    show cond (decide (List.drop (s.length - 2) s = [67, 82])) true (decide (List.drop (s.length - 2) s = [68, 66])) = _
    cases decide (List.drop (s.length - 2) s = [67, 82]) <;> rfl
  . rw [decide_eq_false h,cond_false]
    have : ∀ p : List UInt8,p.length = 2 -> decide (List.drop (s.length - p.length) s = p) = false:=fun p hp=>decide_eq_false fun e=>by
      have:=congrArg List.length e
      rw [List.length_drop,hp] at this; omega
    rw [this _ rfl,this _ rfl]; rfl
theorem v0G (h : ∀ c,c ∈ s -> lettersL.elem c = true) : s.count 86 = (x0K s).count 86:=by
  unfold x0K
  cases hc : crB s
  . rfl
  . rw [cond_true]
    have e : s.count 86 = (s.take (s.length - 2)).count 86 + (s.drop (s.length - 2)).count 86:=by
      rw [<- List.count_append,List.take_append_drop]
    rw [e]
    have h2:=y1W hc
    unfold crB at hc
    rw [decide_eq_true h2,cond_true,Bool.or_eq_true,decide_eq_true_eq,decide_eq_true_eq] at hc
    rcases hc with hc | hc <;> rw [hc] <;> rfl
theorem numL_key {R : Type} (hl : s.length <= 1000) (hN : 1100 <= N) (hlet : ∀ c,c ∈ s -> lettersL.elem c = true) (hb : b = x0K s) (z : Option R) (kk : KP0 R) :
    (NumP s -> ∃ f,FI b f /\ (cond (x6K b [65, 88, 67, 68]) (cond (hAny b [65, 88, 67, 68]) z (iter N (x7G N b (fun _ _ _ _ _ _ _ _ _ _ _=>z) (K133 N b z kk)) (0,s,true, 0, 0, 0,false, 0, -1,crB s, 32, 0))) none) = kk s true ((s.length : Int) - ((s.count 86 : Nat) : Int)) ((c0 b b.length + c1 b b.length : Nat) : Int) ((scl b b.length : Nat) : Int) (decide (sgB s = 1)) (ci (Dft b)) f (crB s) (fillB s) ((c0 b b.length : Nat) : Int) (u4B s)) /\
    (¬ NumP s -> (cond (x6K b [65, 88, 67, 68]) (cond (hAny b [65, 88, 67, 68]) z (iter N (x7G N b (fun _ _ _ _ _ _ _ _ _ _ _=>z) (K133 N b z kk)) (0,s,true, 0, 0, 0,false, 0, -1,crB s, 32, 0))) none) = z):=by
  have hbl : b.length <= 1000:=by have:=y4C (s:=s); rw [hb]; omega
  have hlb : ∀ c,c ∈ b -> lettersL.elem c = true:=fun c hc=>hlet c (body_mem (by rw [<- hb]; exact hc))
  have hz0 : ∀ c,c ∈ b -> c ≠ 0:=fun c hc=>(y9N c (hlb c hc)).1
  have hok : x6K b [65, 88, 67, 68] = true:=by
    unfold x6K
    rw [y2R (by omega),y2R (by decide),u6P hlb]; rfl
  rw [hok,cond_true,u5K]
  unfold NumP
  rw [<- hb]
  cases hany : b.any fun x=>([65, 88, 67, 68] : List UInt8).elem x
  . have hall : ∀ c, c ∈ b -> nmL.elem c = false := fun c hc => by
      cases hx : nmL.elem c
      . rfl
      . rw [List.any_eq_false] at hany
        exact absurd hx (hany c hc)
    rw [cond_false]
    have key:=z3M (b:=b) hbl hN (k0:=fun _ _ _ _ _ _ _ _ _ _ _=>z)  (k3:=K133 N b z kk) (z:=z) s 0 0 0 32 0 (crB s) (fun _ _ _ _ _ _ _ _ _ _ _=>rfl)
    by_cases hd : DRok b
    . obtain ⟨f,hf,e⟩:=key.1 hd
      rw [e]
      unfold K133 u6Z
      simp only [show hOne [42] = true from rfl,show hOne [90] = true from rfl,cond_true]
      rw [y6D,y6D,y6U]
      have ez : cond (cond (b.elem 42) (b.elem 90) false) true (cond (cond (b.elem 42) true (b.elem 90)) (!(decide (Dft b = 0))) false) = !(ZsB b):=by
        unfold ZsB
        have ed : decide (Dft b ≠ 0) = !(decide (Dft b = 0)):=by simp
        rw [ed]
        cases b.elem 42 <;> cases b.elem 90 <;> cases decide (Dft b = 0) <;> rfl
      rw [ez]
      cases hzs : ZsB b
      . exact ⟨fun ⟨_,_,_,h,_⟩=>(by cases h),fun _=>rfl⟩
      rw [Bool.not_true,cond_false]
      rw [z9Z hbl hN hf hz0 (z:=z) s true false (crB s) 32 (fun _ _ _ _ _ _ _ _ _ _ _ _=>rfl) (fun _ _ _ _ _ _ _ _ _ _ _ _=>rfl)]
      cases hld : x9G b
      . exact ⟨fun ⟨_,_,_,_,h,_⟩=>(by cases h),fun _=>rfl⟩
      by_cases h86 : b.count 86 <= 1
      . rw [decide_eq_true h86]
        simp only [Bool.and_self,cond_true,Bool.not_true,cond_false]
        unfold u6Y u6X
        by_cases hst : Sta b
        . rw [(y4Q hbl hN hf hz0 _ _).1 hst,z9M hbl hN]
          have esg : ((cnt (qS b) b.length : Nat) : Int) + cond (crB s) 1 0 = sgB s:=by
            rw [sg_cnt hd]
            unfold sgB
            rw [<- hb]
            cases crB s <;> cases b.elem 83 <;> cases b.elem 43 <;> cases b.elem 45 <;> simp only [cond_true,cond_false] <;> omega
          rw [esg]
          by_cases hsg : sgB s <= 1
          . rw [decide_eq_false (show ¬ 1 < sgB s by omega),cond_false]
            refine ⟨fun _=>⟨f,hf, ?_⟩,fun h=>absurd ⟨hall,h86,hd,by first | rfl | trivial,by first | rfl | trivial,hsg,hst⟩ h⟩
            have hcl:=List.count_le_length (a:=(86 : UInt8)) (l:=b)
            have e86:=v0G hlet
            rw [<- hb] at e86
            have hlen:=u2P s
            rw [<- hb] at hlen
            have ef : fillB s = cond (b.elem 42) 42 32:=by unfold fillB; rw [<- hb]
            have er : u4B s = rrow b b.length ++ cond (crB s) [4, 4] []:=by unfold u4B; rw [<- hb]
            have hap : apOk (rrow b b.length).length [4, 4] = true:=by
              unfold apOk; exact decide_eq_true (by rw [x4R]; simp; omega)
            rw [ef,er]
            cases hc : crB s
            . rw [hc,cond_false] at hlen
              have ew : ((b.length - b.count 86 : Nat) : Int) = (s.length : Int) - ((s.count 86 : Nat) : Int):=by omega
              cases b.elem 42
              . simp only [cond_true,cond_false,List.append_nil]; rw [ew]
              . simp only [cond_true,cond_false,List.append_nil]; rw [ew]
            . rw [hc,cond_true] at hlen
              have ew : IntKind.wrap .i64 (((b.length - b.count 86 : Nat) : Int) + 2) = (s.length : Int) - ((s.count 86 : Nat) : Int):=by rw [w64 (by omega) (by omega)]; omega
              cases b.elem 42
              . simp only [cond_true,cond_false,hap]; rw [ew]
              . simp only [cond_true,cond_false,hap]; rw [ew]
          . rw [decide_eq_true (show 1 < sgB s by omega)]
            exact ⟨fun ⟨_,_,_,_,_,h,_⟩=>absurd h hsg,fun _=>rfl⟩
        . rw [(y4Q hbl hN hf hz0 _ _).2 hst]
          exact ⟨fun ⟨_,_,_,_,_,_,h⟩=>absurd h hst,fun _=>rfl⟩
      . rw [decide_eq_false h86]
        exact ⟨fun ⟨_,h,_⟩=>absurd h h86,fun _=>rfl⟩
    . rw [key.2 hd]
      exact ⟨fun ⟨_,_,h,_⟩=>absurd h hd,fun _=>rfl⟩
  . rw [cond_true]
    refine ⟨fun ⟨h,_⟩=> ?_,fun _=>rfl⟩
    obtain ⟨x,hx,hx2⟩:=List.any_eq_true.1 hany
    have:=h x hx
    unfold nmL at this
    rw [this] at hx2; cases hx2
theorem numericL {R : Type} (hl : s.length <= 1000) (hN : 1100 <= N) (hlet : ∀ c,c ∈ s -> lettersL.elem c = true) (z : Option R) (kk : KP0 R) :
    (NumP s -> ∃ f,FI (x0K s) f /\ z0N N s z kk = kk s true ((s.length : Int) - ((s.count 86 : Nat) : Int)) ((c0 (x0K s) (x0K s).length + c1 (x0K s) (x0K s).length : Nat) : Int) ((scl (x0K s) (x0K s).length : Nat) : Int) (decide (sgB s = 1)) (ci (Dft (x0K s))) f (crB s) (fillB s) ((c0 (x0K s) (x0K s).length : Nat) : Int) (u4B s)) /\
    (¬ NumP s -> z0N N s z kk = z):=by
  have key:=numL_key (b:=x0K s) hl hN hlet rfl z kk
  have : z0N N s z kk = (cond (x6K (x0K s) [65, 88, 67, 68]) (cond (hAny (x0K s) [65, 88, 67, 68]) z (iter N (x7G N (x0K s) (fun _ _ _ _ _ _ _ _ _ _ _=>z) (K133 N (x0K s) z kk)) (0,s,true, 0, 0, 0,false, 0, -1,crB s, 32, 0))) none):=by
    unfold z0N
    rw [y2R (by omega),v0E]
    have ec : cond (!(hSuf s [67, 82])) true true = true:=by cases hSuf s [67, 82] <;> rfl
    rw [ec,cond_true,cond_true]
    cases h : crB s
    . rw [y7G h]; rfl
    . rw [z3U hl h, <- y7F hl h]; rfl
  rw [this]
  exact key
end Go.Yec
namespace Go.Yec
open Go
variable {N : Nat} {o b ds : List UInt8}
def dg (b : List UInt8) (i : Nat) : Nat:=c0 b i + c1 b i
def isDig (c : UInt8) : Prop:= 48 <= ci c /\ ci c <= 57
end Go.Yec
namespace Go.Yec
open Go
variable {N : Nat} {o b ds : List UInt8}
end Go.Yec
namespace Go.Yec
open Go
variable {N : Nat} {o b ds : List UInt8}
def zr (ds : List UInt8) : Bool:=ds.all fun c=>([48] : List UInt8).elem c
def PB (b ds : List UInt8) : Bool:=decide (0 < c0 b b.length) || !(zr ds)
def stp (b ds : List UInt8) (i : Nat) : Bool:=(decide (RR b i = 0) || (decide (RR b i = 1) && !(decide (bt ds (dg b i) = 48)))) || (decide (RR b i = 2) && PB b ds)
end Go.Yec
namespace Go.Yec
open Go
variable {N : Nat} {o b ds s : List UInt8}
def dv (ds : List UInt8) : Nat:=ds.foldl (fun a c=>a * 10 + (c.toNat - 48)) 0
structure PicOk (o ds : List UInt8) : Prop where
  len : o.length <= 32
  num : NumP o
  let' : ∀ c,c ∈ o -> lettersL.elem c = true
  dsl : dg (x0K o) (x0K o).length = ds.length
  dig : ∀ k,k < ds.length -> isDig (bt ds k)
theorem PicOk.ko (h : PicOk o ds) : ko (x0K o) (x0K o).length = true:=by
  have:=h.num.2.2.2.2.1
  unfold x9G at this
  rw [Bool.and_eq_true] at this
  exact this.1
end Go.Yec
namespace Go.Yec
open Go
variable {N : Nat} {o b ds s : List UInt8}
end Go.Yec
