/-
  PICTURES, PLAIN LEAN: the reference reads a field; what a picture holds.; PICTURES, PLAIN LEAN: Parse and CheckType of both are the same.; PICTURES, PLAIN LEAN: the program writes a field.; PICTURES, PLAIN LEAN: the program writes a field, whole.
-/
import Derived.Test.YtadaoelabimmkaaGreatDoorZ5
import Derived.Test.YtadaoelabimmkaaGreatDoorZ4
set_option linter.all false
namespace Go.Yec
open Go
variable {N : Nat} {o b ds s : List UInt8}
def gdig (c : Int) : Int:=cond (y0K c) (y2R c) (cond (cond (decide (48 <= c)) (decide (c <= 57)) false) (c - 48) 0)
theorem gdig_tab : ((List.range 256).all fun k=>decide ((0 <= gdig (k : Int) /\ gdig (k : Int) <= 9) /\ ((48 <= (k : Int) /\ (k : Int) <= 57) -> y0K (k : Int) = false))) = true:=by kernel_rfl
theorem unp_tab (M : Nat) : ((List.range 256).all fun k=>decide (w2X (M + 11) (k : Int) = some (y2R (k : Int),u2Y (k : Int),y0K (k : Int)))) = true:=by kernel_rfl
theorem y7P (c : UInt8) : (0 <= gdig (ci c) /\ gdig (ci c) <= 9) /\ ((48 <= ci c /\ ci c <= 57) -> y0K (ci c) = false) :=
  of_decide_eq_true (List.all_eq_true.1 gdig_tab c.toNat (List.mem_range.2 c.toNat_lt))
theorem unp_ref (hN : 1100 <= N) (c : UInt8) : w2X N (ci c) = some (y2R (ci c),u2Y (ci c),y0K (ci c)):=by
  obtain ⟨M,rfl⟩ : ∃ M,N = M + 11:=⟨N - 11,by omega⟩
  exact of_decide_eq_true (List.all_eq_true.1 (unp_tab M) c.toNat (List.mem_range.2 c.toNat_lt))
def gD (c : UInt8) : UInt8:=UInt8.ofNat (48 + gdig (ci c)).toNat
theorem ci_gD (c : UInt8) : ci (gD c) = 48 + gdig (ci c):=by
  obtain ⟨⟨h1,h2⟩,_⟩:=y7P c
  unfold gD
  generalize gdig (ci c) = g at h1 h2 |-
  unfold ci
  rw [UInt8.toNat_ofNat']
  omega
def gs (b s : List UInt8) : Nat -> List UInt8
  | 0=>[]
  | i + 1=>gs b s i ++ cond (decide (RR b i = 0) || decide (RR b i = 1)) [gD (bt s (i - c2 b i))] []
theorem z8J (b s : List UInt8) : ∀ i,(gs b s i).length = dg b i
  | 0=>rfl
  | i + 1 => by
    show (gs b s i ++ _).length = _
    rw [List.length_append,z8J b s i,u4X]
    cases (decide (RR b i = 0) || decide (RR b i = 1)) <;> rfl
theorem gs_dig (b s : List UInt8) : ∀ i c, c ∈ gs b s i -> x8B c
  | 0,c,h=>by cases h
  | i + 1, c, h => by
    have h : c ∈ gs b s i ++ cond (decide (RR b i = 0) || decide (RR b i = 1)) [gD (bt s (i - c2 b i))] []:=h
    rcases List.mem_append.1 h with h | h
    . exact gs_dig b s i c h
    . cases hx : (decide (RR b i = 0) || decide (RR b i = 1)) <;> rw [hx] at h
      . cases h
      . have : c = gD (bt s (i - c2 b i)) := by simpa using h
        obtain ⟨⟨h1,h2⟩,_⟩:=y7P (bt s (i - c2 b i))
        unfold x8B
        rw [this,ci_gD]
        omega
theorem gs_bt (b s : List UInt8) (i : Nat) : ∀ k,k < (gs b s i).length -> x8B (bt (gs b s i) k):=fun k hk=>gs_dig b s i _ (mem_bt.2 ⟨k,hk,rfl⟩)
theorem z3K (hl : o.length <= 32) (hp : NumP o) (hlet : ∀ c,c ∈ o -> lettersL.elem c = true) (s : List UInt8) : PicOk o (gs (x0B o) s o.length) :=
  ⟨hl,hp,hlet,by rw [z8J,dg_out (b:=x0B o) (i:=o.length) (by have:=x2Z o; omega)],gs_bt _ _ _⟩
theorem at_lt (hs : s.length = o.length - c2 (x0B o) o.length) {i : Nat} (hi : i < o.length) (h2 : RR (x0B o) i ≠ 2) : i - c2 (x0B o) i < s.length:=by
  have h:=u5C (b:=x0B o) (show i + 1 <= o.length by omega)
  rw [x7Q,decide_eq_false h2,cond_false] at h
  have:=u0J (x0B o) i
  omega
def x8A (o s : List UInt8) : Bool:=decide (fldS o (gs (x0B o) s o.length) false = s) || ((decide (sgB o = 1) && decide (0 < dv (gs (x0B o) s o.length))) && decide (fldS o (gs (x0B o) s o.length) true = s))
theorem u4S (hl : o.length <= 32) (hp : NumP o) (hlet : ∀ c,c ∈ o -> lettersL.elem c = true) {i : Nat} (hi : i <= o.length) : dv (gs (x0B o) s i) < 1000000000:=by
  have h:=dv_lt (gs_bt (x0B o) s i) _ (Nat.le_refl _)
  rw [List.take_length,z8J] at h
  have h2:=(z3K hl hp hlet s).dlen
  rw [z8J] at h2
  have h3:=w0L (b:=x0B o) hi
  have : 10 ^ dg (x0B o) i <= 10 ^ 9:=Nat.pow_le_pow_right (by omega) (by omega)
  omega
theorem read_ref (hl : o.length <= 32) (hN : 1100 <= N) (hp : NumP o) (hlet : ∀ c, c ∈ o -> lettersL.elem c = true) (hs : s.length = o.length - c2 (x0B o) o.length) (z : Int) :
    ∃ v : Int,iter N (z5M N s (x2L o) (mkS o)) (0, 0, 0) = some (v,cond (x8A o s) 0 31):=by
  have hb:=x2Z o
  have hpk:=z3K hl hp hlet s
  refine x3M (n:=o.length) (P:=Unit) (fun _ i=>(((dv (gs (x0B o) s i) : Nat) : Int),((i - c2 (x0B o) i : Nat) : Int),(i : Int))) (fun _ _=>True) (fun x=> ∃ v : Int,x = some (v,cond (x8A o s) 0 31)) ?_ ?_ () trivial (by omega)
  . intro again _ _
    have hlt:=u4S (s:=s) hl hp hlet (Nat.le_refl o.length)
    unfold z5M
    simp only
    rw [decide_eq_false (show ¬ ((o.length : Nat) : Int) < slen (mkS o) by rw [x0H,x4T]; omega),cond_false]
    have f1:=z1S hpk hN (n:=((dv (gs (x0B o) s o.length) : Nat) : Int)) (.inl rfl) ((scl (x0B o) (x0B o).length : Nat) : Int) (decide (sgB o = 1))
    have f2:=z1S hpk hN (n:= -((dv (gs (x0B o) s o.length) : Nat) : Int)) (.inr rfl) ((scl (x0B o) (x0B o).length : Nat) : Int) (decide (sgB o = 1))
    rw [<- hpk.dsl] at f1 f2
    have w0 : IntKind.wrap .i64 (0 - ((dv (gs (x0B o) s o.length) : Nat) : Int)) = -((dv (gs (x0B o) s o.length) : Nat) : Int):=by rw [w64 (by omega) (by omega)]; omega
    rw [decide_eq_false (show ¬ ((dv (gs (x0B o) s o.length) : Nat) : Int) < 0 by omega)] at f1
    rw [w0]
    unfold x8A
    have e1 : u1F N (x2L o).1.1 (x2L o).1.2.1 (x2L o).1.2.2.1 (x2L o).1.2.2.2.1 (x2L o).1.2.2.2.2.1 (x2L o).1.2.2.2.2.2 ((dv (gs (x0B o) s o.length) : Nat) : Int) = some (fldS o (gs (x0B o) s o.length) false):=f1
    have e2 : u1F N (x2L o).1.1 (x2L o).1.2.1 (x2L o).1.2.2.1 (x2L o).1.2.2.2.1 (x2L o).1.2.2.2.2.1 (x2L o).1.2.2.2.2.2 (-((dv (gs (x0B o) s o.length) : Nat) : Int)) = some (fldS o (gs (x0B o) s o.length) (decide (-((dv (gs (x0B o) s o.length) : Nat) : Int) < 0))):=f2
    have e3 : (x2L o).1.2.2.2.2.2 = decide (sgB o = 1):=rfl
    rw [e1,e2,e3]
    simp only [Option.bind_some]
    have e4 : decide ((0 : Int) < ((dv (gs (x0B o) s o.length) : Nat) : Int)) = decide (0 < dv (gs (x0B o) s o.length)):=decide_eq_decide.2 (by omega)
    rw [e4]
    cases decide (fldS o (gs (x0B o) s o.length) false = s)
    . cases decide (sgB o = 1)
      . exact ⟨_,rfl⟩
      . cases hx : decide (0 < dv (gs (x0B o) s o.length))
        . exact ⟨_,rfl⟩
        . have := of_decide_eq_true hx
          rw [decide_eq_true (show -((dv (gs (x0B o) s o.length) : Nat) : Int) < 0 by omega)]
          simp only [cond_true,cond_false,Option.bind_some,Bool.false_or,Bool.true_and]
          cases decide (fldS o (gs (x0B o) s o.length) true = s)
          . exact ⟨_,rfl⟩
          . exact ⟨_,rfl⟩
    . exact ⟨_,rfl⟩
  . intro again _ i _ hi hag
    have hg:=hag () trivial
    have him : i < (mkS o).length:=by rw [x4T]; exact hi
    have hlt:=u4S (s:=s) hl hp hlet (i:=i) (by omega)
    have hlt2:=u4S (s:=s) hl hp hlet (i:=i + 1) (by omega)
    have hcl:=u0J (x0B o) i
    have hgs : gs (x0B o) s (i + 1) = gs (x0B o) s i ++ cond (decide (RR (x0B o) i = 0) || decide (RR (x0B o) i = 1)) [gD (bt s (i - c2 (x0B o) i))] []:=rfl
    rw [x7Q,hgs] at hg
    have hne : RR (x0B o) i ≠ 2 -> i - c2 (x0B o) i < s.length:=fun h=>at_lt hs hi h
    have nodig : RR (x0B o) i ≠ 0 -> RR (x0B o) i ≠ 1 -> RR (x0B o) i ≠ 2 -> ∃ v : Int,again (((dv (gs (x0B o) s i) : Nat) : Int),(((i - c2 (x0B o) i) + 1 : Nat) : Int),((i + 1 : Nat) : Int)) = some (v,cond (x8A o s) 0 31):=fun h0 h1 h2=>by
      rw [decide_eq_false h0,decide_eq_false h1,decide_eq_false h2] at hg
      have e : i + 1 - (c2 (x0B o) i + cond false 1 0) = (i - c2 (x0B o) i) + 1:=by simp only [cond_false]; omega
      rw [e] at hg
      simpa using hg
    have dig : (RR (x0B o) i = 0 \/ RR (x0B o) i = 1) -> ∀ g : Int,g = gdig (ci (bt s (i - c2 (x0B o) i))) -> ∃ v : Int,again (((dv (gs (x0B o) s i) : Nat) : Int) * 10 + g,(((i - c2 (x0B o) i) + 1 : Nat) : Int),((i + 1 : Nat) : Int)) = some (v,cond (x8A o s) 0 31):=fun h g hgg=>by
      have h2 : RR (x0B o) i ≠ 2:=by rcases h with h | h <;> rw [h] <;> decide
      have e0 : (decide (RR (x0B o) i = 0) || decide (RR (x0B o) i = 1)) = true:=by rcases h with h | h <;> rw [h] <;> rfl
      rw [e0,decide_eq_false h2,cond_true,dv_app] at hg
      have e : i + 1 - (c2 (x0B o) i + cond false 1 0) = (i - c2 (x0B o) i) + 1:=by simp only [cond_false]; omega
      rw [e] at hg
      obtain ⟨⟨h3,h4⟩,_⟩:=y7P (bt s (i - c2 (x0B o) i))
      have h5:=ci_gD (bt s (i - c2 (x0B o) i))
      unfold ci at h5
      have e6 : ((dv (gs (x0B o) s i) * 10 + ((gD (bt s (i - c2 (x0B o) i))).toNat - 48) : Nat) : Int) = ((dv (gs (x0B o) s i) : Nat) : Int) * 10 + g:=by
        rw [hgg]
        unfold ci at h3 h4 |-
        omega
      rw [e6] at hg
      exact hg
    unfold z5M
    simp only [x2P him,x0T him,cond_true,x1N (i:=i) (by omega),x1N (i:=i - c2 (x0B o) i) (by omega)]
    rw [x1L,x1L,unp_ref hN]
    simp only [Option.bind_some]
    obtain ⟨⟨g1,g2⟩,g3⟩:=y7P (bt s (i - c2 (x0B o) i))
    have w10 : IntKind.wrap .i64 (((dv (gs (x0B o) s i) : Nat) : Int) * 10) = ((dv (gs (x0B o) s i) : Nat) : Int) * 10:=w64 (by omega) (by omega)
    rw [w10]
    have digway : (RR (x0B o) i = 0 \/ RR (x0B o) i = 1) -> ∃ v : Int,(cond (inB ((i - c2 (x0B o) i : Nat) : Int) (slen s)) (cond (y0K (ci (bt s (i - c2 (x0B o) i)))) (again ((IntKind.wrap .i64 (((dv (gs (x0B o) s i) : Nat) : Int) * 10 + y2R (ci (bt s (i - c2 (x0B o) i))))),(((i - c2 (x0B o) i) + 1 : Nat) : Int),((i + 1 : Nat) : Int))) (cond (inB ((i - c2 (x0B o) i : Nat) : Int) (slen s)) (cond (cond (decide ((48 : Int) <= ci (bt s (i - c2 (x0B o) i)))) (inB ((i - c2 (x0B o) i : Nat) : Int) (slen s)) true) (cond (cond (decide ((48 : Int) <= ci (bt s (i - c2 (x0B o) i)))) (decide (ci (bt s (i - c2 (x0B o) i)) <= (57 : Int))) false) (cond (inB ((i - c2 (x0B o) i : Nat) : Int) (slen s)) (again ((IntKind.wrap .i64 (((dv (gs (x0B o) s i) : Nat) : Int) * 10 + (IntKind.wrap .i64 (IntKind.wrap .u8 (ci (bt s (i - c2 (x0B o) i)) - (48 : Int)))))),(((i - c2 (x0B o) i) + 1 : Nat) : Int),((i + 1 : Nat) : Int))) none) (again (((dv (gs (x0B o) s i) : Nat) : Int) * 10,(((i - c2 (x0B o) i) + 1 : Nat) : Int),((i + 1 : Nat) : Int)))) none) none)) none) = some (v,cond (x8A o s) 0 31):=fun h=>by
      have h2 : RR (x0B o) i ≠ 2:=by rcases h with h | h <;> rw [h] <;> decide
      rw [x0T (hne h2),cond_true]
      have key:=dig h
      unfold gdig at key g1 g2
      cases hu : y0K (ci (bt s (i - c2 (x0B o) i)))
      . rw [hu, cond_false] at key g1 g2
        simp only [cond_false,cond_true]
        cases h48 : decide ((48 : Int) <= ci (bt s (i - c2 (x0B o) i)))
        . rw [h48, cond_false, cond_false] at key
          simp only [cond_false,cond_true]
          have:=key 0 rfl
          simpa using this
        . rw [h48, cond_true] at key
          simp only [cond_true]
          cases h57 : decide (ci (bt s (i - c2 (x0B o) i)) <= (57 : Int))
          . rw [h57, cond_false] at key
            have:=key 0 rfl
            simpa using this
          . rw [h57, cond_true] at key
            have a1:=of_decide_eq_true h48
            have a2:=of_decide_eq_true h57
            rw [cond_true,w8 (by omega) (by omega),w64 (n:=ci (bt s (i - c2 (x0B o) i)) - 48) (by omega) (by omega),w64 (by omega) (by omega)]
            exact key _ rfl
      . rw [hu, cond_true] at key g1 g2
        rw [cond_true,w64 (by omega) (by omega)]
        exact key _ rfl
    by_cases hin : i < (x0B o).length
    . rw [z1E hin]
      rcases x2E (x0B o) i with h | h | h | h | h | h
      . rw [h,show ci (mkR 0) = 100 from rfl]; exact digway (.inl h)
      . rw [h,show ci (mkR 1) = 99 from rfl]; exact digway (.inr h)
      . rw [h, show ci (mkR 2) = 118 from rfl]
        rw [h] at hg
        have e : i + 1 - (c2 (x0B o) i + cond (decide ((2 : Int) = 2)) 1 0) = i - c2 (x0B o) i:=by
          rw [show (cond (decide ((2 : Int) = 2)) 1 0 : Nat) = 1 from rfl]; omega
        rw [e] at hg
        simpa using hg
      . rw [h,show ci (mkR 3) = 105 from rfl]; exact nodig (by rw [h]; decide) (by rw [h]; decide) (by rw [h]; decide)
      . rw [h,show ci (mkR 4) = 115 from rfl]; exact nodig (by rw [h]; decide) (by rw [h]; decide) (by rw [h]; decide)
      . rw [h,show ci (mkR 5) = 109 from rfl]; exact nodig (by rw [h]; decide) (by rw [h]; decide) (by rw [h]; decide)
    . have h3 := y1X (b := x0B o) (i := i) (by omega)
      rw [u8H (by omega) hi,show ci 115 = 115 from rfl]
      exact nodig (by rw [h3]; decide) (by rw [h3]; decide) (by rw [h3]; decide)
end Go.Yec
namespace Go.Yec
open Go
variable {N : Nat} {s b : List UInt8}
theorem dropWhile_nil {p : UInt8 -> Bool} {l : List UInt8} : l.dropWhile p = [] ↔ l.all p = true:=by
  induction l with
  | nil=>simp
  | cons x l ih =>
    rw [List.dropWhile_cons,List.all_cons]
    cases h : p x
    . simp
    . simpa using ih
theorem u5H {p : UInt8 -> Bool} {l : List UInt8} : l.reverse.all p = l.all p:=by simp
theorem u7B (s t : List UInt8) : decide (z8G s t = []) = s.all fun c => t.elem c := by
  have e : ∀ c,t.contains c = t.elem c:=fun c=>(List.elem_eq_contains).symm
  have h1 : Lib.trimLeftS s t = s.dropWhile (fun c=>t.elem c):=by
    unfold Lib.trimLeftS; congr 1
  have h2 : Lib.trimRightS s t = (s.reverse.dropWhile (fun c=>t.elem c)).reverse:=by
    unfold Lib.trimRightS; congr 2
  unfold z8G Lib.trimS
  have key : Lib.trimLeftS (Lib.trimRightS s t) t = [] ↔ s.all (fun c=>t.elem c) = true:=by
    have h3 : Lib.trimLeftS (Lib.trimRightS s t) t = (Lib.trimRightS s t).dropWhile (fun c=>t.elem c):=by
      unfold Lib.trimLeftS; congr 1
    rw [h3,dropWhile_nil,h2,u5H]
    cases ha : s.all (fun c=>t.elem c)
    . refine ⟨fun h => ?_, fun h => (by cases h)⟩
      exfalso
      cases hd : s.reverse.dropWhile (fun c=>t.elem c) with
      | nil =>
        rw [dropWhile_nil,u5H,ha] at hd; cases hd
      | cons x l =>
        have hx : t.elem x = false:=by
          have:=List.head?_dropWhile_not (fun c=>t.elem c) s.reverse
          rw [hd] at this
          simpa using this
        rw [hd,List.all_cons,hx] at h; cases h
    . refine ⟨fun _ => rfl, fun _ => ?_⟩
      have : s.reverse.dropWhile (fun c=>t.elem c) = []:=dropWhile_nil.2 (by rw [u5H]; exact ha)
      rw [this]; rfl
  cases ha : s.all (fun c=>t.elem c)
  . refine decide_eq_false fun h => ?_
    rw [key.1 h] at ha; cases ha
  . exact decide_eq_true (key.2 ha)
theorem y6J {R : Type} (hl : s.length <= 1000) (hN : 1100 <= N) (z : Option R) (k1 : List UInt8 -> Int -> Int -> Int -> Int -> Int -> Int -> Int -> Option R) (kk : KP0 R) :
    u1C N s z k1 kk = match mch s 0 0 [] with
      | none=>z
      | some o=>cond (chB o) (k1 o (o.length : Int) 0 0 0 0 0 0) (z2P N o z kk):=by
  unfold u1C
  refine (u3E hl hN (fun _=>z) _ ?_).trans ?_
  . intro o; rfl
  cases hm : mch s 0 0 [] with
  | none=>rfl
  | some o =>
    have hol:=x8M hm
    have hlet:=x4G hm
    have h1 : x7J o [65, 88, 57] = true:=by
      unfold x7J
      rw [x9X (by omega),x9X (by decide)]; rfl
    have h2 : x6W o [65, 88] = true:=by
      unfold x6W
      rw [x9X (by omega),x9X (by decide),v0P hlet]; rfl
    simp only [Bool.not_true,cond_false]
    rw [h1,h2,cond_true,u7B,u8W]
    have ec : cond (o.all fun c=>([65, 88, 57] : List UInt8).elem c) (o.any fun b=>([65, 88] : List UInt8).elem b) false = chB o:=by
      unfold chB
      have ea : (o.any fun b=>([65, 88] : List UInt8).elem b) = (o.elem 65 || o.elem 88):=by
        cases h : (o.elem 65 || o.elem 88)
        . rw [List.any_eq_false]
          intro x hx hx2
          have : x = 65 \/ x = 88:=by simpa using hx2
          rw [Bool.or_eq_false_iff] at h
          rcases this with e | e <;> subst e
          . rw [elem_iff.2 hx] at h; cases h.1
          . rw [elem_iff.2 hx] at h; cases h.2
        . rw [List.any_eq_true]
          rw [Bool.or_eq_true] at h
          rcases h with h | h
          . exact ⟨65,elem_iff.1 h,rfl⟩
          . exact ⟨88,elem_iff.1 h,rfl⟩
      rw [ea]
      show cond (o.all fun c=>axL.elem c) (o.elem 65 || o.elem 88) false = _
      cases (o.all fun c=>axL.elem c) <;> rfl
    rw [ec]
    have et : cond (o.all fun c=>([65, 88, 57] : List UInt8).elem c) true true = true:=by cases (o.all fun c=>([65, 88, 57] : List UInt8).elem c) <;> rfl
    rw [et,cond_true]; rfl
theorem u0Z (hl : s.length <= 1000) (hN : 1100 <= N) : F_67 N s = some (picS s) := by
  have e:=y6J (R:=PicR) hl hN (some u0T) (fun r0 r1 r2 r3 r4 _ _ _=>some ((r0,false,r1,r2,r3,false), 0)) (fun r0 r1 r2 r3 r4 r5 _ _ _ _ _ _=>some ((r0,r1,r2,r3,r4,r5), 0))
  refine Eq.trans e ?_
  unfold picS z7E
  cases hm : mch s 0 0 [] with
  | none=>rfl
  | some o =>
    have hol:=x8M hm
    simp only
    cases hc : chB o
    . rw [cond_false, if_neg (by decide)]
      have key:=y5F (s:=o) (by omega) hN (x4G hm) (some u0T) (fun r0 r1 r2 r3 r4 r5 _ _ _ _ _ _=>some ((r0,r1,r2,r3,r4,r5),(0 : Int)))
      by_cases hp : NumP o
      . obtain ⟨f, _, e2⟩ := key.1 hp
        rw [if_pos hp,e2]; rfl
      . rw [if_neg hp,key.2 hp]
    . rfl
theorem w3G (hl : s.length <= 1000) (hN : 1100 <= N) : F_60 N s = some (picS s).2:=by
  unfold F_60; rw [u0Z hl hN]; rfl
theorem w3F (hl : s.length <= 1000) (hN : 1100 <= N) : F_98 N s = some (picS s).2:=by
  unfold F_98; rw [y9X hl hN]; rfl
end Go.Yec
namespace Go.Yec
open Go
variable {N : Nat} {o b ds s : List UInt8}
theorem u7J (o : List UInt8) : (x3F o).length = o.length:=by
  have:=x2Z o
  unfold x3F
  rw [List.length_append,x3A]
  cases h : crB o <;> rw [h] at this <;> simp only [cond_true,cond_false,List.length_nil,List.length_cons] at this |- <;> omega
theorem rs_lo {i : Nat} (h : i < (x0B o).length) : x0U (x3F o) (i : Int) = RR (x0B o) i:=by
  rw [<- y4Y (b:=x0B o) (n:=(x0B o).length) h,x8P,x8P]
  unfold x3F
  rw [List.getD_eq_getElem?_getD,List.getD_eq_getElem?_getD,List.getElem?_append_left (by rw [x3A]; exact h)]
theorem rs_hi {i : Nat} (h : (x0B o).length <= i) (h2 : i < o.length) : x0U (x3F o) (i : Int) = 4:=by
  have hl:=x2Z o
  rw [x8P]
  unfold x3F
  rw [List.getD_eq_getElem?_getD,List.getElem?_append_right (by rw [x3A]; exact h),x3A]
  cases hc : crB o
  . rw [hc,cond_false] at hl; omega
  . rw [hc, cond_true] at hl
    have : i - (x0B o).length = 0 \/ i - (x0B o).length = 1:=by omega
    rcases this with e | e <;> rw [e] <;> rfl
theorem c2_none {i : Nat} (hP : PB b ds = true) (hi : i <= b.length) (hn : ∀ j,j < i -> j < b.length -> stp b ds j = false) : c2 b i = 0:=cnt_zero.2 fun j hj=>by
  have:=hn j hj (by omega)
  cases hy : decide (RR b j = 2)
  . rfl
  . exfalso
    unfold stp at this
    rw [hy,hP] at this
    simp at this
theorem w0D {R : Type} (hol : o.length <= 100) (hN : 1100 <= N) (hds : dg (x0B o) (x0B o).length = ds.length) (k0 : Int -> Option R) :
    iter N (y9Z N ((c0 (x0B o) (x0B o).length : Nat) : Int) (x3F o) ds k0) (0, 0, 0) = k0 (ldS (x0B o) ds):=by
  have hrl:=u7J o
  have hbl:=x2Z o
  have hPe : cond (decide ((0 : Int) < ((c0 (x0B o) (x0B o).length : Nat) : Int))) true (!(decide ((z8G ds ([48] : List UInt8)) = ([] : List UInt8)))) = PB (x0B o) ds:=by
    rw [u7B]
    unfold PB zr
    rw [show decide ((0 : Int) < ((c0 (x0B o) (x0B o).length : Nat) : Int)) = decide (0 < c0 (x0B o) (x0B o).length) from decide_eq_decide.2 (by omega)]
    cases decide (0 < c0 (x0B o) (x0B o).length) <;> rfl
  refine x3M (n:=o.length) (P:=Unit) (fun _ i=>(((i - c2 (x0B o) i : Nat) : Int),((dg (x0B o) i : Nat) : Int),(i : Int))) (fun _ i=> ∀ j,j < i -> j < (x0B o).length -> stp (x0B o) ds j = false) (fun x=>x = k0 (ldS (x0B o) ds)) ?_ ?_ () (fun j h=>absurd h (Nat.not_lt_zero j)) (by omega)
  . intro again _ hno
    unfold y9Z
    simp only
    rw [decide_eq_false (show ¬ ((o.length : Nat) : Int) < ilen (x3F o) by rw [x2B]; omega),cond_false]
    unfold ldS
    rw [v8F fun j hj=>hno j (by omega) hj]
  . intro again _ i hno hi hag
    have hir : i < (x3F o).length:=by omega
    have hdl:=v3S (x0B o) i
    have hcl:=u0J (x0B o) i
    unfold y9Z
    simp only [x5K hir,x3L hir,cond_true,x1N (i:=i) (by omega),x1N (i:=dg (x0B o) i) (by omega),x1N (i:=i - c2 (x0B o) i) (by omega),hPe]
    rw [x1L]
    by_cases hin : i < (x0B o).length
    . rw [rs_lo hin]
      have hit : stp (x0B o) ds i = true -> PB (x0B o) ds = true -> k0 ((i - c2 (x0B o) i : Nat) : Int) = k0 (ldS (x0B o) ds):=fun hs hP=>by
        rw [v7P hin hs fun j hj=>hno j hj (by omega),c2_none hP (by omega) hno,Nat.sub_zero]
      have nx : stp (x0B o) ds i = false -> again (((i + 1 - c2 (x0B o) (i + 1) : Nat) : Int),((dg (x0B o) (i + 1) : Nat) : Int),((i + 1 : Nat) : Int)) = k0 (ldS (x0B o) ds):=fun hs=>hag () fun j hj hjb=>by
        by_cases e : j = i
        . rw [e]; exact hs
        . exact hno j (by omega) hjb
      have nx1 : stp (x0B o) ds i = false -> RR (x0B o) i ≠ 2 -> again (((i - c2 (x0B o) i + 1 : Nat) : Int),((dg (x0B o) (i + 1) : Nat) : Int),((i + 1 : Nat) : Int)) = k0 (ldS (x0B o) ds):=fun hs h2=>by
        have:=nx hs
        rw [x7Q,decide_eq_false h2] at this
        rw [show i + 1 - (c2 (x0B o) i + cond false 1 0) = i - c2 (x0B o) i + 1 by simp only [cond_false]; omega] at this
        exact this
      unfold stp at hit nx nx1
      rcases x2E (x0B o) i with h | h | h | h | h | h
      . have hP : PB (x0B o) ds = true := by
          unfold PB
          rw [decide_eq_true (show 0 < c0 (x0B o) (x0B o).length from y3C hin (by rw [h]; rfl))]; rfl
        rw [h] at hit |-; exact hit rfl hP
      . have hd : dg (x0B o) i < ds.length := by rw [<- hds]; exact w0M hin (.inr h)
        rw [y4K (.inr h)] at nx1
        rw [h] at hit nx1 |-
        rw [x0T hd,x3S (bt ds (dg (x0B o) i)) 48 (show (48 : Int) = ci 48 from rfl)]
        cases hx : decide (bt ds (dg (x0B o) i) = 48)
        . have hP : PB (x0B o) ds = true := by
            unfold PB
            cases hz : zr ds
            . simp
            . rw [zr_iff.1 hz _ hd] at hx; cases hx
          rw [hx] at hit; exact hit rfl hP
        . rw [hx] at nx1; exact nx1 rfl (by decide)
      . rw [x5U (by rw [h]; decide) (by rw [h]; decide)] at nx
        rw [h] at hit nx |-
        cases hP : PB (x0B o) ds
        . rw [hP, x7Q, h] at nx
          have e : i + 1 - (c2 (x0B o) i + cond (decide ((2 : Int) = 2)) 1 0) = i - c2 (x0B o) i:=by
            rw [show (cond (decide ((2 : Int) = 2)) 1 0 : Nat) = 1 from rfl]; omega
          rw [e] at nx
          exact nx rfl
        . rw [hP] at hit
          exact hit rfl rfl
      . rw [x5U (by rw [h]; decide) (by rw [h]; decide)] at nx1
        rw [h] at nx1 |-
        exact nx1 rfl (by decide)
      . rw [x5U (by rw [h]; decide) (by rw [h]; decide)] at nx1
        rw [h] at nx1 |-
        exact nx1 rfl (by decide)
      . rw [x5U (by rw [h]; decide) (by rw [h]; decide)] at nx1
        rw [h] at nx1 |-
        exact nx1 rfl (by decide)
    . have h3 := y1X (b := x0B o) (i := i) (by omega)
      rw [rs_hi (by omega) hi]
      have:=hag () fun j hj hjb=>hno j (by omega) hjb
      rw [x7Q,x5U (by rw [h3]; decide) (by rw [h3]; decide),h3] at this
      rw [show i + 1 - (c2 (x0B o) i + cond (decide ((3 : Int) = 2)) 1 0) = i - c2 (x0B o) i + 1 by rw [show (cond (decide ((3 : Int) = 2)) 1 0 : Nat) = 0 from rfl]; omega] at this
      exact this
theorem ends_own {R : Type} (h : PicOk o ds) (hN : 1100 <= N) (q1 : Bool) (q2 q3 q4 : Int) (q5 : Bool) (q6 q7 : Int) (q8 : Bool) (q9 : Int) (q13 : Bool) (q14 q15 q16 : Int) (k0 : Int -> Option R) :
    w2Q N o q1 q2 q3 q4 q5 q6 q7 q8 q9 ((c0 (x0B o) (x0B o).length : Nat) : Int) (x3F o) ds q13 q14 q15 q16 k0 = k0 (LD (x0B o) ds):=by
  have hol:=h.len
  have hrl:=u7J o
  have hbl:=x2Z o
  have hdl:=h.dlen
  unfold w2Q
  have ht : x7J ds [48] = true:=by
    unfold x7J
    rw [x9X (by omega),x9X (by decide)]; rfl
  rw [ht,cond_true]
  refine x3M (n:=o.length) (P:=Unit) (fun _ i=>(false,(i : Int))) (fun _ i=> ∀ j,j < i -> j < (x0B o).length -> RR (x0B o) j ≠ 0 /\ RR (x0B o) j ≠ 1) (fun x=>x = k0 (LD (x0B o) ds)) ?_ ?_ () (fun j h=>absurd h (Nat.not_lt_zero j)) (by omega)
  . intro again _ hno
    unfold u5V
    simp only
    rw [decide_eq_false (show ¬ ((o.length : Nat) : Int) < ilen (x3F o) by rw [x2B]; omega),cond_false]
    have hc1 : c1 (x0B o) (x0B o).length = 0:=cnt_zero.2 fun j hj=>decide_eq_false (hno j (by omega) hj).2
    unfold LD
    rw [hc1]; rfl
  . intro again _ i hno hi hag
    have hir : i < (x3F o).length:=by omega
    unfold u5V
    simp only [x5K hir,x3L hir,cond_true,x1N (i:=i) (by omega)]
    rw [w0D (by omega) hN h.dsl]
    by_cases hin : i < (x0B o).length
    . rw [rs_lo hin]
      have nx : RR (x0B o) i ≠ 0 -> RR (x0B o) i ≠ 1 -> again (false,((i + 1 : Nat) : Int)) = k0 (LD (x0B o) ds):=fun h0 h1=>hag () fun j hj hjb=>by
        by_cases e : j = i
        . rw [e]; exact ⟨h0,h1⟩
        . exact hno j (by omega) hjb
      rcases x2E (x0B o) i with hr | hr | hr | hr | hr | hr
      . have hc1 : c1 (x0B o) (x0B o).length = 0 := cnt_zero.2 fun j hj => decide_eq_false fun e => by
          rcases Nat.lt_trichotomy j i with hlt | rfl | hlt
          . exact (hno j hlt hj).2 e
          . rw [hr] at e; cases e
          . exact v7Q h.ko hlt hj hr e
        rw [hr]
        unfold LD
        rw [hc1]; rfl
      . have hc1 : c1 (x0B o) (x0B o).length ≠ 0 := by
          have : 0 < c1 (x0B o) (x0B o).length:=y3C hin (by rw [hr]; rfl)
          omega
        rw [hr]
        unfold LD
        rw [decide_eq_false hc1]; rfl
      . rw [hr] at nx |-; exact nx (by decide) (by decide)
      . rw [hr] at nx |-; exact nx (by decide) (by decide)
      . rw [hr] at nx |-; exact nx (by decide) (by decide)
      . rw [hr] at nx |-; exact nx (by decide) (by decide)
    . rw [rs_hi (by omega) hi]
      exact hag () fun j hj hjb=>hno j (by omega) hjb
theorem z3B {c : UInt8} (h : c = 83 \/ c = 43 \/ c = 45) (m : Bool) : cond (cond (decide (ci c = (83 : Int))) m false) 45 (cond (decide (ci c = (83 : Int))) 43 (cond ((decide (ci c = (43 : Int))) == m) 32 (ci c))) = sgnC (ci c) m:=by
  rcases h with rfl | rfl | rfl <;> cases m <;> rfl
theorem v8G (h : PicOk o ds) (hd : Dft (x0B o) ≠ 0) : x4B o = 32:=by
  unfold x4B
  rw [(h.zs hd).2]; rfl
theorem LD_neg (h : PicOk o ds) : decide (LD (x0B o) ds < 0) = (!(decide (c1 (x0B o) (x0B o).length = 0)) && !(PB (x0B o) ds)) := by
  unfold LD
  cases hc : decide (c1 (x0B o) (x0B o).length = 0)
  . rw [cond_false]
    cases hP : PB (x0B o) ds
    . have hn : ∀ j, j < (x0B o).length -> stp (x0B o) ds j = false := fun j hj => by
        have hP2:=hP
        unfold PB at hP2
        rw [Bool.or_eq_false_iff,Bool.not_eq_false',decide_eq_false_iff_not] at hP2
        have r0 : decide (RR (x0B o) j = 0) = false:=by
          refine decide_eq_false fun e=>hP2.1 ?_
          exact y3C hj (by rw [e]; rfl)
        unfold stp
        rw [r0,hP,Bool.and_false]
        cases h1 : decide (RR (x0B o) j = 1)
        . rfl
        . have hd : dg (x0B o) j < ds.length := by rw [<- h.dsl]; exact w0M hj (.inr (of_decide_eq_true h1))
          rw [zr_iff.1 hP2.2 _ hd]; rfl
      unfold ldS
      rw [v8F hn]; rfl
    . have := (ld_le h hP).1
      rw [decide_eq_false (show ¬ ldS (x0B o) ds < 0 by omega)]; rfl
  . rfl
theorem v5V (o : List UInt8) : x6J (x4B o) = [(x4B o).toNat.toUInt8]:=by
  unfold x4B
  cases (x0B o).elem 42
  . exact rs_sp
  . exact rs_st
where
  rs_sp : x6J 32 = [32]:=by kernel_rfl
  rs_st : x6J 42 = [42]:=by kernel_rfl
end Go.Yec
namespace Go.Yec
open Go
variable {N : Nat} {o b ds s : List UInt8}
theorem FI_dr {f : Int} (hf : FI b f) {i : Nat} (e : (i : Int) = f) : isD b (bt b i) = true:=by
  obtain ⟨h1,h2⟩:=v4S hf e
  unfold isD
  rw [decide_eq_true h2,decide_eq_true h1]; rfl
theorem FI_no {f : Int} (hf : FI b f) {i : Nat} (hr : RR b i = 4 \/ RR b i = 5) (e : (i : Int) ≠ f) : isD b (bt b i) = false:=by
  cases hx : isD b (bt b i)
  . rfl
  . exfalso
    unfold isD at hx
    rw [Bool.and_eq_true,decide_eq_true_eq,decide_eq_true_eq] at hx
    have h1:=y4U hf hx.2 hx.1
    rw [(u5L hr).2,decide_eq_false e] at h1
    cases h1
theorem w3D {f : Int} (hf : FI b f) {i : Nat} (e : (i : Int) = f) : RR b i = 4 \/ RR b i = 5:=by
  obtain ⟨h1,h2⟩:=v4S hf e
  have hdr:=v1B h2
  have h3:=y4U hf h1 h2
  rw [decide_eq_true e] at h3
  have:=w2A (b:=b) (i:=i) (by rw [h1]; exact hdr) h3
  rw [this]
  cases decide (bt b i = 36) <;> simp
theorem v6D (c : UInt8) : ∀ n,Lib.repeatL [c] n = List.replicate n c
  | 0=>rfl
  | n + 1=>by show [c] ++ Lib.repeatL [c] n = _; rw [v6D c n]; rfl
theorem z6C (h : PicOk o ds) (hN : 1100 <= N) {f : Int} (hf : FI (x0B o) f) (sc : Int) (sg m : Bool) (dd : Int) :
    ∃ q,u6P N o true ((o.length : Int) - ((o.count 86 : Nat) : Int)) dd sc sg (x3F o) (ci (Dft (x0B o))) f (crB o) (x4B o) ((c0 (x0B o) (x0B o).length : Nat) : Int) ds m = some (fldS o ds m,q):=by
  have hol:=h.len
  have hdl:=h.dlen
  have hbl:=x2Z o
  have hrl:=u7J o
  rw [z6E h.let']
  unfold u6P
  rw [ends_own h hN,LD_neg h]
  unfold fldS
  cases hcond : (!(decide (c1 (x0B o) (x0B o).length = 0)) && !(PB (x0B o) ds))
  . rw [cond_false, cond_false]
    have hLD : 0 <= LD (x0B o) ds /\ LD (x0B o) ds <= ((o.length - c2 (x0B o) o.length : Nat) : Int):=by
      unfold LD
      cases hc : decide (c1 (x0B o) (x0B o).length = 0)
      . rw [hc] at hcond
        have hP : PB (x0B o) ds = true:=by cases hx : PB (x0B o) ds <;> rw [hx] at hcond <;> first | rfl | cases hcond
        exact ld_le h hP
      . rw [cond_true]; omega
    have hDd : Dft (x0B o) ≠ 0 -> 1 <= LD (x0B o) ds:=fun hd=>by
      obtain ⟨d1,d2⟩:=y3B h hd
      unfold LD
      rw [decide_eq_false d1,cond_false]
      refine d2 ?_
      rw [decide_eq_false d1] at hcond
      cases hx : PB (x0B o) ds <;> rw [hx] at hcond <;> first | rfl | cases hcond
    generalize LD (x0B o) ds = L at hLD hDd
    refine x3M (n:=o.length) (P:=Unit) (fun _ i=>(outS o ds m L i,(i : Int),ds,m,((dg (x0B o) i : Nat) : Int),(((outS o ds m L i).length : Nat) : Int),L)) (fun _ _=>True) (fun x=> ∃ q,x = some (finS o ds m L,q)) ?_ ?_ () trivial (by omega)
    . intro again _ _
      have hlen:=y1F (o:=o) (ds:=ds) m L o.length
      unfold u6B
      simp only
      rw [decide_eq_false (show ¬ ((o.length : Nat) : Int) < ilen (x3F o) by rw [x2B]; omega),cond_false]
      unfold v0W finS
      rw [x8S,x3S (Dft (x0B o)) 36 (show (36 : Int) = ci 36 from rfl)]
      by_cases hd : Dft (x0B o) = 0
      . rw [hd]; exact ⟨_,rfl⟩
      . have h1 := hDd hd
        rw [decide_eq_false hd,decide_eq_true (show (0 : Int) < L by omega),w64 (n:=L - 1) (by omega) (by omega),x6V (i:=L - 1) (n:=ilen (outS o ds m L o.length)) (by omega) (by rw [x2B]; omega)]
        rcases x9M (v1B hd) with e | e | e | e
        . rw [e]; exact ⟨_,rfl⟩
        . have := z3B (c := Dft (x0B o)) (.inl e) m
          rw [e] at this |-
          cases m <;> exact ⟨_,rfl⟩
        . have := z3B (c := Dft (x0B o)) (.inr (.inl e)) m
          rw [e] at this |-
          cases m <;> exact ⟨_,rfl⟩
        . have := z3B (c := Dft (x0B o)) (.inr (.inr e)) m
          rw [e] at this |-
          cases m <;> exact ⟨_,rfl⟩
    . intro again _ i _ hi hag
      have hg:=hag () trivial
      have hlen:=y1F (o:=o) (ds:=ds) m L i
      have ho : outS o ds m L (i + 1) = outS o ds m L i ++ itS o ds m L i (outS o ds m L i).length:=rfl
      rw [ho] at hg
      have hg1 : ∀ x,itS o ds m L i (outS o ds m L i).length = [x] -> ∃ q,again (outS o ds m L i ++ [x],((i + 1 : Nat) : Int),ds,m,((dg (x0B o) (i + 1) : Nat) : Int),(((outS o ds m L i).length + 1 : Nat) : Int),L) = some (finS o ds m L,q):=fun x e=>by
        rw [e,List.length_append] at hg
        exact hg
      have hg0 : itS o ds m L i (outS o ds m L i).length = [] -> ∃ q,again (outS o ds m L i,((i + 1 : Nat) : Int),ds,m,((dg (x0B o) (i + 1) : Nat) : Int),(((outS o ds m L i).length : Nat) : Int),L) = some (finS o ds m L,q):=fun e=>by
        rw [e,List.append_nil] at hg
        exact hg
      clear hg ho
      have hir : i < (x3F o).length:=by omega
      have hdl2:=v3S (x0B o) i
      unfold u6B
      simp only [x5K hir,x3L hir,x0T hi,cond_true,x1N (i:=i) (by omega),x9Q (show (outS o ds m L i).length < 137438953472 by omega),x1N (i:=(outS o ds m L i).length) (by omega)]
      rw [x1L]
      unfold Fk_172 Fk_173 Fk_174 v0W Fk_176 w2P
      simp only [x1N (i:=dg (x0B o) i) (by omega),x1N (i:=(outS o ds m L i).length) (by omega)]
      rw [show IntKind.wrap .i64 (((dg (x0B o) i + 1 : Nat) : Int) - 1) = ((dg (x0B o) i : Nat) : Int) by rw [w64 (by omega) (by omega)]; omega,x1L]
      by_cases hin : i < (x0B o).length
      . rw [rs_lo hin]
        rw [v7T hin] at hg0
        have hg1 : ∀ x,_ = [x] -> _:=fun x e=>hg1 x ((v7T hin).trans e)
        have hcr : cond (crB o) (decide (IntKind.wrap .i64 (slen o - 2) <= (i : Int))) false = false:=by
          cases hc : crB o
          . rfl
          . rw [hc, cond_true] at hbl
            rw [cond_true,x0H,w64 (by omega) (by omega)]
            exact decide_eq_false (by omega)
        rw [hcr]
        have hdd : RR (x0B o) i = 0 \/ RR (x0B o) i = 1 -> dg (x0B o) i < ds.length:=fun h2=>by rw [<- h.dsl]; exact w0M hin h2
        have hnf : RR (x0B o) i ≠ 4 -> RR (x0B o) i ≠ 5 -> decide ((i : Int) = f) = false:=fun h4 h5=>decide_eq_false fun e=>by
          rcases w3D hf e with h6 | h6
          . exact h4 h6
          . exact h5 h6
        rcases x2E (x0B o) i with hr | hr | hr | hr | hr | hr
        . have hd := hdd (.inl hr)
          rw [hnf (by rw [hr]; decide) (by rw [hr]; decide)]
          rw [y4K (.inl hr),hr] at hg1
          rw [hr,x0T hd]
          cases hx : cond (decide (ci (bt o i) = 89)) (decide (ci (bt ds (dg (x0B o) i)) = 48)) false
          . cases hy : cond (cond (decide (ci (bt o i) = 84)) true (cond (decide (ci (bt o i) = 73)) (!m) false)) true (cond (decide (ci (bt o i) = 82)) m false)
            . exact hg1 _ (by unfold u3D; rw [hx,hy]; rfl)
            . exact hg1 _ (by unfold u3D; rw [hx,hy]; rfl)
          . exact hg1 _ (by unfold u3D; rw [hx]; rfl)
        . have hd := hdd (.inr hr)
          rw [hnf (by rw [hr]; decide) (by rw [hr]; decide)]
          rw [y4K (.inr hr),hr] at hg1
          rw [hr,x0T hd]
          cases hx : decide ((((outS o ds m L i).length : Nat) : Int) < L)
          . exact hg1 _ (by rw [hx]; rfl)
          . exact hg1 _ (by rw [hx]; rfl)
        . rw [x5U (by rw [hr]; decide) (by rw [hr]; decide), hr] at hg0
          rw [hr]
          exact hg0 rfl
        . rw [hnf (by rw [hr]; decide) (by rw [hr]; decide)]
          rw [x5U (by rw [hr]; decide) (by rw [hr]; decide),hr] at hg1
          rw [hr,x3S (bt o i) 66 (show (66 : Int) = ci 66 from rfl)]
          cases hx : decide (bt o i = 66)
          . cases hy : decide ((((outS o ds m L i).length : Nat) : Int) < L)
            . exact hg1 _ (by rw [hx,hy]; rfl)
            . exact hg1 _ (by rw [hx,hy]; rfl)
          . exact hg1 _ (by rw [hx]; rfl)
        . have hbb := y9B hin
          by_cases e : (i : Int) = f
          . have hd := FI_dr hf e
            rw [hbb] at hd
            have hfill:=v8G h (v4S hf e).2
            rw [decide_eq_true e,hr,hfill]
            rw [x5U (by rw [hr]; decide) (by rw [hr]; decide),hr,hd] at hg1
            exact hg1 _ rfl
          . have hd := FI_no hf (.inl hr) e
            rw [hbb] at hd
            have h4:=R4_sg hr
            rw [hbb] at h4
            have hs:=z3B h4 m
            rw [decide_eq_false e,hr]
            rw [x5U (by rw [hr]; decide) (by rw [hr]; decide),hr,hd,cond_false, <- hs] at hg1
            cases hx : cond (decide (ci (bt o i) = (83 : Int))) m false
            . cases hy : decide (ci (bt o i) = (83 : Int))
              . cases hz : ((decide (ci (bt o i) = (43 : Int))) == m)
                . exact hg1 _ (by rw [hx,hy,hz]; rfl)
                . exact hg1 _ (by rw [hx,hy,hz]; rfl)
              . exact hg1 _ (by rw [hx,hy]; rfl)
            . exact hg1 _ (by rw [hx]; rfl)
        . have hbb := y9B hin
          by_cases e : (i : Int) = f
          . have hd := FI_dr hf e
            rw [hbb] at hd
            have hfill:=v8G h (v4S hf e).2
            rw [decide_eq_true e,hr,hfill]
            rw [x5U (by rw [hr]; decide) (by rw [hr]; decide),hr,hd] at hg1
            exact hg1 _ rfl
          . have hd := FI_no hf (.inr hr) e
            rw [hbb] at hd
            have hc : bt o i = 36:=by
              have h5:=u5L (.inr hr)
              rw [hbb] at h5
              rcases x9M h5.1 with e2 | e2 | e2 | e2
              . exact e2
              all_goals
                exfalso
                have:=w2A (b:=x0B o) (i:=i) (by rw [hbb]; exact h5.1) (by rw [hbb]; exact h5.2)
                rw [hr,hbb,e2] at this
                revert this; decide
            rw [decide_eq_false e,hr]
            rw [x5U (by rw [hr]; decide) (by rw [hr]; decide),hr,hd,hc] at hg1
            rw [hc]
            exact hg1 _ rfl
      . have hb2 : (x0B o).length <= i := by omega
        obtain ⟨c1',c2',c3'⟩:=cr_at hb2 hi
        have h3:=y1X hb2
        have hnf : decide ((i : Int) = f) = false:=decide_eq_false fun e=>by
          have:=w3D hf e
          rw [h3] at this
          rcases this with h6 | h6 <;> revert h6 <;> decide
        have hcr : cond (crB o) (decide (IntKind.wrap .i64 (slen o - 2) <= (i : Int))) false = true:=by
          have h2:=x7N c1'
          rw [c1',cond_true,x0H,w64 (by omega) (by omega)]
          exact decide_eq_true (by omega)
        have eit : itS o ds m L i (outS o ds m L i).length = [cond m (ci (bt o i)) 32]:=by
          unfold itS
          rw [decide_eq_false hin,cond_false]
        have hg2:=hg1 _ eit
        rw [rs_hi hb2 hi,hnf,hcr]
        rw [x5U (by rw [h3]; decide) (by rw [h3]; decide)] at hg2
        cases m
        . exact hg2
        . exact hg2
  . rw [cond_true, cond_true, v5V]
    have hW : o.length - c2 (x0B o) o.length <= 32:=by omega
    generalize o.length - c2 (x0B o) o.length = W at hW
    have hok : z1N [(x4B o).toNat.toUInt8] (W : Int) = true:=by
      unfold z1N
      rw [decide_eq_true (show (0 : Int) <= (W : Int) by omega),decide_eq_true (show (W : Int) <= 9223372036854775807 by omega),decide_eq_true (by simp; omega)]; rfl
    have hrep : hRep [(x4B o).toNat.toUInt8] (W : Int) = List.replicate W (x4B o).toNat.toUInt8:=by
      unfold hRep
      rw [Int.toNat_natCast,v6D]
    rw [hok,hrep]
    exact ⟨_,rfl⟩
end Go.Yec
