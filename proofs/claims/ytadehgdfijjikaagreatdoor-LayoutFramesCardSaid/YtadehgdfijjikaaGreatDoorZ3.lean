/-
  PICTURES, PLAIN LEAN: what a numeric specification is; how the reference reads one.; PICTURES, PLAIN LEAN: what drifts, by the reference.; PICTURES, PLAIN LEAN: roles, by the reference.; PICTURES, PLAIN LEAN: leading digits, signs, what stands still, character pictures, by the reference.
-/
import Derived.Test.YtadehgdfijjikaaGreatDoorZ2
set_option linter.all false
namespace Go.Yec
open Go
def drL : List UInt8:=[36, 83, 43, 45]
def insL : List UInt8:=[44, 46, 47, 66, 86]
def firmL : List UInt8:=[57, 89, 84, 73, 82]
def crB (s : List UInt8) : Bool:=cond (decide (2 <= s.length)) (decide (s.drop (s.length - 2) = [67, 82]) || decide (s.drop (s.length - 2) = [68, 66])) false
def x0K (s : List UInt8) : List UInt8:=cond (crB s) (s.take (s.length - 2)) s
def isDr (b : List UInt8) (c : UInt8) : Bool:=drL.elem c && decide (2 <= b.count c)
def Dft (b : List UInt8) : UInt8:=(b.find? (isDr b)).getD 0
theorem Dft_hit {b : List UInt8} {i : Nat} (hi : i < b.length) (h : isDr b (bt b i) = true) (hn : ∀ j,j < i -> isDr b (bt b j) = false) : Dft b = bt b i:=by
  unfold Dft
  rw [List.find?_eq_some_iff_getElem.2 ⟨h,i,hi,(x3W hi).symm,fun j hj=>by rw [<- x3W (by omega),hn j hj]; rfl⟩]
  rfl
theorem u7A {b : List UInt8} (hn : ∀ j,j < b.length -> isDr b (bt b j) = false) : Dft b = 0:=by
  unfold Dft
  rw [List.find?_eq_none.2 ?_]
  . rfl
  . intro x hx
    obtain ⟨i,hi,rfl⟩:=mem_bt.1 hx
    rw [hn i hi]; decide
theorem z4M {b : List UInt8} (h : Dft b ≠ 0) : isDr b (Dft b) = true:=by
  unfold Dft at h |-
  cases hf : b.find? (isDr b) with
  | none=>rw [hf] at h; exact absurd rfl h
  | some c=>exact List.find?_some hf
theorem z4L {b : List UInt8} (h : Dft b = 0) {c : UInt8} (hc : drL.elem c = true) : b.count c < 2:=by
  apply Classical.byContradiction
  intro hn
  have h1 : isDr b c = true:=by unfold isDr; rw [hc,decide_eq_true (by omega)]; rfl
  have hm : c ∈ b:=List.count_pos_iff.1 (by omega)
  unfold Dft at h
  cases hf : b.find? (isDr b) with
  | none=>exact absurd h1 (List.find?_eq_none.1 hf c hm)
  | some x =>
    rw [hf] at h
    have h2:=List.find?_some hf
    have h3 : x = 0:=h
    rw [h3] at h2
    unfold isDr at h2
    rw [show drL.elem 0 = false from rfl] at h2; cases h2
theorem Dft_only {b : List UInt8} {c : UInt8} (hc : isDr b c = true) (h : ∀ x,drL.elem x = true -> x ≠ c -> b.count x < 2) : Dft b = c:=by
  have h0 : Dft b ≠ 0:=fun e=>by
    unfold isDr at hc
    simp only [Bool.and_eq_true,decide_eq_true_eq] at hc
    have:=z4L e hc.1
    omega
  have h1:=z4M h0
  apply Classical.byContradiction
  intro hne
  unfold isDr at h1
  simp only [Bool.and_eq_true,decide_eq_true_eq] at h1
  have:=h _ h1.1 hne
  omega
def IsF (b : List UInt8) (c : UInt8) (f : Nat) : Prop:=f < b.length /\ bt b f = c /\ ∀ i,i < f -> bt b i ≠ c
def IsL (b : List UInt8) (c : UInt8) (l : Nat) : Prop:=l < b.length /\ bt b l = c /\ ∀ i,l < i -> i < b.length -> bt b i ≠ c
theorem IsF.uniq {b : List UInt8} {c : UInt8} {f g : Nat} (h : IsF b c f) (h' : IsF b c g) : f = g:=by
  rcases Nat.lt_trichotomy f g with h1 | h1 | h1
  . exact absurd h.2.1 (h'.2.2 f h1)
  . exact h1
  . exact absurd h'.2.1 (h.2.2 g h1)
theorem IsL.uniq {b : List UInt8} {c : UInt8} {f g : Nat} (h : IsL b c f) (h' : IsL b c g) : f = g:=by
  rcases Nat.lt_trichotomy f g with h1 | h1 | h1
  . exact absurd h'.2.1 (h.2.2 g h1 h'.1)
  . exact h1
  . exact absurd h.2.1 (h'.2.2 f h1 h.1)
theorem IsF.ex {b : List UInt8} {c : UInt8} (h : c ∈ b) : ∃ f,IsF b c f:=by
  obtain ⟨i,hi,e⟩:=mem_bt.1 h
  have : ∀ n, ∀ i,i < n -> i < b.length -> bt b i = c -> ∃ f,IsF b c f:=by
    intro n
    induction n with
    | zero=>intro i h; omega
    | succ n ih =>
      intro i h1 h2 h3
      by_cases hx : ∃ j,j < i /\ bt b j = c
      . obtain ⟨j,h4,h5⟩:=hx
        exact ih j (by omega) (by omega) h5
      . exact ⟨i,h2,h3,fun j hj e=>hx ⟨j,hj,e⟩⟩
  exact this (i + 1) i (by omega) hi e
def DOK (b : List UInt8) (c : UInt8) : Prop:= ∃ f l,IsF b c f /\ IsL b c l /\ (∀ i,i < f -> bt b i ≠ 86) /\ ∀ i,f <= i -> i <= l -> bt b i = c \/ insL.elem (bt b i) = true
def DRok (b : List UInt8) : Prop:=Dft b = 0 \/ ((∀ x,drL.elem x = true -> x ≠ Dft b -> b.count x < 2) /\ DOK b (Dft b))
variable {N : Nat} {s : List UInt8}
theorem x3S (hl : s.length <= 1000) (hN : 1100 <= N) (c : UInt8) : x7H N s (ci c) = some ((s.count c : Nat) : Int):=by
  unfold x7H
  refine x7S (n:=s.length) (P:=Nat) (fun n i=>((n : Int),(i : Int))) (fun n i=>n = cnt (fun i=>decide (bt s i = c)) i) (fun o=>o = some ((s.count c : Nat) : Int)) ?_ ?_ 0 rfl (by omega)
  . intro again a h
    unfold u3B
    simp only [x4S,cond_false,h,x6N]
  . intro again a i h hi hag
    have:=y0Q (fun i=>decide (bt s i = c)) i
    unfold u3B
    simp only [x6A hi,x2U hi,cond_true,x2Z (i:=i) (by omega),x2Z (i:=a) (by omega)]
    rw [x3T,y0R]
    cases hc : decide (bt s i = c)
    . exact hag a (by rw [h]; show _ = _ + cond (decide (bt s i = c)) 1 0; rw [hc]; rfl)
    . exact hag (a + 1) (by rw [h]; show _ = _ + cond (decide (bt s i = c)) 1 0; rw [hc]; rfl)
theorem HasL (l : List UInt8) (hl : l.length <= 1000) (hN : 1100 <= N) (c : UInt8) : x2C N l (ci c) = some (l.elem c):=u6W l c N (by omega) (by omega)
theorem x6T (hl : s.length <= 1000) (hN : 1100 <= N) : z4K N s = some (ci (Dft s)):=by
  unfold z4K
  refine x7S (n:=s.length) (P:=Unit) (fun _ i=>(i : Int)) (fun _ i=> ∀ j,j < i -> isDr s (bt s j) = false) (fun o=>o = some (ci (Dft s))) ?_ ?_ () (fun j h=>by omega) (by omega)
  . intro again a h
    unfold u2U
    simp only [x4S,cond_false,u7A h]; rfl
  . intro again a i h hi hag
    unfold u2U
    simp only [x6A hi,x2U hi,cond_true,x3T,x2Z (i:=i) (by omega),show ([36, 83, 43, 45] : List UInt8) = drL from rfl,HasL drL (by decide) hN,x3S hl hN,Option.bind_some]
    have step : isDr s (bt s i) = false -> again ((i + 1 : Nat) : Int) = some (ci (Dft s)):=fun e=>hag () fun j hj=>by
      by_cases hji : j = i
      . rw [hji]; exact e
      . exact h j (by omega)
    cases hd : drL.elem (bt s i)
    . exact step (by unfold isDr; rw [hd]; rfl)
    . simp only [cond_true,Option.bind_some]
      by_cases h2 : 2 <= s.count (bt s i)
      . rw [decide_eq_true (by omega : (2 : Int) <= _),cond_true,Dft_hit hi (by unfold isDr; rw [hd,decide_eq_true h2]; rfl) h]
      . rw [decide_eq_false (by omega : ¬ (2 : Int) <= _)]
        exact step (by unfold isDr; rw [decide_eq_false h2,hd]; rfl)
theorem v1Y {s : List UInt8} {n : Nat} : ssub s ((n : Nat) : Int) (slen s) = s.drop n:=by
  unfold ssub
  rw [x0P,Int.toNat_natCast,Int.toNat_natCast,List.take_of_length_le (by simp)]
theorem y4R {s : List UInt8} {n : Nat} : ssub s 0 ((n : Nat) : Int) = s.take n:=by
  unfold ssub
  rw [Int.toNat_natCast]; rfl
theorem wlen2 (hl : s.length <= 1000) (h : 2 <= s.length) : IntKind.wrap .i64 ((slen s) - 2) = ((s.length - 2 : Nat) : Int):=by
  rw [x0P,w64 (by omega) (by omega)]; omega
theorem x5B (hl : s.length <= 1000) : y7W N s = some (crB s):=by
  unfold y7W crB
  by_cases h : 2 <= s.length
  . rw [wlen2 hl h,v1Y,decide_eq_true (show (2 : Int) <= slen s by rw [x0P]; omega),decide_eq_true h,decide_eq_true (show 0 <= ((s.length - 2 : Nat) : Int) /\ ((s.length - 2 : Nat) : Int) <= slen s by rw [x0P]; omega)]
    simp only [cond_true]
    cases decide (List.drop (s.length - 2) s = [67, 82]) <;> cases decide (List.drop (s.length - 2) s = [68, 66]) <;> rfl
  . rw [decide_eq_false (show ¬ (2 : Int) <= slen s by rw [x0P]; omega),decide_eq_false h]; rfl
theorem y1W (h : crB s = true) : 2 <= s.length:=by
  unfold crB at h
  by_cases h2 : 2 <= s.length
  . exact h2
  . rw [decide_eq_false h2] at h; cases h
theorem y7F (hl : s.length <= 1000) (h : crB s = true) : ssub s 0 (IntKind.wrap .i64 ((slen s) - 2)) = x0K s:=by
  rw [wlen2 hl (y1W h),y4R]
  unfold x0K
  rw [h]; rfl
theorem z3U (hl : s.length <= 1000) (h : crB s = true) : decide (0 <= (IntKind.wrap .i64 ((slen s) - 2)) /\ (IntKind.wrap .i64 ((slen s) - 2)) <= slen s) = true:=by
  rw [wlen2 hl (y1W h)]
  exact decide_eq_true (by rw [x0P]; omega)
theorem y7G (h : crB s = false) : x0K s = s:=by unfold x0K; rw [h]; rfl
theorem y4C : (x0K s).length <= s.length:=by
  unfold x0K
  cases crB s
  . exact Nat.le_refl _
  . simp only [cond_true,List.length_take]; omega
end Go.Yec
namespace Go.Yec
open Go
variable {N : Nat} {s : List UInt8}
def FL (s : List UInt8) (d : UInt8) (a : Int × Int) (i : Nat) : Prop :=
  (a = (-1, -1) /\ ∀ j,j < i -> bt s j ≠ d) \/ ∃ f l : Nat,a = ((f : Int),(l : Int)) /\ f < i /\ l < i /\ bt s f = d /\ bt s l = d /\ (∀ j,j < f -> bt s j ≠ d) /\ ∀ j,l < j -> j < i -> bt s j ≠ d
theorem FL.no {s : List UInt8} {d : UInt8} {a : Int × Int} {i : Nat} (h : FL s d a i) (hn : bt s i ≠ d) : FL s d a (i + 1):=by
  rcases h with ⟨rfl,h⟩ | ⟨f,l,rfl,h1,h2,h3,h4,h5,h6⟩
  . refine .inl ⟨rfl,fun j hj=> ?_⟩
    by_cases e : j = i
    . rw [e]; exact hn
    . exact h j (by omega)
  . refine .inr ⟨f,l,rfl,by omega,by omega,h3,h4,h5,fun j h7 h8=> ?_⟩
    by_cases e : j = i
    . rw [e]; exact hn
    . exact h6 j h7 (by omega)
theorem FL.end {s : List UInt8} {d : UInt8} {a : Int × Int} (h : FL s d a s.length) (hm : d ∈ s) : ∃ f l : Nat,a = ((f : Int),(l : Int)) /\ IsF s d f /\ IsL s d l:=by
  rcases h with ⟨rfl,h⟩ | ⟨f,l,rfl,h1,h2,h3,h4,h5,h6⟩
  . obtain ⟨i,hi,e⟩:=mem_bt.1 hm
    exact absurd e (h i hi)
  . exact ⟨f,l,rfl,⟨h1,h3,h5⟩,h2,h4,h6⟩
theorem y6P (hl : s.length <= 1000) (hN : 1100 <= N) : (DRok s -> z9C N s = some true) /\ (¬ DRok s -> z9C N s = some false):=by
  unfold z9C
  rw [x6T hl hN]
  simp only [Option.bind_some]
  by_cases hd : Dft s = 0
  . rw [hd]
    exact ⟨fun _=>rfl,fun h=>absurd (.inl hd) h⟩
  have hdr:=z4M hd
  unfold isDr at hdr
  simp only [Bool.and_eq_true,decide_eq_true_eq] at hdr
  have hmem : Dft s ∈ s:=List.count_pos_iff.1 (by omega)
  generalize hde : Dft s = d at hd hdr hmem
  have hd0 : ¬ ci d = 0:=fun e=>hd ((ci_eq (c:=d) (d:= 0)).1 e)
  rw [decide_eq_false hd0,cond_false]
  refine x7S (n:=s.length) (P:=Int × Int) (fun a i=>(a.1,a.2,(i : Int))) (fun a i=>FL s d a i /\ ∀ j,j < i -> bt s j ≠ d -> drL.elem (bt s j) = true -> s.count (bt s j) < 2) (fun o=>(DRok s -> o = some true) /\ (¬ DRok s -> o = some false)) ?_ ?_ (-1, -1) ⟨.inl ⟨rfl,fun j h=>by omega⟩,fun j h=>by omega⟩ (by omega)
  . rintro again a ⟨h1,h2⟩
    obtain ⟨f,l,rfl,hf,hL⟩:=h1.end hmem
    unfold u2X
    simp only [x4S,cond_false]
    have hll:=hL.1
    have hff:=hf.1
    have hot : ∀ x,drL.elem x = true -> x ≠ d -> s.count x < 2:=fun x hx hne=>by
      apply Classical.byContradiction
      intro hn
      obtain ⟨j,hj,rfl⟩:=mem_bt.1 (List.count_pos_iff.1 (by omega : 0 < s.count x))
      exact hn (h2 j hj hne hx)
    refine x7S (n:=l) (P:=Unit) (fun _ i=>(i : Int)) (fun _ i=> ∀ j,j < i -> (j < f -> bt s j ≠ 86) /\ (f < j -> bt s j = d \/ insL.elem (bt s j) = true)) (fun o=>(DRok s -> o = some true) /\ (¬ DRok s -> o = some false)) ?_ ?_ () (fun j h=>by omega) (by omega)
    . intro again2 _ h3
      unfold u2Y
      rw [decide_eq_false (show ¬ ((l : Nat) : Int) < ((l : Nat) : Int) by omega),cond_false]
      have : DRok s:= .inr (by
        rw [hde]
        refine ⟨hot,f,l,hf,hL,fun i hi=> ?_,fun i h4 h5=> ?_⟩
        . have hfl : f <= l := by
            apply Classical.byContradiction
            intro hn
            exact hL.2.2 f (by omega) hff hf.2.1
          exact (h3 i (by omega)).1 hi
        . by_cases e1 : i = f
          . rw [e1]; exact .inl hf.2.1
          . by_cases e2 : i = l
            . rw [e2]; exact .inl hL.2.1
            . exact (h3 i (by omega)).2 (by omega))
      exact ⟨fun _=>rfl,fun h=>absurd this h⟩
    . intro again2 _ i h3 hi hag
      unfold u2Y
      simp only [decide_eq_true (show ((i : Nat) : Int) < ((l : Nat) : Int) by omega),cond_true,x2U (show i < s.length by omega),x2Z (i:=i) (by omega),show ([44, 46, 47, 66, 86] : List UInt8) = insL from rfl]
      have no : (bt s i = 86 /\ i < f \/ f < i /\ bt s i ≠ d /\ insL.elem (bt s i) = false) -> (DRok s -> some false = some true) /\ (¬ DRok s -> some false = some false):=by
        intro hb
        refine ⟨fun h=> ?_,fun _=>rfl⟩
        rcases h with h | ⟨_,f',l',h4,h5,h6,h7⟩
        . rw [hde] at h; exact absurd h hd
        . rw [hde] at h4 h5 h7
          have:=h4.uniq hf
          have:=h5.uniq hL
          subst_vars
          rcases hb with ⟨hb1,hb2⟩ | ⟨hb1,hb2,hb3⟩
          . exact absurd hb1 (h6 i hb2)
          . rcases h7 i (by omega) (by omega) with h8 | h8
            . exact absurd h8 hb2
            . rw [hb3] at h8; cases h8
      have yes : (i < f -> bt s i ≠ 86) -> (f < i -> bt s i = d \/ insL.elem (bt s i) = true) -> (DRok s -> again2 ((i + 1 : Nat) : Int) = some true) /\ (¬ DRok s -> again2 ((i + 1 : Nat) : Int) = some false):=fun h4 h5=>hag () fun j hj=>by
        by_cases e : j = i
        . rw [e]; exact ⟨h4,h5⟩
        . exact h3 j (by omega)
      rw [x3T,HasL insL (by decide) hN,y0R,x8D (bt s i) 86 (show (86 : Int) = ci 86 from rfl)]
      by_cases hif : i < f
      . rw [decide_eq_true (show ((i : Nat) : Int) < ((f : Nat) : Int) by omega),decide_eq_false (show ¬ ((f : Nat) : Int) < ((i : Nat) : Int) by omega)]
        simp only [cond_true,cond_false,Option.bind_some]
        by_cases h86 : bt s i = 86
        . rw [decide_eq_true h86]
          exact no (.inl ⟨h86,hif⟩)
        . rw [decide_eq_false h86]
          exact yes (fun _=>h86) (fun h=>by omega)
      . rw [decide_eq_false (show ¬ ((i : Nat) : Int) < ((f : Nat) : Int) by omega)]
        simp only [cond_true,cond_false]
        by_cases hfi : f < i
        . rw [decide_eq_true (show ((f : Nat) : Int) < ((i : Nat) : Int) by omega)]
          simp only [cond_true]
          by_cases hc : bt s i = d
          . rw [decide_eq_true hc]
            exact yes (fun h=>by omega) (fun _=> .inl hc)
          . rw [decide_eq_false hc]
            simp only [Bool.not_false,cond_true,Option.bind_some]
            cases he : insL.elem (bt s i)
            . exact no (.inr ⟨hfi,hc,he⟩)
            . exact yes (fun h=>by omega) (fun _=> .inr he)
        . rw [decide_eq_false (show ¬ ((f : Nat) : Int) < ((i : Nat) : Int) by omega)]
          simp only [cond_false,cond_true,Option.bind_some]
          exact yes (fun h=>by omega) (fun h=>by omega)
  . rintro again a i ⟨h1,h2⟩ hi hag
    unfold u2X
    simp only [x6A hi,x2U hi,cond_true,x2Z (i:=i) (by omega),show ([36, 83, 43, 45] : List UInt8) = drL from rfl]
    rw [x3T,y0R,HasL drL (by decide) hN,x3S hl hN]
    by_cases hc : bt s i = d
    . rw [decide_eq_true hc,cond_true]
      have h2' : ∀ j,j < i + 1 -> bt s j ≠ d -> drL.elem (bt s j) = true -> s.count (bt s j) < 2:=fun j hj=>by
        by_cases e : j = i
        . rw [e]; exact fun h=>absurd hc h
        . exact h2 j (by omega)
      rcases h1 with ⟨rfl,h⟩ | ⟨f,l,rfl,h3,h4,h5,h6,h7,h8⟩
      . rw [decide_eq_true (show (-1 : Int) < 0 by decide),cond_true]
        exact hag ((i : Int),(i : Int)) ⟨.inr ⟨i,i,rfl,by omega,by omega,hc,hc,h,fun j h3 h4=>by omega⟩,h2'⟩
      . rw [decide_eq_false (show ¬ ((f : Nat) : Int) < 0 by omega),cond_false]
        exact hag ((f : Int),(i : Int)) ⟨.inr ⟨f,i,rfl,by omega,by omega,h5,hc,h7,fun j h3 h4=>by omega⟩,h2'⟩
    . rw [decide_eq_false hc,cond_false]
      simp only [Option.bind_some]
      have go : (drL.elem (bt s i) = true -> s.count (bt s i) < 2) -> (DRok s -> again (a.1,a.2,((i + 1 : Nat) : Int)) = some true) /\ (¬ DRok s -> again (a.1,a.2,((i + 1 : Nat) : Int)) = some false):=fun h=>hag a ⟨h1.no hc,fun j hj=>by
        by_cases e : j = i
        . rw [e]; exact fun _=>h
        . exact h2 j (by omega)⟩
      cases he : drL.elem (bt s i)
      . exact go (by rw [he]; intro h; cases h)
      . simp only [cond_true,Option.bind_some]
        by_cases h3 : 2 <= s.count (bt s i)
        . rw [decide_eq_true (show (2 : Int) <= ((s.count (bt s i) : Nat) : Int) by omega),cond_true]
          refine ⟨fun h=> ?_,fun _=>rfl⟩
          rcases h with h | ⟨h4,_⟩
          . rw [hde] at h; exact absurd h hd
          . rw [hde] at h4
            have:=h4 _ he hc
            omega
        . rw [decide_eq_false (show ¬ (2 : Int) <= ((s.count (bt s i) : Nat) : Int) by omega),cond_false]
          exact go (fun _=>by omega)
end Go.Yec
namespace Go.Yec
open Go
variable {N : Nat} {s b : List UInt8}
def zsL : List UInt8:=[90, 42]
def sgL : List UInt8:=[83, 43, 45]
def isD (b : List UInt8) (c : UInt8) : Bool:=decide (Dft b ≠ 0) && decide (c = Dft b)
def sn (b : List UInt8) : Nat -> Bool
  | 0=>false
  | i + 1=>sn b i || isD b (bt b i)
def rl (dr seen : Bool) (c : UInt8) : Int:=cond (firmL.elem c) 0 (cond (zsL.elem c || (dr && seen)) 1 (cond (decide (c = 86)) 2 (cond (decide (c = 36)) 5 (cond (sgL.elem c) 4 3))))
def RR (b : List UInt8) (i : Nat) : Int:=rl (isD b (bt b i)) (sn b i) (bt b i)
def mkR (r : Int) : UInt8:=cond (decide (r = 0)) 100 (cond (decide (r = 1)) 99 (cond (decide (r = 2)) 118 (cond (decide (r = 5)) 109 (cond (decide (r = 4)) 115 105))))
theorem x9D (b : List UInt8) (i : Nat) : RR b i = 0 \/ RR b i = 1 \/ RR b i = 2 \/ RR b i = 3 \/ RR b i = 4 \/ RR b i = 5:=by
  unfold RR rl
  cases firmL.elem (bt b i)
  . cases (zsL.elem (bt b i) || (isD b (bt b i) && sn b i))
    . cases decide (bt b i = 86)
      . cases decide (bt b i = 36)
        . cases sgL.elem (bt b i) <;> simp
        . simp
      . simp
    . simp
  . simp
def mrow (b : List UInt8) (i : Nat) : List Int:=(List.range i).map fun j=>ci (mkR (RR b j))
def x9T (b : List UInt8) : List UInt8:=(List.range b.length).map fun j=>mkR (RR b j)
theorem v3P (b : List UInt8) (i : Nat) : mrow b (i + 1) = mrow b i ++ [ci (mkR (RR b i))]:=by
  unfold mrow; rw [List.range_succ,List.map_append]; rfl
theorem mrow_len (b : List UInt8) (i : Nat) : (mrow b i).length = i:=by unfold mrow; simp
theorem x3K (b : List UInt8) : (x9T b).length = b.length:=by unfold x9T; simp
theorem y5J (b : List UInt8) : x1M (mrow b b.length) = x9T b:=by
  rw [<- x6Y (x9T b)]
  congr 1
  unfold mrow x9T x0Q
  rw [List.map_map]; rfl
theorem z2P {b : List UInt8} {i : Nat} (h : i < b.length) : bt (x9T b) i = mkR (RR b i):=by
  rw [x3W (by rw [x3K]; exact h)]
  unfold x9T; simp
def mkS (s : List UInt8) : List UInt8:=x9T (x0K s) ++ cond (crB s) [115, 115] []
theorem y6U (d : UInt8) : decide (ci d = 0) = decide (d = 0):=x8D d 0 rfl
def G146 (N : Nat) (a0 : List UInt8) (r1 : Int) (fin : List Int -> Option (List UInt8)) (again2 : List Int × Bool × Int -> Option (List UInt8)) (x2 : List Int × Bool × Int) : Option (List UInt8):=(cond (decide (x2.2.2 < (slen a0))) (cond (inB x2.2.2 (slen a0)) (Option.bind (x2C N ([57, 89, 84, 73, 82] : List UInt8) (sget a0 x2.2.2)) (fun (r3 : Bool)=>(cond r3 (cond (apOk (List.length x2.1) ([(100 : Int)] : List Int)) (again2 ((x2.1 ++ ([(100 : Int)] : List Int)),(cond x2.2.1 true (cond (!(decide (r1 = (0 : Int)))) (decide ((sget a0 x2.2.2) = r1)) false)),(IntKind.wrap .i64 (x2.2.2 + (1 : Int))))) none) (Option.bind (x2C N ([90, 42] : List UInt8) (sget a0 x2.2.2)) (fun (r4 : Bool)=>(cond (cond r4 true (cond (cond (!(decide (r1 = (0 : Int)))) (decide ((sget a0 x2.2.2) = r1)) false) x2.2.1 false)) (cond (apOk (List.length x2.1) ([(99 : Int)] : List Int)) (again2 ((x2.1 ++ ([(99 : Int)] : List Int)),(cond x2.2.1 true (cond (!(decide (r1 = (0 : Int)))) (decide ((sget a0 x2.2.2) = r1)) false)),(IntKind.wrap .i64 (x2.2.2 + (1 : Int))))) none) (cond (decide ((sget a0 x2.2.2) = (86 : Int))) (cond (apOk (List.length x2.1) ([(118 : Int)] : List Int)) (again2 ((x2.1 ++ ([(118 : Int)] : List Int)),(cond x2.2.1 true (cond (!(decide (r1 = (0 : Int)))) (decide ((sget a0 x2.2.2) = r1)) false)),(IntKind.wrap .i64 (x2.2.2 + (1 : Int))))) none) (cond (decide ((sget a0 x2.2.2) = (36 : Int))) (cond (apOk (List.length x2.1) ([(109 : Int)] : List Int)) (again2 ((x2.1 ++ ([(109 : Int)] : List Int)),(cond x2.2.1 true (cond (!(decide (r1 = (0 : Int)))) (decide ((sget a0 x2.2.2) = r1)) false)),(IntKind.wrap .i64 (x2.2.2 + (1 : Int))))) none) (Option.bind (x2C N ([83, 43, 45] : List UInt8) (sget a0 x2.2.2)) (fun (r5 : Bool)=>(cond r5 (cond (apOk (List.length x2.1) ([(115 : Int)] : List Int)) (again2 ((x2.1 ++ ([(115 : Int)] : List Int)),(cond x2.2.1 true (cond (!(decide (r1 = (0 : Int)))) (decide ((sget a0 x2.2.2) = r1)) false)),(IntKind.wrap .i64 (x2.2.2 + (1 : Int))))) none) (cond (apOk (List.length x2.1) ([(105 : Int)] : List Int)) (again2 ((x2.1 ++ ([(105 : Int)] : List Int)),(cond x2.2.1 true (cond (!(decide (r1 = (0 : Int)))) (decide ((sget a0 x2.2.2) = r1)) false)),(IntKind.wrap .i64 (x2.2.2 + (1 : Int))))) none)))))))))))) none) (fin x2.1))
theorem z9A (hl : b.length <= 1000) (hN : 1100 <= N) (fin : List Int -> Option (List UInt8)) : iter N (G146 N b (ci (Dft b)) fin) ([],false, 0) = fin (mrow b b.length):=by
  refine x7S (n:=b.length) (P:=Unit) (fun _ i=>(mrow b i,sn b i,(i : Int))) (fun _ _=>True) (fun o=>o = fin (mrow b b.length)) ?_ ?_ () trivial (by omega)
  . intro again _ _
    unfold G146
    simp only [x4S,cond_false]
  . intro again _ i _ hi hag
    have hg:=hag () trivial
    rw [v3P] at hg
    unfold G146
    simp only [x6A hi,x2U hi,cond_true,x2Z (i:=i) (by omega),mrow_len,z3Z (show i < 137438953472 by omega),show ([57, 89, 84, 73, 82] : List UInt8) = firmL from rfl,show ([90, 42] : List UInt8) = zsL from rfl,show ([83, 43, 45] : List UInt8) = sgL from rfl]
    rw [x3T,HasL firmL (by decide) hN,HasL zsL (by decide) hN,HasL sgL (by decide) hN,y0R,y6U,x8D (bt b i) 86 (show (86 : Int) = ci 86 from rfl),x8D (bt b i) 36 (show (36 : Int) = ci 36 from rfl)]
    have e1 : cond (!(decide (Dft b = 0))) (decide (bt b i = Dft b)) false = isD b (bt b i):=by
      unfold isD
      cases h : decide (Dft b = 0)
      . rw [decide_eq_true (of_decide_eq_false h)]; rfl
      . rw [decide_eq_false (fun h2 : Dft b ≠ 0=>h2 (of_decide_eq_true h))]; rfl
    have e2 : cond (sn b i) true (isD b (bt b i)) = sn b (i + 1):=by show _ = (sn b i || _); cases sn b i <;> rfl
    rw [e1,e2]
    simp only [Option.bind_some]
    unfold RR rl at hg
    cases h1 : firmL.elem (bt b i)
    . rw [h1] at hg
      cases h2 : zsL.elem (bt b i) <;> cases h3 : isD b (bt b i) <;> cases h4 : sn b i <;> cases h5 : decide (bt b i = 86) <;> cases h6 : decide (bt b i = 36) <;> cases h7 : sgL.elem (bt b i) <;> rw [h2,h3,h4,h5,h6,h7] at hg <;> exact hg
    . rw [h1] at hg; exact hg
theorem y9M (hl : s.length <= 1000) (hN : 1100 <= N) : z9D N s = some (mkS s):=by
  unfold z9D
  rw [x5B hl]
  simp only [Option.bind_some]
  have fin : ∀ c,c = crB s -> ∀ l : List UInt8,l.length <= 1000 -> (Option.bind (some c) (fun (r3 : Bool)=>(cond r3 (cond (decide (List.length l + List.length ([115, 115] : List UInt8) < 9223372036854775808)) (some (l ++ ([115, 115] : List UInt8))) none) (some l)))) = some (l ++ cond (crB s) [115, 115] []):=by
    intro c hc l hll
    rw [hc]
    cases crB s
    . simp
    . simp only [Option.bind_some,cond_true]
      rw [decide_eq_true (by simp; omega)]; rfl
  unfold mkS
  have hbl:=y4C (s:=s)
  cases h : crB s
  . rw [y7G h]
    simp only [cond_false]
    rw [x6T hl hN]
    simp only [Option.bind_some]
    have:=z9A hl hN (fun r=>(Option.bind (y7W N s) (fun (r3 : Bool)=>(cond r3 (cond (decide (List.length (x1M r) + List.length ([115, 115] : List UInt8) < 9223372036854775808)) (some ((x1M r) ++ ([115, 115] : List UInt8))) none) (some (x1M r))))))
    refine Eq.trans this ?_
    rw [y5J,x5B hl,fin _ rfl _ (by rw [x3K]; exact hl),h]; rfl
  . simp only [cond_true]
    rw [z3U hl h,cond_true]
    have hL : v7A N s (ci (Dft (x0K s))) = G146 N (x0K s) (ci (Dft (x0K s))) (fun r=>(Option.bind (y7W N s) (fun (r3 : Bool)=>(cond r3 (cond (decide (List.length (x1M r) + List.length ([115, 115] : List UInt8) < 9223372036854775808)) (some ((x1M r) ++ ([115, 115] : List UInt8))) none) (some (x1M r)))))):=by
      rw [<- y7F hl h]; rfl
    rw [y7F hl h,x6T (s:=x0K s) (by omega) hN]
    simp only [Option.bind_some]
    rw [hL,z9A (by omega) hN,y5J,x5B hl,fin _ rfl _ (by rw [x3K]; omega),h]; rfl
end Go.Yec
namespace Go.Yec
open Go
variable {N : Nat} {s b : List UInt8}
def c0 (b : List UInt8) : Nat -> Nat:=cnt fun i=>decide (RR b i = 0)
def c1 (b : List UInt8) : Nat -> Nat:=cnt fun i=>decide (RR b i = 1)
def c2 (b : List UInt8) : Nat -> Nat:=cnt fun i=>decide (RR b i = 2)
def ko (b : List UInt8) : Nat -> Bool
  | 0=>true
  | i + 1=>ko b i && !(decide (RR b i = 1) && decide (0 < c0 b i))
def bh (b : List UInt8) : Nat -> Bool
  | 0=>false
  | i + 1=>bh b i || (decide (RR b i = 1) && decide (0 < c2 b i))
theorem ko_le {b : List UInt8} {i n : Nat} (h : i <= n) (hk : ko b i = false) : ko b n = false:=by
  induction h with
  | refl=>exact hk
  | step _ ih=>show (ko b _ && _) = false; rw [ih]; rfl
def x9G (b : List UInt8) : Bool:=ko b b.length && (decide (1 <= c0 b b.length + c1 b b.length) && (decide (c0 b b.length + c1 b b.length <= 9) && !(bh b b.length && decide (0 < c0 b b.length))))
def ZsB (b : List UInt8) : Bool:= !(b.elem 90 && b.elem 42) && !((b.elem 90 || b.elem 42) && decide (Dft b ≠ 0))
theorem HasC (hl : s.length <= 1000) (hN : 1100 <= N) (c : UInt8) {n : Int} (h : n = ci c) : x2C N s n = some (s.elem c):=by rw [h]; exact HasL s hl hN c
theorem u4J (n : Nat) : decide (0 < n + 1) = true:=decide_eq_true (by omega)
theorem u7Q (hl : b.length <= 1000) (hN : 1100 <= N) : u3D N b (x9T b) = some (ZsB b && x9G b):=by
  unfold u3D
  rw [HasC hl hN 90 (n:= 90) rfl,HasC hl hN 42 (n:= 42) rfl,x6T hl hN]
  have loop : iter N (z4D N b (x9T b)) (false,false,false,(0 : Int),(0 : Int)) = some (x9G b):=by
    refine x7S (n:=b.length) (P:=Unit) (fun _ i=>(decide (0 < c0 b i),bh b i,decide (0 < c2 b i),((c0 b i + c1 b i : Nat) : Int),(i : Int))) (fun _ i=>ko b i = true) (fun o=>o = some (x9G b)) ?_ ?_ () rfl (by omega)
    . intro again _ hk
      unfold z4D
      simp only [x4S,cond_false]
      unfold x9G
      rw [hk]
      have e1 : decide ((1 : Int) <= ((c0 b b.length + c1 b b.length : Nat) : Int)) = decide (1 <= c0 b b.length + c1 b b.length):=decide_eq_decide.2 (by omega)
      have e2 : decide (((c0 b b.length + c1 b b.length : Nat) : Int) <= 9) = decide (c0 b b.length + c1 b b.length <= 9):=decide_eq_decide.2 (by omega)
      rw [e1,e2]
      cases decide (1 <= c0 b b.length + c1 b b.length) <;> cases decide (c0 b b.length + c1 b b.length <= 9) <;> cases bh b b.length <;> cases decide (0 < c0 b b.length) <;> rfl
    . intro again _ i hk hi hag
      have h0:=y0Q (fun i=>decide (RR b i = 0)) i
      have h1:=y0Q (fun i=>decide (RR b i = 1)) i
      have g0 : c0 b i <= i:=h0
      have g1 : c1 b i <= i:=h1
      have e0 : c0 b (i + 1) = c0 b i + cond (decide (RR b i = 0)) 1 0:=rfl
      have e1 : c1 b (i + 1) = c1 b i + cond (decide (RR b i = 1)) 1 0:=rfl
      have e2 : c2 b (i + 1) = c2 b i + cond (decide (RR b i = 2)) 1 0:=rfl
      have ek : ko b (i + 1) = (ko b i && !(decide (RR b i = 1) && decide (0 < c0 b i))):=rfl
      have eb : bh b (i + 1) = (bh b i || (decide (RR b i = 1) && decide (0 < c2 b i))):=rfl
      unfold z4D
      simp only [x6A hi,x2U (show i < (x9T b).length by rw [x3K]; exact hi),cond_true,x2Z (i:=i) (by omega),x2Z (i:=c0 b i + c1 b i) (by omega)]
      rw [x3T,z2P hi]
      have hg:=hag ()
      rw [e0,e1,e2,ek,eb,hk] at hg
      rcases x9D b i with h | h | h | h | h | h
      . rw [h] at hg |-
        have:=hg rfl
        simp only [decide_true,decide_false,Int.reduceEq,cond_true,cond_false,u4J,Nat.add_zero,Bool.false_and,Bool.or_false] at this
        rw [show c0 b i + 1 + c1 b i = c0 b i + c1 b i + 1 by omega] at this
        exact this
      . rw [h] at hg |-
        cases hz : decide (0 < c0 b i)
        . rw [hz] at hg
          have:=hg rfl
          simp only [decide_true,decide_false,Int.reduceEq,cond_true,cond_false,Nat.add_zero,Bool.true_and] at this
          rw [show c0 b i + (c1 b i + 1) = c0 b i + c1 b i + 1 by omega,hz] at this
          have eo : (bh b i || decide (0 < c2 b i)) = cond (bh b i) true (decide (0 < c2 b i)):=by cases bh b i <;> rfl
          rw [eo] at this
          exact this
        . have : x9G b = false := by
            unfold x9G
            rw [ko_le (i:=i + 1) (by omega) (by rw [ek,h,hz,hk]; rfl)]; rfl
          rw [this]; rfl
      . rw [h] at hg |-
        have:=hg rfl
        simp only [decide_true,decide_false,Int.reduceEq,cond_true,cond_false,u4J,Nat.add_zero,Bool.false_and,Bool.or_false] at this
        exact this
      . rw [h] at hg |-
        have:=hg rfl
        simp only [decide_true,decide_false,Int.reduceEq,cond_false,Nat.add_zero,Bool.false_and,Bool.or_false] at this
        exact this
      . rw [h] at hg |-
        have:=hg rfl
        simp only [decide_true,decide_false,Int.reduceEq,cond_false,Nat.add_zero,Bool.false_and,Bool.or_false] at this
        exact this
      . rw [h] at hg |-
        have:=hg rfl
        simp only [decide_true,decide_false,Int.reduceEq,cond_false,Nat.add_zero,Bool.false_and,Bool.or_false] at this
        exact this
  rw [loop]
  simp only [Option.bind_some,y6U]
  unfold ZsB
  have ed : decide (Dft b ≠ 0) = !(decide (Dft b = 0)):=by simp
  rw [ed]
  cases b.elem 90 <;> cases b.elem 42 <;> simp only [Option.bind_some,cond_true,cond_false,Bool.not_false,Bool.not_true,y6U] <;> cases decide (Dft b = 0) <;> cases x9G b <;> rfl
def sgB (s : List UInt8) : Int:=(cond (crB s) 1 0) + (cond ((x0K s).elem 83) 1 0) + (cond ((x0K s).elem 43) 1 0) + (cond ((x0K s).elem 45) 1 0) + (((x0K s).count 84 : Nat) : Int) + (((x0K s).count 73 : Nat) : Int) + (((x0K s).count 82 : Nat) : Int)
theorem c01 (c : Bool) : 0 <= (cond c 1 0 : Int) /\ (cond c 1 0 : Int) <= 1:=by cases c <;> decide
theorem y8U (hl : s.length <= 1000) (hN : 1100 <= N) : z9E N s = some (sgB s):=by
  have loop : ∀ (b : List UInt8) (n0 : Int) (step : (Int × Int -> Option Int) -> Int × Int -> Option Int), b.length <= 1000 -> 0 <= n0 -> n0 <= 1 -> (∀ again x1, step again x1 = (cond (decide (x1.2 < (3 : Int))) (cond (inB x1.2 (slen ([83, 43, 45] : List UInt8))) (Option.bind (x2C N b (sget ([83, 43, 45] : List UInt8) x1.2)) (fun (r2 : Bool) => (cond r2 (again ((IntKind.wrap .i64 (x1.1 + (1 : Int))), (IntKind.wrap .i64 (x1.2 + (1 : Int))))) (again (x1.1, (IntKind.wrap .i64 (x1.2 + (1 : Int)))))))) none) (Option.bind (x7H N b (84 : Int)) (fun (r2 : Int) => (Option.bind (x7H N b (73 : Int)) (fun (r3 : Int) => (Option.bind (x7H N b (82 : Int)) (fun (r4 : Int) => (some (IntKind.wrap .i64 ((IntKind.wrap .i64 ((IntKind.wrap .i64 (x1.1 + r2)) + r3)) + r4))))))))))) ->
      iter N step (n0,(0 : Int)) = some (n0 + (cond (b.elem 83) 1 0) + (cond (b.elem 43) 1 0) + (cond (b.elem 45) 1 0) + ((b.count 84 : Nat) : Int) + ((b.count 73 : Nat) : Int) + ((b.count 82 : Nat) : Int)):=by
    intro b n0 step hb h0 h1 hs
    have hNM : N = (N - 4) + 1 + 1 + 1 + 1:=by omega
    generalize N - 4 = M at hNM
    have m1:=List.count_le_length (a:=(84 : UInt8)) (l:=b)
    have m2:=List.count_le_length (a:=(73 : UInt8)) (l:=b)
    have m3:=List.count_le_length (a:=(82 : UInt8)) (l:=b)
    have fin : ∀ again (n : Int), 0 <= n -> n <= 10 -> step again (n, 3) = some (n + ((b.count 84 : Nat) : Int) + ((b.count 73 : Nat) : Int) + ((b.count 82 : Nat) : Int)):=by
      intro again n hn0 hn1
      rw [hs]
      rw [show decide ((3 : Int) < 3) = false from rfl,cond_false]
      rw [show (84 : Int) = ci 84 from rfl,show (73 : Int) = ci 73 from rfl,show (82 : Int) = ci 82 from rfl,x3S hb hN,x3S hb hN,x3S hb hN]
      simp only [Option.bind_some]
      rw [w64 (n:=n + _) (by omega) (by omega),w64 (n:=n + _ + _) (by omega) (by omega),w64 (by omega) (by omega)]
    have st : ∀ again (n : Int) (i : Nat) (c : UInt8),i < 3 -> bt sgL i = c -> 0 <= n -> n <= 10 -> step again (n,(i : Int)) = again (n + cond (b.elem c) 1 0,((i + 1 : Nat) : Int)):=by
      intro again n i c hi hc hn0 hn1
      rw [hs]
      simp only [decide_eq_true (show ((i : Nat) : Int) < 3 by omega),cond_true,show ([83, 43, 45] : List UInt8) = sgL from rfl,x2U (show i < sgL.length from hi),x2Z (i:=i) (by omega)]
      rw [x3T,hc,HasL b hb hN]
      simp only [Option.bind_some]
      cases b.elem c
      . simp
      . rw [cond_true,cond_true,w64 (by omega) (by omega)]
    have k1:=c01 (b.elem 83)
    have k2:=c01 (b.elem 43)
    have k3:=c01 (b.elem 45)
    rw [congrArg (fun k=>iter k step (n0,(0 : Int))) hNM,x2A,show ((n0,(0 : Int)) : Int × Int) = (n0,((0 : Nat) : Int)) from rfl,st _ n0 0 83 (by omega) rfl (by omega) (by omega),x2A,st _ _ 1 43 (by omega) rfl (by omega) (by omega),x2A,st _ _ 2 45 (by omega) rfl (by omega) (by omega),x2A]
    exact fin _ _ (by omega) (by omega)
  unfold z9E
  rw [x5B hl]
  simp only [Option.bind_some]
  unfold sgB
  cases h : crB s
  . rw [y7G h,cond_false,loop s 0 (v7B N s) hl (by omega) (by omega) (fun _ _=>rfl)]; rfl
  . rw [cond_true,z3U hl h,cond_true,loop (x0K s) 1 (v7C N s) (by have:=y4C (s:=s); omega) (by omega) (by omega) (fun _ _=>by rw [<- y7F hl h]; rfl)]; rfl
end Go.Yec
