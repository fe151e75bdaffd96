/-
  PLAIN LEAN: where variables lie one behind the other (Frame), and on another one (Defined).
-/
import Derived.Test.YtadehgdfijjikaaGreatDoorS6
set_option linter.all false
namespace Go.Shp
open Go Go.Yec Go.Proofs
noncomputable def frL : List Sh -> Int -> List Int -> (List Int × Int × Int)
  | [],e,o=>if 524288 < upS e 8 then ([], 0, 2) else (o,upS e 8, 0)
  | s :: l,e,o=>if (mapR s).2 = 0 then frL l (upS e (mapR s).1.a + (mapR s).1.s + (mapR s).1.b) (o ++ [upS e (mapR s).1.a]) else ([], 0,(mapR s).2)
noncomputable def frR (fr : Int) (l : List Sh) : List Int × Int × Int:=if 0 <= fr /\ fr <= 524288 then frL l fr [] else ([], 0, 1)
noncomputable def dfR (base s : Sh) : Int × Int :=
  if (mapR base).2 = 0 then (if (mapR s).2 = 0 then (if 0 <= (mapR base).1.s - (mapR s).1.s /\ ((mapR base).1.s - (mapR s).1.s).tmod (mapR s).1.a = 0 /\ (mapR s).1.a <= (mapR base).1.a /\ (mapR s).1.b <= (mapR base).1.b then ((mapR base).1.s - (mapR s).1.s, 0) else (0, 1)) else (0,(mapR s).2)) else (0,(mapR base).2)
theorem z2Q (s : Sh) : (mapR s).2 = chk s:=by
  unfold mapR chk
  cases valS s 0 1
  . rfl
  . cases mpS s <;> rfl
theorem map_some {s : Sh} (h : (mapR s).2 = 0) : valS s 0 1 = true /\ ∃ n,mpS s = some n /\ (mapR s).1 = n.u:=by
  unfold mapR at h |-
  cases hv : valS s 0 1
  . rw [hv] at h; cases h
  . cases hm : mpS s with
    | none=>rw [hv,hm] at h; cases h
    | some n=>exact ⟨rfl,n,rfl,rfl⟩
theorem x4D {s : Sh} (h : (mapR s).2 = 0) : x3C (mapR s).1:=by
  obtain ⟨hv,n,hm,hu⟩:=map_some h
  rw [hu]
  exact z2N s 0 1 hv n hm
theorem v5J : ∀ {l : List Sh} {i : Nat} {s : Sh}, l[i]? = some s -> (∀ t ∈ l.take i,(mapR t).2 = 0) -> (mapR s).2 ≠ 0 -> ∀ e o,frL l e o = ([], 0,(mapR s).2)
  | [],_,_,h,_,_,_,_=>by simp at h
  | t :: l, 0,s,h,_,hs,e,o=>by
    simp at h
    subst h
    rw [frL,if_neg hs]
  | t :: l,i + 1,s,h,ht,hs,e,o=>by
    rw [frL,if_pos (ht t (by simp))]
    exact v5J (by simpa using h) (fun u hu=>ht u (by simp [hu])) hs _ _
theorem v5G : ∀ (l : List Sh) (e : Int) (o : List Int),(frL l e o).1.length <= o.length + l.length
  | [],e,o=>by
    unfold frL
    split <;> simp
  | s :: l,e,o=>by
    unfold frL
    split
    . have:=v5G l (upS e (mapR s).1.a + (mapR s).1.s + (mapR s).1.b) (o ++ [upS e (mapR s).1.a])
      simp at this |-
      omega
    . simp
theorem v5F (fr : Int) (l : List Sh) : (frR fr l).1.length <= l.length:=by
  unfold frR
  split
  . simpa using v5G l fr []
  . simp
end Go.Shp
