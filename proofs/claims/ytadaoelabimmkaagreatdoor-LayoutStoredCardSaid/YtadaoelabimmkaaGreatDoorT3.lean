/-
  LayoutBack, walked.
-/
import Derived.Test.YtadaoelabimmkaaGreatDoorT1
import Derived.Test.YtadaoelabimmkaaGreatDoorT2
import Derived.Test.YtadaoelabimmkaaGreatDoorZ9
set_option linter.all false
namespace Go.Proofs
open Go.RowKit Go.Yec
open Go.Xec (Glob)
variable {k p q n : Int} {v : Bool} {s u b : ByteArray}
theorem z3W (h : y2T k p q v s n u = true) : s.data.toList.length <= 200 /\ tyS k p q v s.data.toList = true /\ k ≠ 7 /\ vaS k p v s.data.toList n u.data.toList = true:=by
  unfold y2T veS at h
  simp only [Bool.and_eq_true,decide_eq_true_eq] at h
  obtain ⟨h1,_,h2⟩:=h
  cases ht : (tyS k p q v s.data.toList && !(decide (k = 7)))
  . rw [ht] at h2; cases h2
  . cases hv : vaS k p v s.data.toList n u.data.toList
    . rw [ht,hv] at h2; cases h2
    . rw [Bool.and_eq_true, Bool.not_eq_true'] at ht
      exact ⟨h1,ht.1,of_decide_eq_false ht.2,rfl⟩
theorem enc_of (h : y2T k p q v s n u = true) : encB k p q v s n u = ⟨(encS k p v n u.data.toList).toArray⟩ /\ encE k p q v s n u = 0:=by
  obtain ⟨_,h2,h3,h4⟩:=z3W h
  unfold encB encE encR
  rw [h2,decide_eq_false h3,h4]
  exact ⟨rfl,rfl⟩
end Go.Proofs
