/-
  PLAIN LEAN: of a Frame that goes through: each origin is the least multiple behind the end so far.
-/
import Derived.Test.YtadehgdfijjikaaGreatDoorZ7
set_option linter.all false
namespace Go.Shp
open Go Go.Yec Go.Proofs
theorem u1B : ∀ {l : List Sh} {e : Int} {o os : List Int} {en : Int}, frL l e o = (os,en, 0) -> ∃ r,os = o ++ r /\ r.length = l.length
  | [],e,o,os,en,h=>by
    unfold frL at h
    split at h
    . simp at h
    . simp only [Prod.mk.injEq] at h
      exact ⟨[],by simp [h.1],rfl⟩
  | s :: l,e,o,os,en,h=>by
    unfold frL at h
    split at h
    . obtain ⟨r,hr,hl⟩:=u1B h
      exact ⟨upS e (mapR s).1.a :: r,by simp [hr],by simp [hl]⟩
    . rename_i hne
      simp only [Prod.mk.injEq] at h
      exact absurd h.2.2 hne
theorem frL_end {e : Int} {o os : List Int} {en : Int} (h : frL [] e o = (os,en, 0)) : en = upS e 8 /\ upS e 8 <= 524288:=by
  unfold frL at h
  split at h
  . simp at h
  . rename_i hle
    simp only [Prod.mk.injEq] at h
    exact ⟨h.2.1.symm,by omega⟩
theorem frL_step {s : Sh} {l : List Sh} {e : Int} {o os : List Int} {en : Int} (hs : (mapR s).2 = 0) (h : frL (s :: l) e o = (os,en, 0)) : os[o.length]? = some (upS e (mapR s).1.a) /\ frL l (upS e (mapR s).1.a + (mapR s).1.s + (mapR s).1.b) (o ++ [upS e (mapR s).1.a]) = (os,en, 0):=by
  unfold frL at h
  rw [if_pos hs] at h
  obtain ⟨r,hr, -⟩:=u1B h
  refine ⟨?_,h⟩
  rw [hr]
  simp
theorem v5H : ∀ {l : List Sh} {e : Int} {o os : List Int} {en er : Int}, (∀ s ∈ l,(mapR s).2 = 0) -> frL l e o = (os,en,er) -> er ≠ 0 -> os = [] /\ en = 0 /\ er = 2
  | [],e,o,os,en,er,_,h,hne=>by
    unfold frL at h
    split at h
    . simp only [Prod.mk.injEq] at h
      exact ⟨h.1.symm,h.2.1.symm,h.2.2.symm⟩
    . simp only [Prod.mk.injEq] at h
      exact absurd h.2.2.symm hne
  | s :: l,e,o,os,en,er,hs,h,hne=>by
    unfold frL at h
    rw [if_pos (hs s (by simp))] at h
    exact v5H (fun t ht=>hs t (by simp [ht])) h hne
theorem frR_err {fr : Int} {l : List Sh} {os : List Int} {en er : Int} (hs : ∀ s ∈ l,(mapR s).2 = 0) (h : frR fr l = (os,en,er)) (hne : er ≠ 0) : os = [] /\ en = 0 /\ (er = 1 \/ er = 2):=by
  unfold frR at h
  split at h
  . obtain ⟨h1,h2,h3⟩:=v5H hs h hne
    exact ⟨h1,h2, .inr h3⟩
  . simp only [Prod.mk.injEq] at h
    exact ⟨h.1.symm,h.2.1.symm, .inl h.2.2.symm⟩
theorem frR_ok {fr : Int} {l : List Sh} {os : List Int} {en : Int} (h : frR fr l = (os,en, 0)) : 0 <= fr /\ fr <= 524288 /\ frL l fr [] = (os,en, 0) /\ os.length = l.length:=by
  unfold frR at h
  split at h
  . rename_i hf
    obtain ⟨r,hr,hl⟩:=u1B h
    refine ⟨hf.1,hf.2,h, ?_⟩
    rw [hr]
    simpa using hl
  . simp at h
theorem dfR_ok {b s : Sh} {n : Int} (h : dfR b s = (n, 0)) : (mapR b).2 = 0 /\ (mapR s).2 = 0 /\ n = (mapR b).1.s - (mapR s).1.s /\ 0 <= n /\ n.tmod (mapR s).1.a = 0 /\ (mapR s).1.a <= (mapR b).1.a /\ (mapR s).1.b <= (mapR b).1.b:=by
  unfold dfR at h
  split at h
  . rename_i hb
    split at h
    . rename_i hs
      split at h
      . rename_i hc
        simp only [Prod.mk.injEq,and_true] at h
        subst h
        exact ⟨hb,hs,rfl,hc⟩
      . simp at h
    . rename_i hs
      simp only [Prod.mk.injEq] at h
      exact absurd h.2 hs
  . rename_i hb
    simp only [Prod.mk.injEq] at h
    exact absurd h.2 hb
end Go.Shp
