/-
  THE PURE EXECUTOR: one operation of a region is sound.; THE PURE EXECUTOR: operations that lay or turn blocks and give a value.
-/
import Derived.Test.YtadehgdfijjikaaGreatDoorY9
set_option linter.all false
namespace Go.Yec
open Go Go.Xec
variable [GT]
section
variable {D : Type} {V : D -> List (PV D)} {μ : Mu} {H : Hp} {P : Program} {hk : Hook} {o : Oper} {T : Tm} {X : Nat -> Prop} {n m : Nat} {st : Y D} {dn : Dn} {C : Ch} {B : Bt D} {R : Type}
theorem y7R {l : List Operand} (h : ∀ x ∈ l,okX x = true) : x5F l = true:=by
  induction l with
  | nil=>rfl
  | cons a l ih =>
    show cond (okX a) (x5F l) false = true
    rw [h a (by simp),ih fun x hx=>h x (by simp [hx])]; rfl
def x8A : YOp -> Bool
  | .call _ _=>true
  | .callv _ _=>true
  | _=>false
theorem x5S {y : YOp} (hc : x1T P o.op = some y) (hn : x8A y = false) : x5J P o = .op (x0N P o).f:=by
  unfold x5J
  split
  . rename_i f args ts ho
    rw [ho] at hc
    cases f with
    | func g =>
      obtain ⟨a,_,rfl⟩:=x0C (show (ydL args.toList).map (YOp.call g) = some y from hc)
      cases hn
    | tmp t =>
      obtain ⟨a,_,rfl⟩:=x0C (show (ydL args.toList).map (YOp.callv (.t t)) = some y from hc)
      cases hn
    | _=>cases hc
  . rw [y7R (x9R hc)]
    rfl
theorem z0J {f : FuncId} {ys : List Yd} (hc : x1T P o.op = some (.call f ys)) : ∃ args ts,o.op = .call { callee:= .value (.func f),args:=args,argTypes:=ts } /\ ydL args.toList = some ys /\ x5J P o = .call (.func f) args.toList:=by
  have hk:=x9R hc
  have key : ∀ op,x1T P op = some (.call f ys) -> ∃ args ts,op = .call { callee:= .value (.func f),args:=args,argTypes:=ts } /\ ydL args.toList = some ys:=by
    intro op hc
    rcases x3D hc with h | ⟨t,a,rfl⟩ | ⟨s,d,x,e0,_,_,_,_,h⟩ | ⟨e,x,rfl⟩ | ⟨e,rfl⟩ | ⟨t,len,ps,rfl⟩ | ⟨t,a,v,rfl⟩ | ⟨args,ts,rfl⟩ | ⟨s,d,x,e0,_,_,_,h⟩
    . unfold x1T at hc
      split at hc
      all_goals first
        | (obtain ⟨a,_,h⟩:=x0G hc; cases h; done)
        | (obtain ⟨a,b,_,_,h⟩:=x0T hc; cases h; done)
        | (cases hc; done)
        | (obtain ⟨_,_,h1⟩:=x0A hc; obtain ⟨_,_,h2⟩:=x0A h1; obtain ⟨_,_,h3⟩:=x0C h2; cases h3; done)
        | (obtain ⟨a,h1,h2⟩:=x0C hc; cases h2; done)
        | (obtain ⟨a,h1,h2⟩:=x0C hc; cases h2; exact ⟨_,_,rfl,h1⟩)
        | skip
      . unfold yBin at hc
        split at hc <;> first | (cases hc; done) | (split at hc <;> first | (cases hc; done) | (obtain ⟨a,b,_,_,h⟩:=x0T hc; cases h; done))
      . unfold z0Q at hc
        split at hc
        . obtain ⟨a,_,h⟩:=x0G hc; cases h
        . obtain ⟨a,_,h⟩:=x0G hc; cases h
        . obtain ⟨a,_,h⟩:=x0G hc; cases h
        . obtain ⟨a,_,h⟩:=x0G (x0B hc).2; cases h
        . obtain ⟨a,_,h⟩:=x0G (x0B hc).2; cases h
        . obtain ⟨a,_,h⟩:=x0G (x0B hc).2; cases h
        . cases hc
      . split at hc
        . obtain ⟨a,b,_,_,h⟩:=x0T hc; cases h
        . obtain ⟨a,b,_,_,h⟩:=x0T (x0B hc).2; cases h
        . cases hc
      . unfold x9Z at hc
        split at hc
        . obtain ⟨_,_,h1⟩:=x0A hc
          obtain ⟨_,_,h2⟩:=x0A h1
          obtain ⟨_,_,h3⟩:=x0C h2
          cases h3
        . cases hc
      . unfold x1B at hc
        split at hc
        . split at hc
          . obtain ⟨a,_,h⟩:=x0G hc; cases h
          . obtain ⟨a,_,h⟩:=x0G hc; cases h
          . cases hc
        . obtain ⟨a,b,_,_,h⟩:=x0T hc; cases h
        . obtain ⟨a,b,_,_,h⟩:=x0T hc; cases h
        . obtain ⟨_,_,h1⟩:=x0A hc
          obtain ⟨_,_,h2⟩:=x0A h1
          obtain ⟨_,_,h3⟩:=x0A h2
          obtain ⟨_,_,h4⟩:=x0A h3
          obtain ⟨a,b,_,_,h⟩:=x0T h4; cases h
        . cases hc
      all_goals first
        | (unfold yAlloc at hc
           obtain ⟨z,_,h2⟩:=x0A hc
           obtain ⟨cs,_,h4⟩:=x0A h2
           cases harr : x1U P _ <;> rw [harr] at h4
           . cases h4
           . rw [cond_true] at h4
             split at h4
             . obtain ⟨l,_,h5⟩:=x0C h4; cases h5
             . cases h4
             . cases h4)
        | (unfold yMake at hc
           obtain ⟨_,h1⟩:=x0B hc
           obtain ⟨_,_,h2⟩:=x0A h1
           obtain ⟨_,_,h3⟩:=x0A h2
           obtain ⟨a,_,h⟩:=x0G h3; cases h; done)
        | (obtain ⟨_,_,h1⟩:=x0A hc; obtain ⟨_,_,h2⟩:=x0A h1; obtain ⟨_,_,h3⟩:=x0A h2; obtain ⟨_,_,h4⟩:=x0A h3; obtain ⟨_,_,h6⟩:=x0C h4; cases h6; done)
        | (obtain ⟨_,_,h1⟩:=x0A hc; obtain ⟨_,_,h2⟩:=x0A h1; obtain ⟨_,h3⟩:=x0B h2; obtain ⟨a,_,h⟩:=x0G h3; cases h; done)
        | (obtain ⟨_,_,h1⟩:=x0A hc; obtain ⟨_,_,h2⟩:=x0A h1; obtain ⟨_,_,h3⟩:=x0A h2; obtain ⟨a,_,h⟩:=x0G h3; cases h; done)
        | (obtain ⟨_,_,h1⟩:=x0A hc; obtain ⟨_,_,h2⟩:=x0A h1; obtain ⟨a,_,h⟩:=x0G h2; cases h; done)
        | (obtain ⟨_,_,h1⟩:=x0A hc; obtain ⟨a,b,_,_,h⟩:=x0T h1; cases h; done)
        | (obtain ⟨_,_,h1⟩:=x0A hc; obtain ⟨_,_,h2⟩:=x0A h1; obtain ⟨_,_,h3⟩:=x0A h2; obtain ⟨_,_,h4⟩:=x0A h3; obtain ⟨_,_,h5⟩:=x0A h4; obtain ⟨_,_,h6⟩:=x0C h5; cases h6; done)
        | (obtain ⟨_,_,h1⟩:=x0A hc; obtain ⟨_,_,h2⟩:=x0A h1; obtain ⟨_,_,h3⟩:=x0A h2; obtain ⟨_,h4⟩:=x0B h3; cases h4; done)
        | (split at hc <;> first | (cases hc; done) | (obtain ⟨a,_,h⟩:=x0G hc; cases h; done))
        | (unfold yIaddr at hc
           split at hc
           . obtain ⟨a,b,_,_,h⟩:=x0T (x0B hc).2; cases h
           . obtain ⟨a,b,_,_,h⟩:=x0T (x0B hc).2; cases h
           . cases hc)
    . obtain ⟨_,_,h1⟩:=x0A hc
      obtain ⟨_,_,h2⟩:=x0A h1
      obtain ⟨a,_,h⟩:=x0G h2; cases h
    . obtain ⟨a,_,h⟩:=x0G h; cases h
    . obtain ⟨a,_,h⟩:=x0G (show y1 (.box e) x = some _ from hc); cases h
    . have hc : yAlloc P e = some _:=hc
      unfold yAlloc at hc
      obtain ⟨z,_,h2⟩:=x0A hc
      obtain ⟨cs,_,h4⟩:=x0A h2
      cases harr : x1U P e <;> rw [harr] at h4
      . cases h4
      . rw [cond_true] at h4
        split at h4
        . obtain ⟨l,_,h5⟩:=x0C h4; cases h5
        . cases h4
        . cases h4
    . obtain ⟨_,_,h1⟩:=x0A (show x1C P t len ps.toList = some _ from hc)
      obtain ⟨_,_,h2⟩:=x0A h1
      obtain ⟨_,_,h3⟩:=x0A h2
      obtain ⟨_,h4⟩:=x0B h3
      cases h4
    . obtain ⟨_,_,h1⟩:=x0A hc
      obtain ⟨a,b,_,_,h⟩:=x0T h1; cases h
    . have hc : x1B P .append args.toList ts.toList = some _:=hc
      unfold x1B at hc
      split at hc <;> first | (rename_i hh _ _; cases hh; done) | (rename_i hh _; cases hh; done) | (cases hc; done) | skip
      obtain ⟨_,_,h1⟩:=x0A hc
      obtain ⟨_,_,h2⟩:=x0A h1
      obtain ⟨_,_,h3⟩:=x0A h2
      obtain ⟨_,_,h4⟩:=x0A h3
      obtain ⟨a,b,_,_,h⟩:=x0T h4; cases h
    . rcases h with ⟨_,h⟩ | ⟨_,_,_,_,h⟩ <;> (obtain ⟨a,_,h⟩:=x0G h; cases h)
  obtain ⟨args,ts,h1,h2⟩:=key _ hc
  refine ⟨args,ts,h1,h2, ?_⟩
  unfold x5J
  rw [h1]
  show cond (cond (okX (.func f)) (x5F args.toList) false) _ _ = _
  have : x5F args.toList = true:=y7R fun x hx=>hk x (by rw [h1]; simp [Op.operands,Call.operands]; exact .inr (by simpa using hx))
  rw [this]
  rfl
theorem u2K {f : Yd} {ys : List Yd} (hc : x1T P o.op = some (.callv f ys)) : ∃ g args ts,o.op = .call { callee:= .value (.tmp g),args:=args,argTypes:=ts } /\ f = .t g /\ ydL args.toList = some ys /\ x5J P o = .call (.tmp g) args.toList:=by
  have hk:=x9R hc
  have key : ∀ op,x1T P op = some (.callv f ys) -> ∃ g args ts,op = .call { callee:= .value (.tmp g),args:=args,argTypes:=ts } /\ f = .t g /\ ydL args.toList = some ys:=by
    intro op hc
    rcases x3D hc with h | ⟨t,a,rfl⟩ | ⟨s,d,x,e0,_,_,_,_,h⟩ | ⟨e,x,rfl⟩ | ⟨e,rfl⟩ | ⟨t,len,ps,rfl⟩ | ⟨t,a,v,rfl⟩ | ⟨args,ts,rfl⟩ | ⟨s,d,x,e0,_,_,_,h⟩
    . unfold x1T at hc
      split at hc
      all_goals first
        | (obtain ⟨a,_,h⟩:=x0G hc; cases h; done)
        | (obtain ⟨a,b,_,_,h⟩:=x0T hc; cases h; done)
        | (cases hc; done)
        | (obtain ⟨_,_,h1⟩:=x0A hc; obtain ⟨_,_,h2⟩:=x0A h1; obtain ⟨_,_,h3⟩:=x0C h2; cases h3; done)
        | (obtain ⟨a,h1,h2⟩:=x0C hc; cases h2; done)
        | (obtain ⟨a,h1,h2⟩:=x0C hc; cases h2; exact ⟨_,_,_,rfl,rfl,h1⟩)
        | skip
      . unfold yBin at hc
        split at hc <;> first | (cases hc; done) | (split at hc <;> first | (cases hc; done) | (obtain ⟨a,b,_,_,h⟩:=x0T hc; cases h; done))
      . unfold z0Q at hc
        split at hc
        . obtain ⟨a,_,h⟩:=x0G hc; cases h
        . obtain ⟨a,_,h⟩:=x0G hc; cases h
        . obtain ⟨a,_,h⟩:=x0G hc; cases h
        . obtain ⟨a,_,h⟩:=x0G (x0B hc).2; cases h
        . obtain ⟨a,_,h⟩:=x0G (x0B hc).2; cases h
        . obtain ⟨a,_,h⟩:=x0G (x0B hc).2; cases h
        . cases hc
      . split at hc
        . obtain ⟨a,b,_,_,h⟩:=x0T hc; cases h
        . obtain ⟨a,b,_,_,h⟩:=x0T (x0B hc).2; cases h
        . cases hc
      . unfold x9Z at hc
        split at hc
        . obtain ⟨_,_,h1⟩:=x0A hc
          obtain ⟨_,_,h2⟩:=x0A h1
          obtain ⟨_,_,h3⟩:=x0C h2
          cases h3
        . cases hc
      . unfold x1B at hc
        split at hc
        . split at hc
          . obtain ⟨a,_,h⟩:=x0G hc; cases h
          . obtain ⟨a,_,h⟩:=x0G hc; cases h
          . cases hc
        . obtain ⟨a,b,_,_,h⟩:=x0T hc; cases h
        . obtain ⟨a,b,_,_,h⟩:=x0T hc; cases h
        . obtain ⟨_,_,h1⟩:=x0A hc
          obtain ⟨_,_,h2⟩:=x0A h1
          obtain ⟨_,_,h3⟩:=x0A h2
          obtain ⟨_,_,h4⟩:=x0A h3
          obtain ⟨a,b,_,_,h⟩:=x0T h4; cases h
        . cases hc
      all_goals first
        | (unfold yAlloc at hc
           obtain ⟨z,_,h2⟩:=x0A hc
           obtain ⟨cs,_,h4⟩:=x0A h2
           cases harr : x1U P _ <;> rw [harr] at h4
           . cases h4
           . rw [cond_true] at h4
             split at h4
             . obtain ⟨l,_,h5⟩:=x0C h4; cases h5
             . cases h4
             . cases h4)
        | (unfold yMake at hc
           obtain ⟨_,h1⟩:=x0B hc
           obtain ⟨_,_,h2⟩:=x0A h1
           obtain ⟨_,_,h3⟩:=x0A h2
           obtain ⟨a,_,h⟩:=x0G h3; cases h; done)
        | (obtain ⟨_,_,h1⟩:=x0A hc; obtain ⟨_,_,h2⟩:=x0A h1; obtain ⟨_,_,h3⟩:=x0A h2; obtain ⟨_,_,h4⟩:=x0A h3; obtain ⟨_,_,h6⟩:=x0C h4; cases h6; done)
        | (obtain ⟨_,_,h1⟩:=x0A hc; obtain ⟨_,_,h2⟩:=x0A h1; obtain ⟨_,h3⟩:=x0B h2; obtain ⟨a,_,h⟩:=x0G h3; cases h; done)
        | (obtain ⟨_,_,h1⟩:=x0A hc; obtain ⟨_,_,h2⟩:=x0A h1; obtain ⟨_,_,h3⟩:=x0A h2; obtain ⟨a,_,h⟩:=x0G h3; cases h; done)
        | (obtain ⟨_,_,h1⟩:=x0A hc; obtain ⟨_,_,h2⟩:=x0A h1; obtain ⟨a,_,h⟩:=x0G h2; cases h; done)
        | (obtain ⟨_,_,h1⟩:=x0A hc; obtain ⟨a,b,_,_,h⟩:=x0T h1; cases h; done)
        | (obtain ⟨_,_,h1⟩:=x0A hc; obtain ⟨_,_,h2⟩:=x0A h1; obtain ⟨_,_,h3⟩:=x0A h2; obtain ⟨_,_,h4⟩:=x0A h3; obtain ⟨_,_,h5⟩:=x0A h4; obtain ⟨_,_,h6⟩:=x0C h5; cases h6; done)
        | (obtain ⟨_,_,h1⟩:=x0A hc; obtain ⟨_,_,h2⟩:=x0A h1; obtain ⟨_,_,h3⟩:=x0A h2; obtain ⟨_,h4⟩:=x0B h3; cases h4; done)
        | (split at hc <;> first | (cases hc; done) | (obtain ⟨a,_,h⟩:=x0G hc; cases h; done))
        | (unfold yIaddr at hc
           split at hc
           . obtain ⟨a,b,_,_,h⟩:=x0T (x0B hc).2; cases h
           . obtain ⟨a,b,_,_,h⟩:=x0T (x0B hc).2; cases h
           . cases hc)
    . obtain ⟨_,_,h1⟩:=x0A hc
      obtain ⟨_,_,h2⟩:=x0A h1
      obtain ⟨a,_,h⟩:=x0G h2; cases h
    . obtain ⟨a,_,h⟩:=x0G h; cases h
    . obtain ⟨a,_,h⟩:=x0G (show y1 (.box e) x = some _ from hc); cases h
    . have hc : yAlloc P e = some _:=hc
      unfold yAlloc at hc
      obtain ⟨z,_,h2⟩:=x0A hc
      obtain ⟨cs,_,h4⟩:=x0A h2
      cases harr : x1U P e <;> rw [harr] at h4
      . cases h4
      . rw [cond_true] at h4
        split at h4
        . obtain ⟨l,_,h5⟩:=x0C h4; cases h5
        . cases h4
        . cases h4
    . obtain ⟨_,_,h1⟩:=x0A (show x1C P t len ps.toList = some _ from hc)
      obtain ⟨_,_,h2⟩:=x0A h1
      obtain ⟨_,_,h3⟩:=x0A h2
      obtain ⟨_,h4⟩:=x0B h3
      cases h4
    . obtain ⟨_,_,h1⟩:=x0A hc
      obtain ⟨a,b,_,_,h⟩:=x0T h1; cases h
    . have hc : x1B P .append args.toList ts.toList = some _:=hc
      unfold x1B at hc
      split at hc <;> first | (rename_i hh _ _; cases hh; done) | (rename_i hh _; cases hh; done) | (cases hc; done) | skip
      obtain ⟨_,_,h1⟩:=x0A hc
      obtain ⟨_,_,h2⟩:=x0A h1
      obtain ⟨_,_,h3⟩:=x0A h2
      obtain ⟨_,_,h4⟩:=x0A h3
      obtain ⟨a,b,_,_,h⟩:=x0T h4; cases h
    . rcases h with ⟨_,h⟩ | ⟨_,_,_,_,h⟩ <;> (obtain ⟨a,_,h⟩:=x0G h; cases h)
  obtain ⟨g,args,ts,h1,h0,h2⟩:=key _ hc
  refine ⟨g,args,ts,h1,h0,h2, ?_⟩
  unfold x5J
  rw [h1]
  show cond (cond (okX (.tmp g)) (x5F args.toList) false) _ _ = _
  have : x5F args.toList = true:=y7R fun x hx=>hk x (by rw [h1]; simp [Op.operands,Call.operands]; exact .inr (by simpa using hx))
  rw [this]
  rfl
theorem y4F {M : Nat -> Prop} {ρ : Yd -> PV D} (hρ : OpdR V μ H M T ρ) : ∀ {l : List Operand} {ys : List Yd}, ydL l = some ys -> RepL V μ H M (ys.map ρ) (l.map (ev T))
  | [],ys,h=>by cases h; exact .nil
  | x :: l,ys,h=>by
    have h : ((ydO x).bind fun c=>(ydL l).map fun r=>c :: r) = some ys:=h
    obtain ⟨c,h1,h2⟩:=x0A h
    obtain ⟨r,h3,rfl⟩:=x0C h2
    exact .cons _ _ _ _ (hρ x c h1) (y4F hρ h3)
def y0W (P : Program) (hk : Hook) (V : D -> List (PV D)) (X : Nat -> Prop) (all : List Oper) (sz : Nat) (o : Oper) (C : Ch) (dn : Dn) (μ : Mu) (st : Y D) (T : Tm) (H : Hp) (n : Nat) (st' : Y D) : Prop :=
  ∃ xv H' n' μ',(∃ k0, ∀ k,k0 <= k -> x3A (run P hk k) T H n (Xec.compI P sz all o) = .ok xv H' n') /\ SR V X μ' st' (put T o.dst xv) H' n' /\ Gr μ st.B st.m H n μ' st'.B st'.m H' n' /\
    RegI st'.T (x7E o.dst C dn) /\ ∀ t,o.dst ≠ some t -> pget st'.T t = pget st.T t
theorem x1A (T : Tt D) (d : Option Tmp) (v : PV D) (t : Nat) (h : d ≠ some t) : pget (pput T d v) t = pget T t:=by rw [x8R,if_neg h]
variable {all : List Oper} {sz : Nat}
structure Pre (P : Program) (V : D -> List (PV D)) (X : Nat -> Prop) (all : List Oper) (o : Oper) (C : Ch) (dn : Dn) (sz : Nat) (μ : Mu) (st : Y D) (T : Tm) (H : Hp) (n : Nat) : Prop where
  sr : SR V X μ st T H n
  reg : RegI st.T dn
  fit : y2X dn C = true
  ok : chOk st.T C = true
  gd : y3A all o C
  dst : y8Q sz o.dst = true
  new : ∀ t,o.dst = some t -> dIn t dn = false
theorem x8J (hp : Pre P V X all o C dn sz μ st T H n) {v : PV D} (hv : gOf st.T C = true -> ∃ w H' n' μ',(∃ k0, ∀ k,k0 <= k -> y3D (run P hk k) T H n (x5J P o) = .ok w H' n') /\ Gr μ st.B st.m H n μ' st.B st.m H' n' /\ HR V X μ' st.B st.m H' n' /\ Rep V μ' H' (MX X μ' st.B) v w) {y : YOp} :
    y0W P hk V X all sz o C dn μ st T H n (setD st ⟨C,o.dst,y⟩ v):=by
  have hg:=x3M (P:=P) hp.sr hp.reg hp.fit hp.ok hp.gd hp.dst
  have hreg : RegI (pput st.T o.dst (dstV st.T C v)) (x7E o.dst C dn):=hp.reg.set hp.fit hp.new (fun C' g w e=>z3J e) (fun hne=>z3K hne)
  cases hC : gOf st.T C with
  | true =>
    obtain ⟨w,H',n', μ',⟨k0,h1⟩,h2,h3,h4⟩:=hv hC
    refine ⟨w,H',n', μ',⟨k0,fun k hk'=>by rw [(hg _).1 hC]; exact h1 k hk'⟩, ?_,h2,hreg,fun t ht=>x1A _ _ _ _ ht⟩
    exact hp.sr.mk_put h2 h3 o.dst (x8B (fun _=>h4) fun e=>by rw [hC] at e; cases e)
  | false =>
    refine ⟨undef,H,n, μ, ⟨0,fun k _=>by rw [(hg _).2.1 hC]⟩, ?_,Gr.refl _ _ _ _ _,hreg,fun t ht=>x1A _ _ _ _ ht⟩
    exact hp.sr.put o.dst (x8B (fun e=>by rw [hC] at e; cases e) fun _=>rfl)
theorem y9R {b : Bool} (h : imp st C b = true) (hg : gOf st.T C = true) : b = true:=by
  unfold imp at h
  split at h
  . exact h
  . rw [hg] at h; exact h
theorem z2X (hp : Pre P V X all o C dn sz μ st T H n) {y : YOp} (hc : x1T P o.op = some y) (hn : x8A y = false) {v : PV D} (h : gOf st.T C = true -> ValR P o T V μ H (MX X μ st.B) v) : y0W P hk V X all sz o C dn μ st T H n (setD st ⟨C,o.dst,y⟩ v) :=
  x8J hp fun hg=>by
    obtain ⟨w,h1,h2⟩:=h hg
    exact ⟨w,H,n, μ, ⟨0,fun k _=>by rw [x5S hc hn]; exact h2 H n⟩,Gr.refl _ _ _ _ _,hp.sr.hr,h1⟩
theorem x5Q {x : Option R} {r : R} (h : y6A C x = some r) : C = [] /\ x = some r:=by
  unfold y6A at h
  split at h
  . exact ⟨rfl,h⟩
  . cases h
theorem u5T (hp : Pre P V X all o [] dn sz μ st T H n) {y : YOp} (hc : x1T P o.op = some y) (hn : x8A y = false) {w : PV D} {xv : Value} {B' : Bt D} {m' : Nat} {H' : Hp} {n' : Nat} {μ' : Mu} (hx : (x0N P o).f T H n = .ok xv H' n') (gr : Gr μ st.B st.m H n μ' B' m' H' n') (hr : HR V X μ' B' m' H' n') (hw : Rep V μ' H' (MX X μ' B') w xv) (hno : ∀ C g v,w ≠ .opt C g v) :
    y0W P hk V X all sz o [] dn μ st T H n ⟨pput st.T o.dst w,B',m'⟩:=by
  have hg:=x3M (P:=P) hp.sr hp.reg hp.fit hp.ok hp.gd hp.dst
  refine ⟨xv,H',n', μ',⟨0,fun k _=>by rw [(hg _).1 rfl,x5S hc hn]; exact hx⟩,hp.sr.mk_put gr hr o.dst hw,gr, ?_,fun t ht=>x1A _ _ _ _ ht⟩
  exact hp.reg.set hp.fit hp.new (fun C' g v e=>absurd e (hno C' g v)) (fun hne=>absurd rfl hne)
theorem mk_ok (hp : Pre P V X all o [] dn sz μ st T H n) {y : YOp} (hc : x1T P o.op = some y) (hn : x8A y = false) {b : Blk D} {f : Nat -> PV D} (h : opR st.B (opd st.T []) y = .mk b f) : y0W P hk V X all sz o [] dn μ st T H n (newB st ⟨[],o.dst,y⟩ b f):=by
  obtain ⟨xl,e,len,w,h1,h2⟩:=mk_got (x2J hp.sr hp.reg rfl) hc h
  have hf:=hp.sr.hr.fresh_blk (oi:=none) (H':=hset H n (.cells xl e)) (len:=len) (b:=b) (fun y hy _=>by rw [x0E,if_neg hy]) (fun i hi=>by cases hi)
    (fun μ' H2 M' kp hm hg=>(h2 μ' H2 M' st.m n kp hm (by rw [hg,x0E,if_pos rfl])).1)
  have hm : updM μ st.m n len st.m = some (some n,len):=if_pos rfl
  have hrep:=(h2 _ _ _ st.m n (hf.1.keep hp.sr.hr) hm (by rw [x0E,if_pos rfl])).2
  exact u5T hp hc hn (h1 H n) hf.1 hf.2 hrep.noOpt fun C g v=>x6J _ _ _ _
theorem wr_ok (hp : Pre P V X all o [] dn sz μ st T H n) {y : YOp} (hc : x1T P o.op = some y) (hn : x8A y = false) {i : Nat} {b : Blk D} (h : opR st.B (opd st.T []) y = .wr i b) : y0W P hk V X all sz o [] dn μ st T H n (wrB st ⟨[],o.dst,y⟩ i b):=by
  obtain ⟨x,len,xl,e,s,b0,h1,h2,h3,h4⟩:=wr_got (x2J hp.sr hp.reg rfl) hp.sr.hr hc h
  have hf:=hp.sr.hr.write_blk (H':=hset H x (.cells xl e)) (b:=b) h2 h1 (fun y hy=>by rw [x0E,if_neg hy]) (fun M' kp=>h4 μ _ M' kp (by rw [x0E,if_pos rfl]))
  exact u5T hp hc hn h3 hf.1 hf.2 (.undef _) fun C g v=>by simp
theorem ap_ok (hp : Pre P V X all o [] dn sz μ st T H n) {y : YOp} (hc : x1T P o.op = some y) (hn : x8A y = false) {oi : Option Nat} {b : Blk D} {ck : Bool} (h : opR st.B (opd st.T []) y = .ap ck oi b) (hck : ck = true) : y0W P hk V X all sz o [] dn μ st T H n (apB st ⟨[],o.dst,y⟩ oi b):=by
  obtain ⟨xl,e,len,c,H',h1,h2,h3,h4,h5,h6⟩:=ap_got (x2J hp.sr hp.reg rfl) hp.sr.hr hc h hck
  have hf:=hp.sr.hr.fresh_blk (oi:=oi) (H':=H') (len:=len) (b:=b) h4 h5 (fun μ' H2 M' kp hm hg=>h6 μ' H2 M' (by rw [hg]; exact h3))
  have hm : updM μ st.m n len st.m = some (some n,len):=if_pos rfl
  have he : apB st ⟨[],o.dst,y⟩ oi b = ⟨pput st.T o.dst (.lsl st.m),bset (z3L st.B oi) st.m (some (st.m,b)),st.m + 1⟩:=by cases oi <;> rfl
  rw [he]
  exact u5T hp hc hn h1 hf.1 hf.2 (.lsl st.m n len c hm h2) fun C g v=>by simp
theorem v0K {op : Op} {c a b : Yd} (hc : x1T P op = some (.pick c a b)) : ∃ oc oa ob,op = .pick oc oa ob /\ ydO oc = some c /\ ydO oa = some a /\ ydO ob = some b:=by
  rcases x3D hc with h | ⟨t,a,rfl⟩ | ⟨s,d,x,e0,_,_,_,_,h⟩ | ⟨e,x,rfl⟩ | ⟨e,rfl⟩ | ⟨t,len,ps,rfl⟩ | ⟨t,a,v,rfl⟩ | ⟨args,ts,rfl⟩ | ⟨s,d,x,e0,_,_,_,h⟩
  . unfold x1T at hc
    split at hc
    all_goals first
      | (obtain ⟨a,_,h⟩:=x0G hc; cases h; done)
      | (obtain ⟨a,b,_,_,h⟩:=x0T hc; cases h; done)
      | (cases hc; done)
      | (obtain ⟨_,e1,h1⟩:=x0A hc; obtain ⟨_,e2,h2⟩:=x0A h1; obtain ⟨_,e3,h3⟩:=x0C h2; cases h3; exact ⟨_,_,_,rfl,e1,e2,e3⟩)
      | (obtain ⟨a,h1,h2⟩:=x0C hc; cases h2; done)
      | skip
    . unfold yBin at hc
      split at hc <;> first | (cases hc; done) | (split at hc <;> first | (cases hc; done) | (obtain ⟨a,b,_,_,h⟩:=x0T hc; cases h; done))
    . unfold z0Q at hc
      split at hc
      . obtain ⟨a,_,h⟩:=x0G hc; cases h
      . obtain ⟨a,_,h⟩:=x0G hc; cases h
      . obtain ⟨a,_,h⟩:=x0G hc; cases h
      . obtain ⟨a,_,h⟩:=x0G (x0B hc).2; cases h
      . obtain ⟨a,_,h⟩:=x0G (x0B hc).2; cases h
      . obtain ⟨a,_,h⟩:=x0G (x0B hc).2; cases h
      . cases hc
    . split at hc
      . obtain ⟨a,b,_,_,h⟩:=x0T hc; cases h
      . obtain ⟨a,b,_,_,h⟩:=x0T (x0B hc).2; cases h
      . cases hc
    . unfold x9Z at hc
      split at hc
      . obtain ⟨_,_,h1⟩:=x0A hc
        obtain ⟨_,_,h2⟩:=x0A h1
        obtain ⟨_,_,h3⟩:=x0C h2
        cases h3
      . cases hc
    . unfold x1B at hc
      split at hc
      . split at hc
        . obtain ⟨a,_,h⟩:=x0G hc; cases h
        . obtain ⟨a,_,h⟩:=x0G hc; cases h
        . cases hc
      . obtain ⟨a,b,_,_,h⟩:=x0T hc; cases h
      . obtain ⟨a,b,_,_,h⟩:=x0T hc; cases h
      . obtain ⟨_,_,h1⟩:=x0A hc
        obtain ⟨_,_,h2⟩:=x0A h1
        obtain ⟨_,_,h3⟩:=x0A h2
        obtain ⟨_,_,h4⟩:=x0A h3
        obtain ⟨a,b,_,_,h⟩:=x0T h4; cases h
      . cases hc
    all_goals first
      | (unfold yAlloc at hc
         obtain ⟨z,_,h2⟩:=x0A hc
         obtain ⟨cs,_,h4⟩:=x0A h2
         cases harr : x1U P _ <;> rw [harr] at h4
         . cases h4
         . rw [cond_true] at h4
           split at h4
           . obtain ⟨l,_,h5⟩:=x0C h4; cases h5
           . cases h4
           . cases h4)
      | (unfold yMake at hc
         obtain ⟨_,h1⟩:=x0B hc
         obtain ⟨_,_,h2⟩:=x0A h1
         obtain ⟨_,_,h3⟩:=x0A h2
         obtain ⟨a,_,h⟩:=x0G h3; cases h; done)
      | (obtain ⟨_,_,h1⟩:=x0A hc; obtain ⟨_,_,h2⟩:=x0A h1; obtain ⟨_,_,h3⟩:=x0A h2; obtain ⟨_,_,h4⟩:=x0A h3; obtain ⟨_,_,h6⟩:=x0C h4; cases h6; done)
      | (obtain ⟨_,_,h1⟩:=x0A hc; obtain ⟨_,_,h2⟩:=x0A h1; obtain ⟨_,h3⟩:=x0B h2; obtain ⟨a,_,h⟩:=x0G h3; cases h; done)
      | (obtain ⟨_,_,h1⟩:=x0A hc; obtain ⟨_,_,h2⟩:=x0A h1; obtain ⟨_,_,h3⟩:=x0A h2; obtain ⟨a,_,h⟩:=x0G h3; cases h; done)
      | (obtain ⟨_,_,h1⟩:=x0A hc; obtain ⟨_,_,h2⟩:=x0A h1; obtain ⟨a,_,h⟩:=x0G h2; cases h; done)
      | (obtain ⟨_,_,h1⟩:=x0A hc; obtain ⟨a,b,_,_,h⟩:=x0T h1; cases h; done)
      | (obtain ⟨_,_,h1⟩:=x0A hc; obtain ⟨_,_,h2⟩:=x0A h1; obtain ⟨_,_,h3⟩:=x0A h2; obtain ⟨_,_,h4⟩:=x0A h3; obtain ⟨_,_,h5⟩:=x0A h4; obtain ⟨_,_,h6⟩:=x0C h5; cases h6; done)
      | (obtain ⟨_,_,h1⟩:=x0A hc; obtain ⟨_,_,h2⟩:=x0A h1; obtain ⟨_,_,h3⟩:=x0A h2; obtain ⟨_,h4⟩:=x0B h3; cases h4; done)
      | (split at hc <;> first | (cases hc; done) | (obtain ⟨a,_,h⟩:=x0G hc; cases h; done))
      | (unfold yIaddr at hc
         split at hc
         . obtain ⟨a,b,_,_,h⟩:=x0T (x0B hc).2; cases h
         . obtain ⟨a,b,_,_,h⟩:=x0T (x0B hc).2; cases h
         . cases hc)
  . obtain ⟨_,_,h1⟩:=x0A hc
    obtain ⟨_,_,h2⟩:=x0A h1
    obtain ⟨a,_,h⟩:=x0G h2; cases h
  . obtain ⟨a,_,h⟩:=x0G h; cases h
  . obtain ⟨a,_,h⟩:=x0G (show y1 (.box e) x = some _ from hc); cases h
  . have hc : yAlloc P e = some _:=hc
    unfold yAlloc at hc
    obtain ⟨z,_,h2⟩:=x0A hc
    obtain ⟨cs,_,h4⟩:=x0A h2
    cases harr : x1U P e <;> rw [harr] at h4
    . cases h4
    . rw [cond_true] at h4
      split at h4
      . obtain ⟨l,_,h5⟩:=x0C h4; cases h5
      . cases h4
      . cases h4
  . obtain ⟨_,_,h1⟩:=x0A (show x1C P t len ps.toList = some _ from hc)
    obtain ⟨_,_,h2⟩:=x0A h1
    obtain ⟨_,_,h3⟩:=x0A h2
    obtain ⟨_,h4⟩:=x0B h3
    cases h4
  . obtain ⟨_,_,h1⟩:=x0A hc
    obtain ⟨a,b,_,_,h⟩:=x0T h1; cases h
  . have hc : x1B P .append args.toList ts.toList = some _:=hc
    unfold x1B at hc
    split at hc <;> first | (rename_i hh _ _; cases hh; done) | (rename_i hh _; cases hh; done) | (cases hc; done) | skip
    obtain ⟨_,_,h1⟩:=x0A hc
    obtain ⟨_,_,h2⟩:=x0A h1
    obtain ⟨_,_,h3⟩:=x0A h2
    obtain ⟨_,_,h4⟩:=x0A h3
    obtain ⟨a,b,_,_,h⟩:=x0T h4; cases h
  . rcases h with ⟨_,h⟩ | ⟨_,_,_,_,h⟩ <;> (obtain ⟨a,_,h⟩:=x0G h; cases h)
theorem y3S (hp : Pre P V X all o C dn sz μ st T H n) {c a b : Yd} (hc : x1T P o.op = some (.pick c a b)) {v : PV D} (h : Got (y0F st C c a b) v) (hg : gOf st.T C = true) : ValR P o T V μ H (MX X μ st.B) v:=by
  have key : ∃ oc oa ob,o.op = .pick oc oa ob /\ ydO oc = some c /\ ydO oa = some a /\ ydO ob = some b:=v0K hc
  obtain ⟨oc,oa,ob,ho,h1,h2,h3⟩:=key
  have hρ :=x2J hp.sr hp.reg hg
  unfold y0F at h
  split at h
  . rename_i t k e1 e2
    have hcb : ev T oc = .bool t:=(e1 ▸ hρ oc c h1 : Rep V μ H (MX X μ st.B) (.bool t) (ev T oc)).bool_of
    have hcn : c = .t k:=by
      unfold tmpD at e2
      split at e2
      . cases e2; rfl
      . cases e2
    have hl : ∀ w,t = w -> gOf st.T ((k,w) :: C) = true:=fun w hw=>by
      rw [x8V,hg,cond_true]
      unfold lit
      subst hcn
      have : x3E C (pget st.T k) = .bool t:=e1
      show cond w (x7N (x3E C (pget st.T k))) (!(x7N (x3E C (pget st.T k)))) = true
      rw [this,hw]
      cases w <;> rfl
    have hcc : ∀ H2 n2,(x0N P o).f T H2 n2 = .ok (cond t (ev T oa) (ev T ob)) H2 n2:=fun H2 n2=>by
      have : (x0N P o).f T H2 n2 = z6K (ev T oc) fun t=> .ok (cond t (ev T oa) (ev T ob)) H2 n2:=by unfold x0N; rw [ho]
      rw [this,hcb]; rfl
    cases t with
    | true =>
      have ra:=x2J hp.sr hp.reg (hl true rfl) oa a h2
      generalize opd st.T ((k,true) :: C) a = pa at h ra
      generalize opd st.T ((k,false) :: C) b = pb at h
      refine ⟨ev T oa, ?_,hcc⟩
      unfold selP at h
      split at h
      . obtain rfl:=x1D h; exact ra
      . cases hk : ikeq _ _ <;> rw [hk] at h
        . exact (x0L h).elim
        . obtain rfl:=x1D h; exact ra
      . obtain rfl:=x1D h; exact ra
      . obtain ⟨_,rfl⟩:=x3B h; exact ra
      . obtain ⟨h0,_⟩:=x3B h; cases h0
      . exact (x0L h).elim
    | false =>
      have rb:=x2J hp.sr hp.reg (hl false rfl) ob b h3
      generalize opd st.T ((k,true) :: C) a = pa at h
      generalize opd st.T ((k,false) :: C) b = pb at h rb
      refine ⟨ev T ob, ?_,hcc⟩
      unfold selP at h
      split at h
      . obtain rfl:=x1D h; exact rb
      . cases hk : ikeq _ _ <;> rw [hk] at h
        . exact (x0L h).elim
        . obtain rfl:=x1D h; rw [x4K hk]; exact rb
      . obtain rfl:=x1D h; exact rb
      . obtain ⟨h0,_⟩:=x3B h; cases h0
      . obtain ⟨_,rfl⟩:=x3B h; exact rb
      . exact (x0L h).elim
  . exact (x0L h).elim
end
end Go.Yec
namespace Go.Yec
open Go Go.Xec
variable [GT]
section
variable {D : Type} {V : D -> List (PV D)} {μ : Mu} {H : Hp} {P : Program} {hk : Hook} {o : Oper} {T : Tm} {X : Nat -> Prop} {n m : Nat} {st : Y D} {dn : Dn} {C : Ch} {B : Bt D} {R : Type} {ρ : Yd -> PV D}
theorem v2T {op : Op} {p : Prim} {ys : List Yd} (hc : x1T P op = some (.prim p ys)) : (∃ t x a,op = .range t x /\ P.underlying t = some .string /\ ydO x = some a /\ p = .rng /\ ys = [a]) \/ (∃ it a,op = .next it true /\ ydO it = some a /\ p = .nxt /\ ys = [a]) \/ (∃ t l c e k a,op = .makeSlice t l c /\ opEq l c = true /\ x2N (P.underlying t) = some e /\ x2T P e = some k /\ ydO l = some a /\ p = .mks e k /\ ys = [a]):=by
  rcases x3D hc with h | ⟨t,a,rfl⟩ | ⟨s,d,x,e0,_,_,_,_,h⟩ | ⟨e,x,rfl⟩ | ⟨e,rfl⟩ | ⟨t,len,ps,rfl⟩ | ⟨t,a,v,rfl⟩ | ⟨args,ts,rfl⟩ | ⟨s,d,x,e0,_,_,_,h⟩
  . unfold x1T at hc
    split at hc
    all_goals first
      | (obtain ⟨a,_,h⟩:=x0G hc; cases h; done)
      | (obtain ⟨a,b,_,_,h⟩:=x0T hc; cases h; done)
      | (cases hc; done)
      | (obtain ⟨_,e1,h1⟩:=x0A hc; obtain ⟨_,e2,h2⟩:=x0A h1; obtain ⟨_,e3,h3⟩:=x0C h2; cases h3; done)
      | (obtain ⟨a,h1,h2⟩:=x0C hc; cases h2; done)
      | skip
    . unfold yBin at hc
      split at hc <;> first | (cases hc; done) | (split at hc <;> first | (cases hc; done) | (obtain ⟨a,b,_,_,h⟩:=x0T hc; cases h; done))
    . unfold z0Q at hc
      split at hc
      . obtain ⟨a,_,h⟩:=x0G hc; cases h
      . obtain ⟨a,_,h⟩:=x0G hc; cases h
      . obtain ⟨a,_,h⟩:=x0G hc; cases h
      . obtain ⟨a,_,h⟩:=x0G (x0B hc).2; cases h
      . obtain ⟨a,_,h⟩:=x0G (x0B hc).2; cases h
      . obtain ⟨a,_,h⟩:=x0G (x0B hc).2; cases h
      . cases hc
    . split at hc
      . obtain ⟨a,b,_,_,h⟩:=x0T hc; cases h
      . obtain ⟨a,b,_,_,h⟩:=x0T (x0B hc).2; cases h
      . cases hc
    . unfold x9Z at hc
      split at hc
      . obtain ⟨_,_,h1⟩:=x0A hc
        obtain ⟨_,_,h2⟩:=x0A h1
        obtain ⟨_,_,h3⟩:=x0C h2
        cases h3
      . cases hc
    . unfold x1B at hc
      split at hc
      . split at hc
        . obtain ⟨a,_,h⟩:=x0G hc; cases h
        . obtain ⟨a,_,h⟩:=x0G hc; cases h
        . cases hc
      . obtain ⟨a,b,_,_,h⟩:=x0T hc; cases h
      . obtain ⟨a,b,_,_,h⟩:=x0T hc; cases h
      . obtain ⟨_,_,h1⟩:=x0A hc
        obtain ⟨_,_,h2⟩:=x0A h1
        obtain ⟨_,_,h3⟩:=x0A h2
        obtain ⟨_,_,h4⟩:=x0A h3
        obtain ⟨a,b,_,_,h⟩:=x0T h4; cases h
      . cases hc
    all_goals first
      | (unfold yAlloc at hc
         obtain ⟨z,_,h2⟩:=x0A hc
         obtain ⟨cs,_,h4⟩:=x0A h2
         cases harr : x1U P _ <;> rw [harr] at h4
         . cases h4
         . rw [cond_true] at h4
           split at h4
           . obtain ⟨l,_,h5⟩:=x0C h4; cases h5
           . cases h4
           . cases h4)
      | (unfold yMake at hc
         obtain ⟨h0,h1⟩:=x0B hc
         obtain ⟨e,h4,h2⟩:=x0A h1
         obtain ⟨k,h5,h3⟩:=x0A h2
         obtain ⟨a,h6,h⟩:=x0G h3; cases h; exact .inr (.inr ⟨_,_,_,_,_,_,rfl,h0,h4,h5,h6,rfl,rfl⟩))
      | (obtain ⟨_,_,h1⟩:=x0A hc; obtain ⟨_,_,h2⟩:=x0A h1; obtain ⟨_,_,h3⟩:=x0A h2; obtain ⟨_,_,h4⟩:=x0A h3; obtain ⟨_,_,h6⟩:=x0C h4; cases h6; done)
      | (obtain ⟨_,_,h1⟩:=x0A hc; obtain ⟨_,_,h2⟩:=x0A h1; obtain ⟨_,h3⟩:=x0B h2; obtain ⟨a,_,h⟩:=x0G h3; cases h; done)
      | (obtain ⟨_,_,h1⟩:=x0A hc; obtain ⟨_,_,h2⟩:=x0A h1; obtain ⟨_,_,h3⟩:=x0A h2; obtain ⟨a,_,h⟩:=x0G h3; cases h; done)
      | (obtain ⟨_,_,h1⟩:=x0A hc; obtain ⟨_,_,h2⟩:=x0A h1; obtain ⟨a,_,h⟩:=x0G h2; cases h; done)
      | (obtain ⟨_,_,h1⟩:=x0A hc; obtain ⟨a,b,_,_,h⟩:=x0T h1; cases h; done)
      | (obtain ⟨_,_,h1⟩:=x0A hc; obtain ⟨_,_,h2⟩:=x0A h1; obtain ⟨_,_,h3⟩:=x0A h2; obtain ⟨_,_,h4⟩:=x0A h3; obtain ⟨_,_,h5⟩:=x0A h4; obtain ⟨_,_,h6⟩:=x0C h5; cases h6; done)
      | (obtain ⟨_,_,h1⟩:=x0A hc; obtain ⟨_,_,h2⟩:=x0A h1; obtain ⟨_,_,h3⟩:=x0A h2; obtain ⟨_,h4⟩:=x0B h3; cases h4; done)
      | (split at hc
         . rename_i hu
           obtain ⟨a,h1,h2⟩:=x0G hc
           cases h2
           exact .inl ⟨_,_,_,rfl,hu,h1,rfl,rfl⟩
         . cases hc)
      | (obtain ⟨a,h1,h2⟩:=x0G hc; cases h2; exact .inr (.inl ⟨_,_,rfl,h1,rfl,rfl⟩))
      | (unfold yIaddr at hc
         split at hc
         . obtain ⟨a,b,_,_,h⟩:=x0T (x0B hc).2; cases h
         . obtain ⟨a,b,_,_,h⟩:=x0T (x0B hc).2; cases h
         . cases hc)
  . obtain ⟨_,_,h1⟩:=x0A hc
    obtain ⟨_,_,h2⟩:=x0A h1
    obtain ⟨a,_,h⟩:=x0G h2; cases h
  . obtain ⟨a,_,h⟩:=x0G h; cases h
  . obtain ⟨a,_,h⟩:=x0G (show y1 (.box e) x = some _ from hc); cases h
  . have hc : yAlloc P e = some _:=hc
    unfold yAlloc at hc
    obtain ⟨z,_,h2⟩:=x0A hc
    obtain ⟨cs,_,h4⟩:=x0A h2
    cases harr : x1U P e <;> rw [harr] at h4
    . cases h4
    . rw [cond_true] at h4
      split at h4
      . obtain ⟨l,_,h5⟩:=x0C h4; cases h5
      . cases h4
      . cases h4
  . obtain ⟨_,_,h1⟩:=x0A (show x1C P t len ps.toList = some _ from hc)
    obtain ⟨_,_,h2⟩:=x0A h1
    obtain ⟨_,_,h3⟩:=x0A h2
    obtain ⟨_,h4⟩:=x0B h3
    cases h4
  . obtain ⟨_,_,h1⟩:=x0A hc
    obtain ⟨a,b,_,_,h⟩:=x0T h1; cases h
  . have hc : x1B P .append args.toList ts.toList = some _:=hc
    unfold x1B at hc
    split at hc <;> first | (rename_i hh _ _; cases hh; done) | (rename_i hh _; cases hh; done) | (cases hc; done) | skip
    obtain ⟨_,_,h1⟩:=x0A hc
    obtain ⟨_,_,h2⟩:=x0A h1
    obtain ⟨_,_,h3⟩:=x0A h2
    obtain ⟨_,_,h4⟩:=x0A h3
    obtain ⟨a,b,_,_,h⟩:=x0T h4; cases h
  . rcases h with ⟨_,h⟩ | ⟨_,_,_,_,h⟩ <;> (obtain ⟨a,_,h⟩:=x0G h; cases h)
theorem v6S (u : ByteArray) : (⟨u.data.toList.toArray⟩ : ByteArray) = u:=by simp
theorem prim_got (hρ : OpdR V μ H (MX X μ B) T ρ) (hr : HR V X μ B m H n) {p : Prim} {ys : List Yd} (hc : x1T P o.op = some (.prim p ys)) {ck : Bool} {v : PV D} {B' : Bt D} {m' : Nat} (h : z9Y p (ys.map ρ) B m = .ok ck v B' m') (_hck : ck = true) :
    ∃ w H' n' μ',(x0N P o).f T H n = .ok w H' n' /\ Gr μ B m H n μ' B' m' H' n' /\ HR V X μ' B' m' H' n' /\ Rep V μ' H' (MX X μ' B') v w:=by
  rcases v2T hc with ⟨t,x,a,ho,hu,ha,rfl,rfl⟩ | ⟨it,a,ho,ha,rfl,rfl⟩ | ⟨t,l,c,e,k,a,ho,hlc,hs,hk,ha,rfl,rfl⟩
  . have h : z9Y .rng [ρ a] B m = .ok ck v B' m':=h
    have hrep:=hρ x a ha
    generalize ρ a = y at h hrep
    cases y <;> first | (cases h; done) | skip
    rename_i s
    cases h
    obtain ⟨u,rfl,hx⟩:=hrep.str_of
    have hf:=hr.fresh_blk (oi:=none) (H':=hset H n (.iter u 0)) (len:= 0) (b:= .iter u.data.toList 0) (fun y hy _=>by rw [x0E,if_neg hy]) (fun i hi=>by cases hi)
      (fun μ' H2 M' kp hm hg=> .iter n 0 u 0 (by rw [hg,x0E,if_pos rfl]))
    have hm : updM μ m n 0 m = some (some n, 0):=if_pos rfl
    refine ⟨_,_,_,_, ?_,hf.1,hf.2, .lptr m 0 n 0 hm⟩
    have : (x0N P o).f T H n = (u6H P t x).f T H n:=by unfold x0N; rw [ho]
    rw [this]
    unfold u6H
    rw [hu]
    show y8N (ev T x) _ = _
    rw [hx]
    rfl
  . have h : z9Y .nxt [ρ a] B m = .ok ck v B' m':=h
    have hrep:=hρ it a ha
    generalize ρ a = y at h hrep
    cases y <;> first | (cases h; done) | skip
    rename_i i off
    cases off with
    | succ k=>cases h
    | zero =>
      have h : (match bget B i with
        | some (_, .iter s p)=>PrimR.ok true (.nx (decide (p < slen s)) p (x4Q s p)) (bset B i (some (m, .iter s (y1E s p)))) (Nat.succ m)
        | _=> .bad) = .ok ck v B' m':=h
      split at h
      . rename_i st s p hbk
        cases h
        obtain ⟨x,len,hm,hx⟩:=x9Q hrep
        obtain ⟨_,ox,len',h1,h2⟩:=hr.blk i st _ hbk
        rw [hm] at h1; cases h1
        generalize hs : s = s' at h2
        generalize hp : p = p' at h2
        cases h2 with
        | iter _ _ u q hg =>
          subst hs hp
          have hcc : (x0N P o).f T H n = v3M u q H n x:=by
            have : (x0N P o).f T H n = (cNext it).f T H n:=by unfold x0N; rw [ho]
            rw [this]
            unfold cNext
            show x5Z (ev T it) _ = _
            rw [hx]
            show onO (u5C (hget H x)) _ = _
            rw [hg]
            rfl
          have hsl : slen u.data.toList = (u.size : Int):=by unfold slen; rw [<- x2B]
          have htn : (q : Int).toNat = q:=by simp
          cases hb : Nat.ble (Nat.succ q) u.size with
          | true =>
            have hlt : (q : Int) < slen u.data.toList:=by rw [hsl]; have:=x1E hb; omega
            have hn : y1E u.data.toList q = ((q + (Utf8.decode u q).2 : Nat) : Int):=by
              unfold y1E
              rw [decide_eq_true hlt,cond_true,v6S,htn]
              simp
            have hru : x4Q u.data.toList q = ((Utf8.decode u q).1 : Int):=by
              unfold x4Q
              rw [v6S,htn]
            rw [decide_eq_true hlt,hn,hru]
            have hf:=hr.write_blk (H':=hset H x (.iter u (q + (Utf8.decode u q).2))) (b:= .iter u.data.toList ((q + (Utf8.decode u q).2 : Nat) : Int)) hbk hm (fun y hy=>by rw [x0E,if_neg hy]) (fun M' kp=> .iter x len u _ (by rw [x0E,if_pos rfl]))
            refine ⟨_,_,_,_, ?_,hf.1,hf.2, .nx1 _ _⟩
            rw [hcc]
            unfold v3M
            rw [hb]
            rfl
          | false =>
            have hlt : ¬ (q : Int) < slen u.data.toList:=by
              rw [hsl]
              intro hl
              rw [Nat.ble_eq_true_of_le (by omega)] at hb
              cases hb
            have hn : y1E u.data.toList q = (q : Int):=by
              unfold y1E
              rw [decide_eq_false hlt,cond_false]
            rw [decide_eq_false hlt,hn]
            have hf:=hr.write_blk (H':=H) (b:= .iter u.data.toList (q : Int)) hbk hm (fun y hy=>rfl) (fun M' kp=> .iter x len u _ hg)
            refine ⟨_,_,_,_, ?_,hf.1,hf.2, .nx0 _ _⟩
            rw [hcc]
            unfold v3M
            rw [hb]
            rfl
      . cases h
  . have h : z9Y (.mks e k) [ρ a] B m = .ok ck v B' m':=h
    have hrep:=hρ l a ha
    generalize ρ a = y at h hrep
    cases y <;> first | (cases h; done) | skip
    rename_i k2 q
    cases h
    have hck:=of_decide_eq_true _hck
    have hx:=hrep.int_of
    obtain ⟨i,h1,h2,h3,h4,h5,h6,h7⟩:=y1K hk
    have hlc:=v2Z hlc
    subst hlc
    obtain ⟨nx,rfl⟩ : ∃ nx : Nat,q = nx:=⟨q.toNat,by omega⟩
    have hnx : nx <= 1000000:=by omega
    have hrl : ∀ j,(repI j).length = j:=fun j=>by
      induction j with
      | zero=>rfl
      | succ j ih=>show (0 :: repI j).length = _; simp [ih]
    have hre : ∀ j,(repI j).map (Value.int k) = repl j [Value.int k 0]:=fun j=>by
      induction j with
      | zero=>rfl
      | succ j ih=>show (0 :: repI j).map (Value.int k) = [Value.int k 0] ++ repl j [Value.int k 0]; rw [List.map_cons,ih]; rfl
    have hf:=hr.fresh_blk (oi:=none) (H':=hset H n (.cells (repl nx [Value.int k 0]) e)) (len:=(repI nx).length) (b:= .rowI e k (repI nx)) (fun y hy _=>by rw [x0E,if_neg hy]) (fun i hi=>by cases hi)
      (fun μ' H2 M' kp hm hg=> .rowI n e k (repI nx) (by rw [hg,x0E,if_pos rfl,hre]))
    have hm : updM μ m n (repI nx).length m = some (some n,(repI nx).length):=if_pos rfl
    have hT : ((nx : Int)).toNat = nx:=by simp
    refine ⟨_,hset H n (.cells (repl nx [Value.int k 0]) e),n + 1,_, ?_, ?_, ?_, .lsl m n (repI nx).length (repI nx).length hm (.inr rfl)⟩
    . have : (x0N P o).f T H n = (x6Q P t l l).f T H n:=by unfold x0N; rw [ho]
      rw [this]
      unfold x6Q
      rw [hs]
      show (coO (P.info? e) _).f T H n = _
      rw [h4]
      show (coO (x4C P e) _).f T H n = _
      rw [h3]
      show (coIf (Nat.beq 1 i.size) _).f T H n = _
      rw [h7]
      show u0D (ev T l) _ = _
      rw [hx]
      show chk (cond (Nat.ble nx nx) (cond (Nat.ble (Nat.mul nx i.bytes) 1099511627776) (Nat.ble nx 1099511627776) false) false) (newS H n (repl nx [Value.int k 0]) e nx nx) = _
      have b1 : Nat.mul nx i.bytes <= 1099511627776:=Nat.le_trans (Nat.mul_le_mul hnx h6) (by decide)
      rw [Nat.ble_eq_true_of_le (Nat.le_refl nx),Nat.ble_eq_true_of_le b1,Nat.ble_eq_true_of_le (show nx <= 1099511627776 by omega)]
      rw [hrl nx]
      rfl
    . rw [hT]; exact hf.1
    . rw [hT]; exact hf.2
end
end Go.Yec
