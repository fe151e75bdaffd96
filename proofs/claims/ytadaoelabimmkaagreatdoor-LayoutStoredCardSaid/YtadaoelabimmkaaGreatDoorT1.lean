/-
  small of one type, walked.; CheckType, CheckValue, Size, Align of both, as the model's calls.; LayoutTypes, walked.; good of a type and a value, walked.
-/
import Derived.Test.YtadaoelabimmkaaGreatDoorY13
import Derived.Below
import Derived.Deep.RegionHeld3
import Derived.Test.YtadaoelabimmkaaGreatDoorG2
import Derived.Test.YtadaoelabimmkaaGreatDoorY17
import Derived.Test.YtadaoelabimmkaaGreatDoorZ7
set_option linter.all false
namespace Go.Proofs
open Go.RowKit
abbrev tyV (k p q : Int) (v : Bool) (s : ByteArray) : Value:= .agg #[.int .i64 k, .int .i64 p, .int .i64 q, .bool v, .string s]
abbrev vaV (n : Int) (s : ByteArray) : Value:= .agg #[.int .i64 n, .string s]
set_option maxHeartbeats 1000000 in
theorem small57 (k p q : Int) (v : Bool) (s : ByteArray) (w : World) :
    Calls Tryz.prog 57 #[tyV k p q v s] w fun e w'=>e = .returned (.bool (decide (200 < (s.size : Int)))) /\ Below w.heap.size w w':=by
  go_enter Tryz.func57,Tryz.ntmps57
  go_wp2
  go_ret
  exact ⟨rfl,(Below.refl _ w).alloc (Nat.le_refl _) _⟩
set_option maxHeartbeats 1000000 in
theorem small95 (k p q : Int) (v : Bool) (s : ByteArray) (b : Nat) (w : World) (hb : b < w.heap.size) (h0 : w.cell? ⟨b, 0, none⟩ = some (.int .i64 k)) (h1 : w.cell? ⟨b, 1, none⟩ = some (.int .i64 p)) (h2 : w.cell? ⟨b, 2, none⟩ = some (.int .i64 q)) (h3 : w.cell? ⟨b, 3, none⟩ = some (.bool v)) (h4 : w.cell? ⟨b, 4, none⟩ = some (.string s)) :
    Calls Tryz.prog 95 #[.slice (some ⟨b, 0,none⟩) 1 1, .func (.func 57) #[] #[]] w fun e w'=>(e = .returned (.int .i64 (cond (decide (200 < (s.size : Int))) 0 (-1)))) /\ Below w.heap.size w w':=by
  have hs:=fun w=>small57 k p q v s w
  generalize decide (200 < (s.size : Int)) = big at hs |-
  go_enter Tryz.func95,Tryz.ntmps95
  go_wp2
  go_loopw [8] (fun x wr=>(x = .int .i64 0 /\ wr = w) \/ (x = .int .i64 1 /\ big = false /\ Below w.heap.size w wr)) (fun x _=>(1 - intOf x).toNat)
  case atStart=>exact .inl ⟨rfl,rfl⟩
  case round =>
    rcases hrel with ⟨rfl,rfl⟩ | ⟨rfl,rfl,hB⟩
    . cases big
      . go_wp2_with (go_at_call 57; refine (hs _).mono ?_; rintro e w' ⟨rfl, hB⟩)
        go_roundw
        case rel=>exact .inr ⟨rfl,by first | trivial | rfl,hB⟩
        case measure=>simp [intOf]
      . go_wp2_with (go_at_call 57; refine (hs _).mono ?_; rintro e w' ⟨rfl, hB⟩)
        go_ret
        exact ⟨rfl,hB⟩
    . go_wp2
      go_ret
      exact ⟨rfl,hB⟩
set_option maxHeartbeats 1000000 in
theorem small14 (k p q : Int) (v : Bool) (s : ByteArray) (b : Nat) (w : World) (hb : b < w.heap.size) (h0 : w.cell? ⟨b, 0,none⟩ = some (.int .i64 k)) (h1 : w.cell? ⟨b, 1,none⟩ = some (.int .i64 p)) (h2 : w.cell? ⟨b, 2,none⟩ = some (.int .i64 q)) (h3 : w.cell? ⟨b, 3,none⟩ = some (.bool v)) (h4 : w.cell? ⟨b, 4,none⟩ = some (.string s)) :
    Calls Tryz.prog 14 #[.slice (some ⟨b, 0,none⟩) 1 1] w fun e w'=>e = .returned (.bool (!(decide (200 < (s.size : Int))))) /\ Below w.heap.size w w':=by
  have hs:=small95 k p q v s b w hb h0 h1 h2 h3 h4
  have h56 : Calls Tryz.prog 56 #[.slice (some ⟨b, 0,none⟩) 1 1, .func (.func 57) #[] #[]] w fun e w'=>e = .returned (.bool (decide (200 < (s.size : Int)))) /\ Below w.heap.size w w':=by
    generalize decide (200 < (s.size : Int)) = big at hs |-
    go_enter Tryz.func56,Tryz.ntmps56
    go_wp2_with (go_at_call 95; refine hs.mono ?_; rintro e w' ⟨rfl,hB⟩)
    go_ret
    exact ⟨by cases big <;> rfl,hB⟩
  generalize decide (200 < (s.size : Int)) = big at h56 |-
  go_enter Tryz.func14,Tryz.ntmps14
  go_wp2_with (go_at_call 56; refine h56.mono ?_; rintro e w' ⟨rfl,hB⟩)
  go_ret
  exact ⟨rfl,hB⟩
end Go.Proofs
namespace Go.Proofs
open Go.RowKit Go.Yec
open Go.Xec (Glob)
def V0 : Unit -> List (PV Unit):=fun _=>[]
theorem x6E {w w' : World} {e : Ending} {x : Value} (h : e = .returned x /\ (∀ b,b < w.heap.size -> w'.heap[b]? = w.heap[b]?) /\ w.heap.size <= w'.heap.size /\ w'.os = w.os /\ w'.output = w.output /\ w'.tape = w.tape) : e = .returned x /\ Below w.heap.size w w' :=
  ⟨h.1,h.2.2.2.1,h.2.2.2.2.2,h.2.2.2.2.1,h.2.2.1,h.2.1⟩
variable {k p q n : Int} {v : Bool} {s u : ByteArray}
abbrev tyP {D : Type} (k p q : Int) (v : Bool) (s : ByteArray) : PV D:= .agg [.int .i64 k, .int .i64 p, .int .i64 q, .bool v, .str s.data.toList]
abbrev vaP {D : Type} (n : Int) (u : ByteArray) : PV D:= .agg [.int .i64 n, .str u.data.toList]
theorem y3P {μ : Mu} {H : Xec.Hp} {M : Nat -> Prop} : Rep V0 μ H M (.agg [.int .i64 k, .int .i64 p, .int .i64 q, .bool v, .str s.data.toList]) (tyV k p q v s) :=
  .agg _ _ (.cons _ _ _ _ (.int _ _) (.cons _ _ _ _ (.int _ _) (.cons _ _ _ _ (.int _ _) (.cons _ _ _ _ (.bool _) (.cons _ _ _ _ (.str _) .nil)))))
theorem v6C {μ : Mu} {H : Xec.Hp} {M : Nat -> Prop} : Rep V0 μ H M (.agg [.int .i64 n, .str u.data.toList]) (vaV n u) :=
  .agg _ _ (.cons _ _ _ _ (.int _ _) (.cons _ _ _ _ (.str _) .nil))
theorem y6G {D : Type} {V : D -> List (PV D)} {x : Int} {μ : Mu} {H : Xec.Hp} {M : Nat -> Prop} {y : Value} (h : Rep V μ H M (.int .i64 x) y) : y = .int .i64 x:=h.int_of
theorem c15 (hl : s.data.toList.length <= 200) (w : World) (hg : Glob w) : Calls Tryz.prog 15 #[tyV k p q v s] w fun e w'=>e = .returned (.int .i64 (cond (tyS k p q v s.data.toList) 0 5)) /\ Below w.heap.size w w' :=
  (x4Q (D:=Unit) (V:=V0) z8E x1Z x1Y (x8Q (y8E z8F 1100) (args:=[tyP k p q v s]) rfl (y5W (by omega) (by omega))) (xs:=[tyV k p q v s]) (.cons _ _ _ _ y3P .nil) rfl (fun _ _ _ _ h=>y6G h) rfl w hg).mono fun _ _ h=>x6E h
theorem c16 (hl : s.data.toList.length <= 200) (w : World) (hg : Glob w) : Calls Tryz.prog 16 #[tyV k p q v s] w fun e w'=>e = .returned (.int .i64 (cond (tyS k p q v s.data.toList) 0 5)) /\ Below w.heap.size w w' :=
  (x4Q (D:=Unit) (V:=V0) z8E x1Z x1Y (x8Q (w0C z8F 1100) (args:=[tyP k p q v s]) rfl (ty_ref (by omega) (by omega))) (xs:=[tyV k p q v s]) (.cons _ _ _ _ y3P .nil) rfl (fun _ _ _ _ h=>y6G h) rfl w hg).mono fun _ _ h=>x6E h
noncomputable def veS (k p q : Int) (v : Bool) (s : List UInt8) (n : Int) (u : List UInt8) : Int:=cond (tyS k p q v s && !(decide (k = 7))) (cond (vaS k p v s n u) 0 6) 5
theorem c17 (hl : s.data.toList.length <= 200) (w : World) (hg : Glob w) : Calls Tryz.prog 17 #[tyV k p q v s,vaV n u] w fun e w'=>e = .returned (.int .i64 (veS k p q v s.data.toList n u.data.toList)) /\ Below w.heap.size w w' :=
  (x4Q (D:=Unit) (V:=V0) z8E x1Z x1Y (x8Q (y8B z8F 1100) (args:=[tyP k p q v s,vaP n u]) rfl (u6Y (by omega) (by omega))) (xs:=[tyV k p q v s,vaV n u]) (.cons _ _ _ _ y3P (.cons _ _ _ _ v6C .nil)) rfl (fun _ _ _ _ h=>y6G h) rfl w hg).mono fun _ _ h=>x6E h
theorem c18 (hl : s.data.toList.length <= 200) (w : World) (hg : Glob w) : Calls Tryz.prog 18 #[tyV k p q v s,vaV n u] w fun e w'=>e = .returned (.int .i64 (veS k p q v s.data.toList n u.data.toList)) /\ Below w.heap.size w w' :=
  (x4Q (D:=Unit) (V:=V0) z8E x1Z x1Y (x8Q (w0B z8F 1100) (args:=[tyP k p q v s,vaP n u]) rfl (va_ref (by omega) (by omega))) (xs:=[tyV k p q v s,vaV n u]) (.cons _ _ _ _ y3P (.cons _ _ _ _ v6C .nil)) rfl (fun _ _ _ _ h=>y6G h) rfl w hg).mono fun _ _ h=>x6E h
theorem c19 (hl : s.data.toList.length <= 200) (w : World) (hg : Glob w) : Calls Tryz.prog 19 #[tyV k p q v s] w fun e w'=>e = .returned (.int .i64 (szS k p q v s.data.toList)) /\ Below w.heap.size w w' :=
  (x4Q (D:=Unit) (V:=V0) z8E x1Z x1Y (x8Q (y7Y z8F 1100) (args:=[tyP k p q v s]) rfl (z6P (by omega) (by omega))) (xs:=[tyV k p q v s]) (.cons _ _ _ _ y3P .nil) rfl (fun _ _ _ _ h=>y6G h) rfl w hg).mono fun _ _ h=>x6E h
end Go.Proofs
namespace Go.Proofs
open Go.RowKit Go.Yec
open Go.Xec (Glob)
end Go.Proofs
namespace Go.Proofs
open Go.RowKit Go.Yec
open Go.Xec (Glob)
noncomputable def y2T (k p q : Int) (v : Bool) (s : ByteArray) (n : Int) (u : ByteArray) : Bool:=decide (s.data.toList.length <= 200) && (decide (u.data.toList.length <= 2000) && decide (veS k p q v s.data.toList n u.data.toList = 0))
set_option maxRecDepth 100000 in
set_option maxHeartbeats 4000000 in
theorem good_any (k p q n : Int) (v : Bool) (s u : ByteArray) (w : World) (hg : Glob w) :
    Calls Tryz.prog 27 #[tyV k p q v s,vaV n u] w fun e w'=>e = .returned (.bool (y2T k p q v s n u)) /\ Below w.heap.size w w':=by
  have hB : Below w.heap.size w ((w.alloc (.cells #[.int .i64 k, .int .i64 p, .int .i64 q, .bool v, .string s] 33)).alloc (.cells #[.int .i64 n, .string u] 35)):=((Below.refl _ w).alloc (Nat.le_refl _) _).alloc (by simp) _
  have hz : ((w.alloc (.cells #[.int .i64 k, .int .i64 p, .int .i64 q, .bool v, .string s] 33)).alloc (.cells #[.int .i64 n, .string u] 35)).heap.size = w.heap.size + 2:=by simp
  generalize hW : ((w.alloc (.cells #[.int .i64 k, .int .i64 p, .int .i64 q, .bool v, .string s] 33)).alloc (.cells #[.int .i64 n, .string u] 35)) = W at hB hz
  have k0 : W.cell? ⟨w.heap.size, 0,none⟩ = some (.int .i64 k):=by rw [<- hW]; simp
  have k1 : W.cell? ⟨w.heap.size, 1,none⟩ = some (.int .i64 p):=by rw [<- hW]; simp
  have k2 : W.cell? ⟨w.heap.size, 2,none⟩ = some (.int .i64 q):=by rw [<- hW]; simp
  have k3 : W.cell? ⟨w.heap.size, 3,none⟩ = some (.bool v):=by rw [<- hW]; simp
  have k4 : W.cell? ⟨w.heap.size, 4,none⟩ = some (.string s):=by rw [<- hW]; simp
  have j0 : W.cell? ⟨w.heap.size + 1, 0,none⟩ = some (.int .i64 n):=by rw [<- hW]; simp
  have j1 : W.cell? ⟨w.heap.size + 1, 1,none⟩ = some (.string u):=by rw [<- hW]; simp
  go_enter Tryz.func27,Tryz.ntmps27
  go_wp2_with (go_at_call 14; fail)
  refine (small14 k p q v s (w.heap.size + 2) _ (by simp <;> omega) (by rw [<- hz]; simp) (by rw [<- hz]; simp) (by rw [<- hz]; simp) (by rw [<- hz]; simp) (by rw [<- hz]; simp)).mono ?_
  rintro e w2 ⟨rfl,hb⟩
  have hB2 : Below w.heap.size w w2:=(hB.alloc (by omega) _).trans (hb.mono (by simp <;> omega))
  have m0:=(hb.cell (p:=⟨w.heap.size, 0,none⟩) (by simp <;> omega)).trans ((World.cell?_alloc_past _ _ _ (show w.heap.size < W.heap.size by omega)).trans k0)
  have m1:=(hb.cell (p:=⟨w.heap.size, 1,none⟩) (by simp <;> omega)).trans ((World.cell?_alloc_past _ _ _ (show w.heap.size < W.heap.size by omega)).trans k1)
  have m2:=(hb.cell (p:=⟨w.heap.size, 2,none⟩) (by simp <;> omega)).trans ((World.cell?_alloc_past _ _ _ (show w.heap.size < W.heap.size by omega)).trans k2)
  have m3:=(hb.cell (p:=⟨w.heap.size, 3,none⟩) (by simp <;> omega)).trans ((World.cell?_alloc_past _ _ _ (show w.heap.size < W.heap.size by omega)).trans k3)
  have m4:=(hb.cell (p:=⟨w.heap.size, 4,none⟩) (by simp <;> omega)).trans ((World.cell?_alloc_past _ _ _ (show w.heap.size < W.heap.size by omega)).trans k4)
  have i0:=(hb.cell (p:=⟨w.heap.size + 1, 0,none⟩) (by simp <;> omega)).trans ((World.cell?_alloc_past _ _ _ (show w.heap.size + 1 < W.heap.size by omega)).trans j0)
  have i1:=(hb.cell (p:=⟨w.heap.size + 1, 1,none⟩) (by simp <;> omega)).trans ((World.cell?_alloc_past _ _ _ (show w.heap.size + 1 < W.heap.size by omega)).trans j1)
  have hg2:=x1R hB2 hg
  clear hb hB hz
  by_cases hs : 200 < (s.size : Int)
  . have e : y2T k p q v s n u = false := by unfold y2T; rw [decide_eq_false (by rw [<- x2A]; omega)]; rfl
    rw [decide_eq_true hs]
    go_wp2
    go_ret
    exact ⟨by first | rfl | (rw [e]; done) | (rw [e]; rfl) | (rw [e]; simp),hB2⟩
  . rw [decide_eq_false hs]
    have hl : s.data.toList.length <= 200:=by rw [<- x2A]; omega
    clear hs
    by_cases hu : (u.size : Int) <= 2000
    . have hul : u.data.toList.length <= 2000 := by rw [<- x2A]; omega
      have e : y2T k p q v s n u = decide (veS k p q v s.data.toList n u.data.toList = 0):=by unfold y2T; rw [decide_eq_true hl,decide_eq_true hul]; rfl
      have c:=c18 (k:=k) (p:=p) (q:=q) (v:=v) (n:=n) (u:=u) hl w2 hg2
      generalize hve : veS k p q v s.data.toList n u.data.toList = ve at c
      go_wp2_with (go_at_call 18; fail)
      refine c.mono ?_
      rintro e w3 ⟨rfl,b3⟩
      go_wp2
      go_ret
      exact ⟨by first | (rw [e,hve]; done) | (rw [e,hve]; rfl) | (rw [e,hve]; simp),hB2.trans (b3.mono hB2.size)⟩
    . have e : y2T k p q v s n u = false := by unfold y2T; rw [decide_eq_false (p := u.data.toList.length <= 2000) (by rw [<- x2A]; omega)]; simp
      go_wp2
      go_ret
      exact ⟨by first | rfl | (rw [e]; done) | (rw [e]; rfl) | (rw [e]; simp),hB2⟩
end Go.Proofs
