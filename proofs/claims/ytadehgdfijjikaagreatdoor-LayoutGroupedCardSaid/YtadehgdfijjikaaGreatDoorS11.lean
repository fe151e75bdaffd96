/-
  group, rows of the law, walked.
-/
import Derived.Test.YtadehgdfijjikaaGreatDoorS10
import Derived.Test.YtadehgdfijjikaaGreatDoorZ7
set_option linter.all false
namespace Go.Proofs
open Go.RowKit Go.Yec Go.Shp Go.Deep
set_option maxRecDepth 100000 in
set_option maxHeartbeats 2000000 in
theorem y6Y (a : Option Addr) (n c : Nat) (w : World) :
    Calls Tryz.prog 39 #[.slice a n c] w fun e w'=>e = .returned (shV (.slice none 0 0) (.slice a n c) ty00 false) /\ Below w.heap.size w w':=by
  go_enter Tryz.func39,Tryz.ntmps39;go_wp2;refine bodyPost_ret (v:=shV (.slice none 0 0) (.slice a n c) ty00 false) (by rw [x4Y rfl]; go_simp; first | done | exact ⟨rfl,rfl,rfl,rfl,rfl⟩) rfl ⟨rfl, ?_⟩
  exact (Below.refl _ w).alloc (Nat.le_refl _) _
set_option maxRecDepth 100000 in
set_option maxHeartbeats 2000000 in
theorem rows_any (a a' : Option Addr) (n c n' c' : Nat) (dv : Value) (hd : ∃ a n c,dv = .slice a n c) (t : Ty) (g : Bool) (w : World) :
    Calls Tryz.prog 40 #[shV dv (.slice a n c) t g, .slice a' n' c'] w fun e w'=>e = .returned (shV (.slice a' n' c') (.slice a n c) t g) /\ Below w.heap.size w w':=by
  obtain ⟨d1,d2,d3,rfl⟩:=hd;go_enter Tryz.func40,Tryz.ntmps40;go_wp2;refine bodyPost_ret (v:=shV (.slice a' n' c') (.slice a n c) t g) (by rw [x4Y rfl]; go_simp) rfl ⟨rfl, ?_⟩
  exact ((Below.refl _ w).alloc (Nat.le_refl _) _).alloc (by simp) _
end Go.Proofs
