/-
  small of one type, walked.
-/
import Derived.Test.YtadehgdfijjikaaGreatDoorY3
import Derived.Below
import Derived.Deep.RegionHeld3
set_option linter.all false
set_option maxHeartbeats 1000000
namespace Go.Proofs
open Go.RowKit
abbrev tyV (k p q:Int)(v:Bool)(s:ByteArray):Value:=.agg #[.int .i64 k,.int .i64 p,.int .i64 q,.bool v,.string s]
abbrev vaV (n:Int)(s:ByteArray):Value:=.agg #[.int .i64 n,.string s]
theorem small57 (k p q:Int)(v:Bool)(s:ByteArray)(w:World):Calls Tryz.prog 120 #[tyV k p q v s] w fun e w'=>e=.returned (.bool (decide (200<(s.size:Int))))/\Below w.heap.size w w':=by{go_enter Tryz.func120,Tryz.ntmps120;go_wp2;go_ret;exact⟨rfl,(Below.refl _ w).alloc (Nat.le_refl _) _⟩}
theorem small95 (k p q:Int)(v:Bool)(s:ByteArray)(b:Nat)(w:World)(hb:b<w.heap.size)(h0:w.cell? ⟨b,0,none⟩=some (.int .i64 k))(h1:w.cell? ⟨b,1,none⟩=some (.int .i64 p))(h2:w.cell? ⟨b,2,none⟩=some (.int .i64 q))(h3:w.cell? ⟨b,3,none⟩=some (.bool v))(h4:w.cell? ⟨b,4,none⟩=some (.string s)):Calls Tryz.prog 159 #[.slice (some ⟨b,0,none⟩) 1 1,.func (.func 120) #[] #[]] w fun e w'=>(e=.returned (.int .i64 (cond (decide (200<(s.size:Int))) 0 (-1))))/\Below w.heap.size w w':=by{have hs:=fun w=>small57 k p q v s w;generalize decide (200<(s.size:Int))=big at hs|-;go_enter Tryz.func159,Tryz.ntmps159;go_wp2;go_loopw [8] (fun x wr=>(x=.int .i64 0/\wr=w)\/(x=.int .i64 1/\big=false/\Below w.heap.size w wr)) (fun x _=>(1-intOf x).toNat);(case atStart=>exact .inl ⟨rfl,rfl⟩);case round=>rcases hrel with⟨rfl,rfl⟩|⟨rfl,rfl,hB⟩;·{cases big;·{go_wp2_with (go_at_call 120;refine(hs _).mono ?_;rintro e w' ⟨rfl,hB⟩);go_roundw;(case rel=>exact .inr ⟨rfl,by first|trivial|rfl,hB⟩);case measure=>simp[intOf]};·{go_wp2_with (go_at_call 120;refine(hs _).mono ?_;rintro e w' ⟨rfl,hB⟩);go_ret;exact⟨rfl,hB⟩}};·{go_wp2;go_ret;exact⟨rfl,hB⟩}}
theorem small14 (k p q:Int)(v:Bool)(s:ByteArray)(b:Nat)(w:World)(hb:b<w.heap.size)(h0:w.cell? ⟨b,0,none⟩=some (.int .i64 k))(h1:w.cell? ⟨b,1,none⟩=some (.int .i64 p))(h2:w.cell? ⟨b,2,none⟩=some (.int .i64 q))(h3:w.cell? ⟨b,3,none⟩=some (.bool v))(h4:w.cell? ⟨b,4,none⟩=some (.string s)):Calls Tryz.prog 63 #[.slice (some ⟨b,0,none⟩) 1 1] w fun e w'=>e=.returned (.bool (!(decide (200<(s.size:Int)))))/\Below w.heap.size w w':=by{have hs:=small95 k p q v s b w hb h0 h1 h2 h3 h4;have zi:Calls Tryz.prog 119 #[.slice (some ⟨b,0,none⟩) 1 1,.func (.func 120) #[] #[]] w fun e w'=>e=.returned (.bool (decide (200<(s.size:Int))))/\Below w.heap.size w w':=by{generalize decide (200<(s.size:Int))=big at hs|-;go_enter Tryz.func119,Tryz.ntmps119;go_wp2_with (go_at_call 159;refine hs.mono ?_;rintro e w' ⟨rfl,hB⟩);go_ret;exact⟨by cases big<;>rfl,hB⟩};generalize decide (200<(s.size:Int))=big at zi|-;go_enter Tryz.func63,Tryz.ntmps63;go_wp2_with (go_at_call 119;refine zi.mono ?_;rintro e w' ⟨rfl,hB⟩);go_ret;exact⟨rfl,hB⟩}
end Go.Proofs
