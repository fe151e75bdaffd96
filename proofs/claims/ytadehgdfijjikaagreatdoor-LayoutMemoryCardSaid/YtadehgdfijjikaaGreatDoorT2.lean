/- CheckType -/
import Derived.Test.YtadehgdfijjikaaGreatDoorG2
import Derived.Test.YtadehgdfijjikaaGreatDoorY12
import Derived.Test.YtadehgdfijjikaaGreatDoorZ6
import Derived.Test.YtadehgdfijjikaaGreatDoorT1
set_option linter.all false
namespace Go.Proofs
open Go.RowKit Go.Yec
open Go.Xec (QF)
def V0:Unit->List (PV Unit):=fun _=>[]
theorem x9U {w w':World}{e:Ending}{x:Value}(h:e=.returned x/\(∀b,b<w.heap.size->w'.heap[b]? =w.heap[b]?)/\w.heap.size<=w'.heap.size/\w'.os=w.os/\w'.output=w.output/\w'.tape=w.tape):e=.returned x/\Below w.heap.size w w':=⟨h.1,h.2.2.2.1,h.2.2.2.2.2,h.2.2.2.2.1,h.2.2.1,h.2.1⟩
variable {k p q n:Int} {v:Bool} {s u:ByteArray}
abbrev tyP {D:Type}(k p q:Int)(v:Bool)(s:ByteArray):PV D:=.agg [.int .i64 k,.int .i64 p,.int .i64 q,.bool v,.str s.data.toList]
abbrev vaP {D:Type}(n:Int)(u:ByteArray):PV D:=.agg [.int .i64 n,.str u.data.toList]
theorem z0H {μ:Mu}{H:Xec.Hp}{M:Nat->Prop}:Rep V0 μ H M (.agg [.int .i64 k,.int .i64 p,.int .i64 q,.bool v,.str s.data.toList]) (tyV k p q v s):=.agg _ _ (.cons _ _ _ _ (.int _ _) (.cons _ _ _ _ (.int _ _) (.cons _ _ _ _ (.int _ _) (.cons _ _ _ _ (.bool _) (.cons _ _ _ _ (.str _) .nil)))))
theorem rep_va {μ:Mu}{H:Xec.Hp}{M:Nat->Prop}:Rep V0 μ H M (.agg [.int .i64 n,.str u.data.toList]) (vaV n u):=.agg _ _ (.cons _ _ _ _ (.int _ _) (.cons _ _ _ _ (.str _) .nil))
theorem y2F {D:Type}{V:D->List (PV D)}{x:Int}{μ:Mu}{H:Xec.Hp}{M:Nat->Prop}{y:Value}(h:Rep V μ H M (.int .i64 x) y):y=.int .i64 x:=h.int_of
theorem c15 (hl:s.data.toList.length<=200)(w:World)(hg:QF w):Calls Tryz.prog 84 #[tyV k p q v s] w fun e w'=>e=.returned (.int .i64 (cond (tyS k p q v s.data.toList) 0 5))/\Below w.heap.size w w':=(x7D (D:=Unit) (V:=V0) u8L x2P x2N (y2Q (y7S u8M 1100) (args:=[tyP k p q v s]) rfl (v1L (by omega) (by omega))) (xs:=[tyV k p q v s]) (.cons _ _ _ _ z0H .nil) rfl (fun _ _ _ _ h=>y2F h) rfl w hg).mono fun _ _ h=>x9U h
theorem c16 (hl:s.data.toList.length<=200)(w:World)(hg:QF w):Calls Tryz.prog 147 #[tyV k p q v s] w fun e w'=>e=.returned (.int .i64 (cond (tyS k p q v s.data.toList) 0 5))/\Below w.heap.size w w':=(x7D (D:=Unit) (V:=V0) u8L x2P x2N (y2Q (y2U u8M 1100) (args:=[tyP k p q v s]) rfl (v1K (by omega) (by omega))) (xs:=[tyV k p q v s]) (.cons _ _ _ _ z0H .nil) rfl (fun _ _ _ _ h=>y2F h) rfl w hg).mono fun _ _ h=>x9U h
noncomputable def veS (k p q:Int)(v:Bool)(s:List UInt8)(n:Int)(u:List UInt8):Int:=cond (tyS k p q v s&&!(decide (k=7))) (cond (vaS k p v s n u) 0 6) 5
theorem c18 (hl:s.data.toList.length<=200)(w:World)(hg:QF w):Calls Tryz.prog 164 #[tyV k p q v s,vaV n u] w fun e w'=>e=.returned (.int .i64 (veS k p q v s.data.toList n u.data.toList))/\Below w.heap.size w w':=(x7D (D:=Unit) (V:=V0) u8L x2P x2N (y2Q (ent_164_ok u8M 1100) (args:=[tyP k p q v s,vaP n u]) rfl (va_ref (by omega) (by omega))) (xs:=[tyV k p q v s,vaV n u]) (.cons _ _ _ _ z0H (.cons _ _ _ _ rep_va .nil)) rfl (fun _ _ _ _ h=>y2F h) rfl w hg).mono fun _ _ h=>x9U h
theorem c19 (hl:s.data.toList.length<=200)(w:World)(hg:QF w):Calls Tryz.prog 53 #[tyV k p q v s] w fun e w'=>e=.returned (.int .i64 (szS k p q v s.data.toList))/\Below w.heap.size w w':=(x7D (D:=Unit) (V:=V0) u8L x2P x2N (y2Q (z7P u8M 1100) (args:=[tyP k p q v s]) rfl (sz_own (by omega) (by omega))) (xs:=[tyV k p q v s]) (.cons _ _ _ _ z0H .nil) rfl (fun _ _ _ _ h=>y2F h) rfl w hg).mono fun _ _ h=>x9U h
theorem c20 (hl:s.data.toList.length<=200)(w:World)(hg:QF w):Calls Tryz.prog 156 #[tyV k p q v s] w fun e w'=>e=.returned (.int .i64 (szS k p q v s.data.toList))/\Below w.heap.size w w':=(x7D (D:=Unit) (V:=V0) u8L x2P x2N (y2Q (z1K u8M 1100) (args:=[tyP k p q v s]) rfl (sz_ref (by omega) (by omega))) (xs:=[tyV k p q v s]) (.cons _ _ _ _ z0H .nil) rfl (fun _ _ _ _ h=>y2F h) rfl w hg).mono fun _ _ h=>x9U h
end Go.Proofs
