/- Encode -/
import Derived.Test.YtadehgdfijjikaaGreatDoorT2
import Derived.Test.YtadehgdfijjikaaGreatDoorZ7
set_option linter.all false
noncomputable section
namespace Go.Proofs
open Go.RowKit Go.Yec
open Go.Xec (QF)
variable {k p q n:Int} {v:Bool} {s u b:ByteArray}
def encB (k p q:Int)(v:Bool)(s:ByteArray)(n:Int)(u:ByteArray):ByteArray:=⟨(encR k p q v s.data.toList n u.data.toList).1.toArray⟩
def encE (k p q:Int)(v:Bool)(s:ByteArray)(n:Int)(u:ByteArray):Int:=(encR k p q v s.data.toList n u.data.toList).2
theorem rep_enc {D:Type}{V:D->List (PV D)}{r:List UInt8×Int}{μ:Mu}{H:Xec.Hp}{M:Nat->Prop}{y:Value}(h:Rep V μ H M (.tup [.str r.1,.int .i64 r.2]) y):y=.tuple #[.string ⟨r.1.toArray⟩,.int .i64 r.2]:=by cases h with|tup _ a h=>cases a with|mk l=>cases h with|cons _ x _ l h1 h2=>cases h2 with|cons _ z _ l h2 h3=>cases h3;obtain⟨t,e,rfl⟩:=h1.str_of;obtain rfl:=h2.int_of;rw[<-e]
theorem rep_dec {D:Type}{V:D->List (PV D)}{r:(Int×List UInt8)×Int}{μ:Mu}{H:Xec.Hp}{M:Nat->Prop}{y:Value}(h:Rep V μ H M (.tup [.agg [.int .i64 r.1.1,.str r.1.2],.int .i64 r.2]) y):y=.tuple #[vaV r.1.1 ⟨r.1.2.toArray⟩,.int .i64 r.2]:=by cases h with|tup _ a h=>cases a with|mk l=>cases h with|cons _ x _ l h1 h2=>cases h2 with|cons _ z _ l h2 h3=>cases h3;obtain rfl:=h2.int_of;cases h1 with|agg _ a h=>cases a with|mk l=>cases h with|cons _ x _ l h1 h2=>cases h2 with|cons _ z _ l h2 h3=>cases h3;obtain rfl:=h1.int_of;obtain⟨t,e,rfl⟩:=h2.str_of;rw[<-e]
theorem c23 (hl:s.data.toList.length<=200)(w:World)(hg:QF w):Calls Tryz.prog 79 #[tyV k p q v s,vaV n u] w fun e w'=>e=.returned (.tuple #[.string (encB k p q v s n u),.int .i64 (encE k p q v s n u)])/\Below w.heap.size w w':=(x7D (D:=Unit) (V:=V0) u8L x2P x2N (y2Q (ent_79_ok u8M 1100) (args:=[tyP k p q v s,vaP n u]) rfl (enc_own (by omega) (by omega))) (xs:=[tyV k p q v s,vaV n u]) (.cons _ _ _ _ z0H (.cons _ _ _ _ rep_va .nil)) rfl (fun _ _ _ _ h=>rep_enc h) rfl w hg).mono fun _ _ h=>x9U h
theorem c25_26 (hl:s.data.toList.length<=200)(hb:b.data.toList.length<=800000):∃(x:Int) (y:ByteArray) (z:Int),(∀w,QF w->Calls Tryz.prog 81 #[tyV k p q v s,.string b] w fun e w'=>e=.returned (.tuple #[vaV x y,.int .i64 z])/\Below w.heap.size w w')/\ (∀w,QF w->Calls Tryz.prog 162 #[tyV k p q v s,.string b] w fun e w'=>e=.returned (.tuple #[vaV x y,.int .i64 z])/\Below w.heap.size w w'):=by obtain⟨r,h1,h2⟩:=dec_both (N:=801200) (k:=k) (p:=p) (q:=q) (v:=v) (pic:=s.data.toList) (s:=b.data.toList) (by omega) hb (by omega);exact⟨r.1.1,⟨r.1.2.toArray⟩,r.2,fun w hg=>(x7D (D:=Unit) (V:=V0) u8L x2P x2N (y2Q (ent_81_ok u8M 801200) (args:=[tyP k p q v s,.str b.data.toList]) rfl h1) (xs:=[tyV k p q v s,.string b]) (.cons _ _ _ _ z0H (.cons _ _ _ _ (.str _) .nil)) rfl (fun _ _ _ _ h=>rep_dec h) rfl w hg).mono fun _ _ h=>x9U h,fun w hg=>(x7D (D:=Unit) (V:=V0) u8L x2P x2N (y2Q (ent_162_ok u8M 801200) (args:=[tyP k p q v s,.str b.data.toList]) rfl h2) (xs:=[tyV k p q v s,.string b]) (.cons _ _ _ _ z0H (.cons _ _ _ _ (.str _) .nil)) rfl (fun _ _ _ _ h=>rep_dec h) rfl w hg).mono fun _ _ h=>x9U h⟩
end Go.Proofs
