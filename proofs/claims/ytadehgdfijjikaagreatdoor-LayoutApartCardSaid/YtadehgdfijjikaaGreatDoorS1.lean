/- LAYOUTGAP -/
import Derived.Test.YtadehgdfijjikaaGreatDoorChecked
import Derived.WalkKit
import Derived.WalkSpells
import Derived.Deep.Light
import Derived.LoopTactic
import Derived.Test.YtadehgdfijjikaaGreatDoorX1
set_option linter.all false
set_option maxHeartbeats 1000000
namespace Go.Proofs
open Go.RowKit
def al (m:Int):Prop:=m=1\/m=8\/m=16\/m=32\/m=64
instance (m:Int):Decidable (al m):=inferInstanceAs (Decidable (_\/_))
theorem GJ {m:Int}(h:al m):1<=m/\m<=64:=by unfold al at h;omega
def good (s b a:Int):Prop:=al a/\0<=s/\s<a/\0<=b/\b<=524288
instance (s b a:Int):Decidable (good s b a):=inferInstanceAs (Decidable (_/\_))
theorem gmod {a m:Int}(hm:al m):((a.tmod m)+m).tmod m=a%m:=by have hp:=GJ hm;have h1:=QL a (show 0<m by omega);have h2:-m<a.tmod m:=by{have:=Kq (a:=a) (b:=m);have:=QL (-a) (show 0<m by omega);omega};rw[Int.tmod_eq_emod_of_nonneg (by omega),Int.add_emod_right];(have h3:a.tmod m=a-m*(a.tdiv m):=by have:=Int.mul_tdiv_add_tmod a m;omega);rw[h3,Zo]
theorem tmod_in {a m:Int}(hm:al m):-64<a.tmod m/\a.tmod m<64:=by have hp:=GJ hm;have h1:=QL a (show 0<m by omega);have:=Kq (a:=a) (b:=m);have:=QL (-a) (show 0<m by omega);omega
theorem u0T (a m:Int)(w:World)(hm:al m):Calls Tryz.prog 153 #[.int .i64 a,.int .i64 m] w fun e w'=>e=.returned (.int .i64 (a%m))/\w'=w:=by(have hp:=GJ hm;have ht:=tmod_in (a:=a) hm;have h0:¬m=0:=by omega);have hg:=gmod (a:=a) hm;go_enter Tryz.func153,Tryz.ntmps153;go_wp2;go_ret;exact⟨rfl,rfl⟩
theorem join_lt (s b a s' b' a':Int)(w:World)(h1:good s b a)(h2:good s' b' a')(aJ:a'<a):Calls Tryz.prog 101 #[.agg #[.int .i64 s,.int .i64 b,.int .i64 a],.agg #[.int .i64 s',.int .i64 b',.int .i64 a']] w fun e w'=>e=.returned (.tuple #[.agg #[.int .i64 s,.int .i64 (b+(s'-s-b)%a'+b'),.int .i64 a],.int .i64 ((s'-s-b)%a')])/\∃o1 o2 o3 o4,w'=(((w.alloc o1).alloc o2).alloc o3).alloc o4:=by obtain⟨m1,p1,p2,p3,p4⟩:=h1;obtain⟨m2,q1,q2,q3,q4⟩:=h2;have r1:=GJ m1;have r2:=GJ m2;have g1:=Jo (s'-s-b) (show a'≠0 by omega);have g2:=Jr (s'-s-b) (show 0<a' by omega);go_enter Tryz.func101,Tryz.ntmps101;go_wp2_with (go_at_call 153;refine(u0T _ _ _ (by assumption)).mono ?_;rintro e w' ⟨rfl,rfl⟩);refine bodyPost_ret (v:=.tuple #[.agg #[.int .i64 s,.int .i64 (b+(s'-s-b)%a'+b'),.int .i64 a],.int .i64 ((s'-s-b)%a')]) (by simp[results,Tryz.results101,go_sem]) rfl ⟨rfl,_,_,_,_,rfl⟩
theorem join_eq (s b s' b' a:Int)(w:World)(h1:good s b a)(h2:good s' b' a):Calls Tryz.prog 101 #[.agg #[.int .i64 s,.int .i64 b,.int .i64 a],.agg #[.int .i64 s',.int .i64 b',.int .i64 a]] w fun e w'=>e=.returned (.tuple #[.agg #[.int .i64 s,.int .i64 (b+(s'-s-b)%a+b'),.int .i64 a],.int .i64 ((s'-s-b)%a)])/\∃o1 o2 o3 o4,w'=(((w.alloc o1).alloc o2).alloc o3).alloc o4:=by obtain⟨m1,p1,p2,p3,p4⟩:=h1;obtain⟨m2,q1,q2,q3,q4⟩:=h2;have r1:=GJ m1;have g1:=Jo (s'-s-b) (show a≠0 by omega);have g2:=Jr (s'-s-b) (show 0<a by omega);go_enter Tryz.func101,Tryz.ntmps101;go_wp2_with (go_at_call 153;refine(u0T _ _ _ (by assumption)).mono ?_;rintro e w' ⟨rfl,rfl⟩);refine bodyPost_ret (v:=.tuple #[.agg #[.int .i64 s,.int .i64 (b+(s'-s-b)%a+b'),.int .i64 a],.int .i64 ((s'-s-b)%a)]) (by simp[results,Tryz.results101,go_sem]) rfl ⟨rfl,_,_,_,_,rfl⟩
theorem join_gt (s b a s' b' a':Int)(w:World)(h1:good s b a)(h2:good s' b' a')(ah:a<a'):Calls Tryz.prog 101 #[.agg #[.int .i64 s,.int .i64 b,.int .i64 a],.agg #[.int .i64 s',.int .i64 b',.int .i64 a']] w fun e w'=>e=.returned (.tuple #[.agg #[.int .i64 ((s'-(s'-s-b)%a-b)%a'),.int .i64 (b+(s'-s-b)%a+b'),.int .i64 a'],.int .i64 ((s'-s-b)%a)])/\∃o1 o2 o3 o4,w'=(((w.alloc o1).alloc o2).alloc o3).alloc o4:=by obtain⟨m1,p1,p2,p3,p4⟩:=h1;obtain⟨m2,q1,q2,q3,q4⟩:=h2;have r1:=GJ m1;have r2:=GJ m2;have g1:=Jo (s'-s-b) (show a≠0 by omega);have g2:=Jr (s'-s-b) (show 0<a by omega);go_enter Tryz.func101,Tryz.ntmps101;go_wp2_with (go_at_call 153;refine(u0T _ _ _ (by assumption)).mono ?_;rintro e w' ⟨rfl,rfl⟩);refine bodyPost_ret (v:=.tuple #[.agg #[.int .i64 ((s'-(s'-s-b)%a-b)%a'),.int .i64 (b+(s'-s-b)%a+b'),.int .i64 a'],.int .i64 ((s'-s-b)%a)]) (by simp[results,Tryz.results101,go_sem]) rfl ⟨rfl,_,_,_,_,rfl⟩
def gp (s b a s' a':Int):Int:=(s'-s-b)%(if a'<=a then a' else a)
def js (s b a s' a':Int):Int:=if a'<=a then s else(s'-gp s b a s' a'-b)%a'
def ja (a a':Int):Int:=if a'<=a then a else a'
def v5F (s b a s' b' a':Int):Value:=.agg #[.int .i64 (js s b a s' a'),.int .i64 (b+gp s b a s' a'+b'),.int .i64 (ja a a')]
theorem join_any (s b a s' b' a':Int)(w:World)(h1:good s b a)(h2:good s' b' a'):Calls Tryz.prog 101 #[.agg #[.int .i64 s,.int .i64 b,.int .i64 a],.agg #[.int .i64 s',.int .i64 b',.int .i64 a']] w fun e w'=>e=.returned (.tuple #[v5F s b a s' b' a',.int .i64 (gp s b a s' a')])/\∃o1 o2 o3 o4,w'=(((w.alloc o1).alloc o2).alloc o3).alloc o4:=by unfold v5F js ja gp;rcases Int.lt_trichotomy a' a with h|rfl|h;{rw[JE (by omega),JE (by omega),JE (by omega)];exact join_lt s b a s' b' a' w h1 h2 h};{simp only[Qy,Zw];exact join_eq s b s' b' a' w h1 h2};rw[JZ (by omega),JZ (by omega),JZ (by omega)];exact join_gt s b a s' b' a' w h1 h2 h
end Go.Proofs
