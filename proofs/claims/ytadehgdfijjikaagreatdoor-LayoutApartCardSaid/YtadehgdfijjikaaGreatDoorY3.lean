/- PUNCH AND UNPUNCH -/
import Derived.Test.YtadehgdfijjikaaGreatDoorChecked
import Derived.WalkKit
import Derived.WalkSpells
import Derived.Deep.Light
import Derived.LoopTactic
import Derived.Laws.Rows
import Derived.KernelRfl
import Derived.Test.YtadehgdfijjikaaGreatDoorY2
set_option linter.all false
set_option maxRecDepth 100000
set_option maxHeartbeats 8000000
namespace Go.Proofs
open Go.RowKit
open Go.Yec (punL)
def UN:Array GB:=#[.int .u8 123,.int .u8 65,.int .u8 66,.int .u8 67,.int .u8 68,.int .u8 69,.int .u8 70,.int .u8 71,.int .u8 72,.int .u8 73,.int .u8 125,.int .u8 74,.int .u8 75,.int .u8 76,.int .u8 77,.int .u8 78,.int .u8 79,.int .u8 80,.int .u8 81,.int .u8 82]
def z6A (d:Int)(m:Bool):Int×Bool:=if d<0\/9<d then(0,false)else(((punL.getD (d+cond m 10 0).toNat 0).toNat:Int),true)
theorem pun_cell {w:World}{e:GD}{fz:Nat×Nat}(h:w.heap[0]? =some (.cells UN e fz))(i:Nat):w.cell? ⟨0,i,none⟩=UN[i]? :=by simp[World.cell?,h]
theorem Tryz.punch (d:Int)(m:Bool)(w:World){e:GD}{fz:Nat×Nat}(hg:w.heap[0]? =some (.cells UN e fz)):Calls Tryz.prog 268 #[.int .i64 d,.bool m] w fun x w'=>x=.returned (.tuple #[.int .u8 (z6A d m).1,.bool (z6A d m).2])/\w'=w:=by unfold z6A;have hc:=pun_cell hg;by_cases hd:d<0;{rw[JE (.inl hd)];go_enter Tryz.func268,Tryz.ntmps268;go_wp2;go_ret2;exact⟨rfl,rfl⟩};by_cases AG:9<d;{rw[JE (.inr AG)];go_enter Tryz.func268,Tryz.ntmps268;go_wp2;go_ret2;exact⟨rfl,rfl⟩};rw[JZ (by omega)];have s9:d=0\/d=1\/d=2\/d=3\/d=4\/d=5\/d=6\/d=7\/d=8\/d=9:=by{omega};clear hd AG;have c0:w.cell? ⟨0,0,none⟩=some (.int .u8 123):=hc 0;have c1:w.cell? ⟨0,1,none⟩=some (.int .u8 65):=hc 1;have c2:w.cell? ⟨0,2,none⟩=some (.int .u8 66):=hc 2;have c3:w.cell? ⟨0,3,none⟩=some (.int .u8 67):=hc 3;have c4:w.cell? ⟨0,4,none⟩=some (.int .u8 68):=hc 4;have c5:w.cell? ⟨0,5,none⟩=some (.int .u8 69):=hc 5;have c6:w.cell? ⟨0,6,none⟩=some (.int .u8 70):=hc 6;have c7:w.cell? ⟨0,7,none⟩=some (.int .u8 71):=hc 7;have c8:w.cell? ⟨0,8,none⟩=some (.int .u8 72):=hc 8;have c9:w.cell? ⟨0,9,none⟩=some (.int .u8 73):=hc 9;have c10:w.cell? ⟨0,10,none⟩=some (.int .u8 125):=hc 10;have c11:w.cell? ⟨0,11,none⟩=some (.int .u8 74):=hc 11;have c12:w.cell? ⟨0,12,none⟩=some (.int .u8 75):=hc 12;have c13:w.cell? ⟨0,13,none⟩=some (.int .u8 76):=hc 13;have c14:w.cell? ⟨0,14,none⟩=some (.int .u8 77):=hc 14;have c15:w.cell? ⟨0,15,none⟩=some (.int .u8 78):=hc 15;have c16:w.cell? ⟨0,16,none⟩=some (.int .u8 79):=hc 16;have c17:w.cell? ⟨0,17,none⟩=some (.int .u8 80):=hc 17;have c18:w.cell? ⟨0,18,none⟩=some (.int .u8 81):=hc 18;have c19:w.cell? ⟨0,19,none⟩=some (.int .u8 82):=hc 19;clear hc;rcases s9 with e|e|e|e|e|e|e|e|e|e<;>subst e<;>cases m;all_goals (go_enter Tryz.func268,Tryz.ntmps268;go_wp2;go_ret2;exact⟨rfl,rfl⟩)
theorem z2M {P:GF}{t e n:Nat}{d:TypeDesc}(hu:P.underlying t=some (.array n e))(he:P.underlying e=some d)(hd:(match d with|.struct _|.array _ _=>true|_=>false)=false)(hs:∀w,(sizeOf e).run P w=.ok 1 w)(c:Array GB)(x:Int)(v:GB)(w:World)(h0:0<=x)(hk:x.toNat<n)(hc:c[x.toNat]? =some v):(Instr.index t (.agg c) (.int .i64 x)).run P w=.ok v w:=by(have h1:x<(n:Int):=by omega);have ha:(isAgg e).run P w=.ok false w:=by{unfold isAgg;rw[JT,run_underlying he w];cases d<;>simp_all};unfold Instr.index;simp only[JT,asIntOf,Jx,JI,run_underlying hu];rw[JE ⟨h0,h1⟩];simp only[JT,hs,JI,part,ha,Qg];simp[hc]
theorem x8D {P:GF}{ops:Array Oper}{rest:List Oper}{o:Oper}{a:Act}{w:World}{Q:Exit->Act->World->Prop}(b6:o.guard=none)(t:GD)(x i:GC)(ho:o.op=.index t x i)(c:Array GB)(k:Int)(v:GB) (hx:a.eval x=.agg c) (hi:a.eval i=.int .i64 k) (hr:(Instr.index t (.agg c) (.int .i64 k)).run P w=.ok v w) (h:wpList P ops Q rest (a.put o.dst v) w):wpList P ops Q (o::rest) a w:=wpList_plain b6 fun _ hK=>by unfold Oper.wp execOp;simp only[ho,hx,hi,JT,hr,JI,Jx];exact hK _ _ h
def unpR (c:Int):Int×Bool×Bool:=match(List.range 20).find? (fun i=>decide (((punL.getD i 0).toNat:Int)=c))with|some i=>((i:Int)%10,decide (10<=i),true)|none=>(0,false,false)
theorem Tryz.unpunch (c:Int)(w:World){e:GD}{fz:Nat×Nat}(hg:w.heap[0]? = some (.cells UN e fz)) :
    Calls Tryz.prog 225 #[.int .u8 c] w fun x w'=>x = .returned (.tuple #[.int .i64 (unpR c).1, .bool (unpR c).2.1, .bool (unpR c).2.2])/\w'=w:=by
  have hi:(Tryz.prog.info? 274).map (·.size)=some UN.size:=by kernel_rfl
  have hu:Tryz.prog.underlying 274=some (.array 20 5):=by kernel_rfl
  go_enter Tryz.func225,Tryz.ntmps225
  go_wp2_with (refine wpList_load_row rfl 274 (.global 0) rfl 0 rfl e UN fz _ hg hu rfl hi ?_)
  go_loop [8] (fun v=> ∃ x:Int, 0 <= x/\x <= 20/\v = .int .i64 x/\∀ i:Nat,(i:Int)<x->((punL.getD i 0).toNat:Int)≠c) (fun v=>(20-intOf v).toNat)
  case atStart=>exact ⟨0,by omega,by omega,rfl,fun i h=>by omega⟩
  case round =>
    obtain ⟨x,eT,bn,rfl,hn⟩:=hrel
    by_cases gn:x=20
    . subst gn;go_wp2
      go_ret3
      have:unpR c=(0,false,false):=by
        unfold unpR;rw [Zn.2 fun i hi=>by
          have := hn i (by have:i<20 := by simpa using hi
                           omega)
          simpa using this]
      rw [this];exact ⟨rfl,rfl⟩
    . have hk:x.toNat<20:=by omega
      have hv:∀ i:Nat,i<20->UN[i]? = some (.int .u8 ((punL.getD i 0).toNat:Int)):=fun i hi=>by
        have:i=0\/i=1\/i=2\/i=3\/i=4\/i=5\/i=6\/i=7\/i=8\/i=9\/i=10\/i=11\/i=12\/i=13\/i=14\/i=15\/i=16\/i=17\/i=18\/i=19:=by omega
        rcases this with e | e | e | e | e | e | e | e | e | e | e | e | e | e | e | e | e | e | e | e <;> rw [e] <;> rfl
      have i1:=fun w=>z2M hu Tryz.underlying5 rfl Tryz.sizeOf5 UN x _ w eT hk (hv _ hk);have aQ:x<20:=by omega
      generalize kM:((punL.getD x.toNat 0).toNat:Int)=pv at i1
      by_cases hx:pv=c
      . subst hx
        go_wp2_with (refine x8D rfl 274 (.tmp 7) (.tmp 8) rfl UN x _ rfl rfl (i1 _) ?_)
        go_ret3
        have:unpR pv=((x.toNat:Int)%10,decide (10 <= x.toNat),true):=by
          have h1:x.toNat=0\/0<x.toNat:=by omega
          unfold unpR;rw [show (List.range 20).find? (fun i=>decide (((punL.getD i 0).toNat:Int)=pv))=some x.toNat from by
            rw [Ze];exact ⟨by simpa using kM,x.toNat,by simpa using hk,by simp,fun j hj=>by
              have:=hn j (by omega)
              simpa using this⟩]
        rw [this];have e1:((x.toNat:Int)%10)=x%10:=by omega
        have e2:decide (10 <= x.toNat)=decide (10 <= x):=Jv.2 (by omega)
        rw [e1,e2];exact ⟨rfl,rfl⟩
      . go_wp2_with (refine x8D rfl 274 (.tmp 7) (.tmp 8) rfl UN x _ rfl rfl (i1 _) ?_)
        go_round
        case rel=>exact ⟨x+1,by omega,by omega,by go_num,fun i hi=>(show (i:Int)<x\/i=x.toNat by omega).elim (hn i) fun e=>by rw [e,kM];exact hx⟩
        case measure=>simp [intOf];omega
end Go.Proofs
