/- G1 -/
import Derived.Test.YtadehgdfijjikaaGreatDoorY11
import Derived.Test.YtadehgdfijjikaaGreatDoorG1
set_option linter.all false
namespace Go.Yec
open Go Go.Xec Go.Proofs
noncomputable section
variable {D:Type} {V:D->List (PV D)} {hk:KI}
def K_r0:PV D->Y D->Option (Int):=fun v _=>match v with|.int .i64 q0=>some q0|_=>none
def O_r0 (r:Int):PV D:=.int .i64 r
theorem y0Q {r:Int}(v:PV D)(st:Y D)(h:K_r0 v st=some r):v=O_r0 r:=by unfold K_r0 at h;split at h<;>first|(cases h;rfl)|(cases h)
theorem FE_174 (N:Nat)(a0:Int):Kw (D:=D) (x1X []) N (EY Tryz.prog 174 []) [.t 2] [.int .i64 a0] .leaf 0 K_r0=F_174 N a0:=by kernel_rfl
def u2F (N:Nat):List (PV D)->Bt D->Nat->KK D:=fun args _ _=>match args with|[.int .i64 a0]=>.opt (Int) (F_174 N a0) default O_r0|_=>.bad
theorem u9P (ae:HkS hk)(N:Nat):EOk hk V 174 (u2F N):=fun args B m=>by unfold u2F;split;{exact fun _ h=>eP ae (x0H (EJ)) (sz:=5) (by kernel_rfl) rfl rfl rfl rfl (FE_174 N _) y0Q rfl h};trivial
theorem FE_141 (N:Nat)(a0:Int)(a1:Int)(a2:Int)(a3:Bool)(a4:List UInt8):Kw (D:=D) (x1X [(174,u2F N)]) N (EY Tryz.prog 141 []) [.t 2] [.agg [.int .i64 a0,.int .i64 a1,.int .i64 a2,.bool a3,.str a4]] .leaf 0 K_r0=F_141 N a0 a1 a2 a3 a4:=by kernel_rfl
def u2J (N:Nat):List (PV D)->Bt D->Nat->KK D:=fun args _ _=>match args with|[.agg [.int .i64 a0,.int .i64 a1,.int .i64 a2,.bool a3,.str a4]]=>.opt (Int) (F_141 N a0 a1 a2 a3 a4) default O_r0|_=>.bad
theorem u9S (ae:HkS hk)(N:Nat):EOk hk V 141 (u2J N):=fun args B m=>by unfold u2J;split;{exact fun _ h=>eP ae (x0H (EQ (u9P ae N) (EJ))) (sz:=59) (by kernel_rfl) rfl rfl rfl rfl (FE_141 N _ _ _ _ _) y0Q rfl h};trivial
theorem FE_251 (N:Nat)(a0:List UInt8)(a1:Int):Kw (D:=D) (x1X []) N (EY Tryz.prog 251 [[((.tmp 5),(.int .i64)),((.tmp 6),(.int .i64))]]) [.t 4] [.str a0,.int .u8 a1] .leaf 0 K_r0=x8C N a0 a1:=by kernel_rfl
def y0M (N:Nat):List (PV D)->Bt D->Nat->KK D:=fun args _ _=>match args with|[.str a0,.int .u8 a1]=>.opt (Int) (x8C N a0 a1) default O_r0|_=>.bad
theorem x7E (ae:HkS hk)(N:Nat):EOk hk V 251 (y0M N):=fun args B m=>by unfold y0M;split;{exact fun _ h=>eP ae (x0H (EJ)) (sz:=21) (by kernel_rfl) rfl rfl rfl rfl (FE_251 N _ _) y0Q rfl h};trivial
def K_r1:PV D->Y D->Option (Bool):=fun v _=>match v with|.bool q0=>some q0|_=>none
def O_r1 (r:Bool):PV D:=.bool r
theorem z4U {r:Bool}(v:PV D)(st:Y D)(h:K_r1 v st=some r):v=O_r1 r:=by unfold K_r1 at h;split at h<;>first|(cases h;rfl)|(cases h)
theorem FE_254 (N:Nat)(a0:List UInt8)(a1:Int):Kw (D:=D) (x1X []) N (EY Tryz.prog 254 [[((.tmp 5),(.int .i64))]]) [.t 4] [.str a0,.int .u8 a1] .leaf 0 K_r1=x2L N a0 a1:=by kernel_rfl
def x4X (N:Nat):List (PV D)->Bt D->Nat->KK D:=fun args _ _=>match args with|[.str a0,.int .u8 a1]=>.opt (Bool) (x2L N a0 a1) default O_r1|_=>.bad
theorem x2R (ae:HkS hk)(N:Nat):EOk hk V 254 (x4X N):=fun args B m=>by unfold x4X;split;{exact fun _ h=>eP ae (x0H (EJ)) (sz:=17) (by kernel_rfl) rfl rfl rfl rfl (FE_254 N _ _) z4U rfl h};trivial
def K_r2:PV D->Y D->Option (List UInt8):=fun v _=>match v with|.str q0=>some q0|_=>none
def O_r2 (r:List UInt8):PV D:=.str r
theorem KO_r2 {r:List UInt8}(v:PV D)(st:Y D)(h:K_r2 v st=some r):v=O_r2 r:=by unfold K_r2 at h;split at h<;>first|(cases h;rfl)|(cases h)
theorem FE_281 (N:Nat)(a0:Int)(a1:Int):Kw (D:=D) (x1X []) N (EY Tryz.prog 281 [[((.tmp 5),(.rowI 5 .u8)),((.tmp 6),(.int .i64))]]) [.t 4] [.int .u8 a0,.int .i64 a1] .leaf 0 K_r2=y9J N a0 a1:=by kernel_rfl
def u1Q (N:Nat):List (PV D)->Bt D->Nat->KK D:=fun args _ _=>match args with|[.int .u8 a0,.int .i64 a1]=>.opt (List UInt8) (y9J N a0 a1) default O_r2|_=>.bad
theorem u8Y (ae:HkS hk)(N:Nat):EOk hk V 281 (u1Q N):=fun args B m=>by unfold u1Q;split;{exact fun _ h=>eP ae (x0H (EJ)) (sz:=19) (by kernel_rfl) rfl rfl rfl rfl (FE_281 N _ _) KO_r2 rfl h};trivial
def K_r3:PV D->Y D->Option (Int):=fun v _=>match v with|.int .u8 q0=>some q0|_=>none
def O_r3 (r:Int):PV D:=.int .u8 r
theorem KO_r3 {r:Int}(v:PV D)(st:Y D)(h:K_r3 v st=some r):v=O_r3 r:=by unfold K_r3 at h;split at h<;>first|(cases h;rfl)|(cases h)
theorem FE_280 (N:Nat)(a0:Int):Kw (D:=D) (x1X []) N (EY Tryz.prog 280 []) [.t 2] [.int .u8 a0] .leaf 0 K_r3=y9K N a0:=by kernel_rfl
def u1R (N:Nat):List (PV D)->Bt D->Nat->KK D:=fun args _ _=>match args with|[.int .u8 a0]=>.opt (Int) (y9K N a0) default O_r3|_=>.bad
theorem u8Z (ae:HkS hk)(N:Nat):EOk hk V 280 (u1R N):=fun args B m=>by unfold u1R;split;{exact fun _ h=>eP ae (x0H (EJ)) (sz:=13) (by kernel_rfl) rfl rfl rfl rfl (FE_280 N _) KO_r3 rfl h};trivial
theorem FE_282 (N:Nat)(a0:List UInt8):Kw (D:=D) (x1X []) N (EY Tryz.prog 282 []) [.t 2] [.str a0] .leaf 0 K_r1=y9H N a0:=by kernel_rfl
def y7T (N:Nat):List (PV D)->Bt D->Nat->KK D:=fun args _ _=>match args with|[.str a0]=>.opt (Bool) (y9H N a0) default O_r1|_=>.bad
theorem y2S (ae:HkS hk)(N:Nat):EOk hk V 282 (y7T N):=fun args B m=>by unfold y7T;split;{exact fun _ h=>eP ae (x0H (EJ)) (sz:=22) (by kernel_rfl) rfl rfl rfl rfl (FE_282 N _) z4U rfl h};trivial
theorem FE_286 (N:Nat)(a0:List UInt8):Kw (D:=D) (x1X [(251,y0M N),(254,x4X N)]) N (EY Tryz.prog 286 [[((.tmp 3),(.int .i64))]]) [.t 2] [.str a0] .leaf 0 K_r3=z4W N a0:=by kernel_rfl
def y2R (N:Nat):List (PV D)->Bt D->Nat->KK D:=fun args _ _=>match args with|[.str a0]=>.opt (Int) (z4W N a0) default O_r3|_=>.bad
theorem x9R (ae:HkS hk)(N:Nat):EOk hk V 286 (y2R N):=fun args B m=>by unfold y2R;split;{exact fun _ h=>eP ae (x0H (EQ (x7E ae N) (EQ (x2R ae N) (EJ)))) (sz:=25) (by kernel_rfl) rfl rfl rfl rfl (FE_286 N _) KO_r3 rfl h};trivial
theorem FE_253 (N:Nat)(a0:List UInt8):Kw (D:=D) (x1X [(254,x4X N),(282,y7T N),(286,y2R N)]) N (EY Tryz.prog 253 [[((.tmp 5),(.rowI 5 .u8)),((.tmp 6),.bool),((.tmp 7),(.int .i64))]]) [.t 2] [.str a0] .leaf 0 K_r2=z9K N a0:=by kernel_rfl
def z3K (N:Nat):List (PV D)->Bt D->Nat->KK D:=fun args _ _=>match args with|[.str a0]=>.opt (List UInt8) (z9K N a0) default O_r2|_=>.bad
theorem z1D (ae:HkS hk)(N:Nat):EOk hk V 253 (z3K N):=fun args B m=>by unfold z3K;split;{exact fun _ h=>eP ae (x0H (EQ (x2R ae N) (EQ (y2S ae N) (EQ (x9R ae N) (EJ))))) (sz:=73) (by kernel_rfl) rfl rfl rfl rfl (FE_253 N _) KO_r2 rfl h};trivial
theorem FE_283 (N:Nat)(a0:List UInt8):Kw (D:=D) (x1X [(251,y0M N),(254,x4X N),(286,y2R N)]) N (EY Tryz.prog 283 [[((.tmp 4),(.int .i64)),((.tmp 5),(.int .i64)),((.tmp 6),(.int .i64))],[((.tmp 7),(.int .i64))]]) [.t 2] [.str a0] .leaf 0 K_r1=z9J N a0:=by kernel_rfl
def u1P (N:Nat):List (PV D)->Bt D->Nat->KK D:=fun args _ _=>match args with|[.str a0]=>.opt (Bool) (z9J N a0) default O_r1|_=>.bad
theorem u8X (ae:HkS hk)(N:Nat):EOk hk V 283 (u1P N):=fun args B m=>by unfold u1P;split;{exact fun _ h=>eP ae (x0H (EQ (x7E ae N) (EQ (x2R ae N) (EQ (x9R ae N) (EJ))))) (sz:=70) (by kernel_rfl) rfl rfl rfl rfl (FE_283 N _) z4U rfl h};trivial
theorem FE_284 (N:Nat)(a0:List UInt8)(a1:List UInt8):Kw (D:=D) (x1X [(254,x4X N),(286,y2R N)]) N (EY Tryz.prog 284 [[((.tmp 5),.bool),((.tmp 6),.bool),((.tmp 7),.bool),((.tmp 8),(.int .i64)),((.tmp 9),(.int .i64))]]) [.t 4] [.str a0,.str a1] .leaf 0 K_r1=u3M N a0 a1:=by kernel_rfl
def u1N (N:Nat):List (PV D)->Bt D->Nat->KK D:=fun args _ _=>match args with|[.str a0,.str a1]=>.opt (Bool) (u3M N a0 a1) default O_r1|_=>.bad
theorem u8W (ae:HkS hk)(N:Nat):EOk hk V 284 (u1N N):=fun args B m=>by unfold u1N;split;{exact fun _ h=>eP ae (x0H (EQ (x2R ae N) (EQ (x9R ae N) (EJ)))) (sz:=67) (by kernel_rfl) rfl rfl rfl rfl (FE_284 N _ _) z4U rfl h};trivial
theorem FE_252 (N:Nat)(a0:List UInt8):Kw (D:=D) (x1X [(251,y0M N),(254,x4X N),(282,y7T N)]) N (EY Tryz.prog 252 [[((.tmp 4),(.int .i64)),((.tmp 5),(.int .i64))]]) [.t 2] [.str a0] .leaf 0 K_r0=z9L N a0:=by kernel_rfl
def z3L (N:Nat):List (PV D)->Bt D->Nat->KK D:=fun args _ _=>match args with|[.str a0]=>.opt (Int) (z9L N a0) default O_r0|_=>.bad
theorem z1E (ae:HkS hk)(N:Nat):EOk hk V 252 (z3L N):=fun args B m=>by unfold z3L;split;{exact fun _ h=>eP ae (x0H (EQ (x7E ae N) (EQ (x2R ae N) (EQ (y2S ae N) (EJ))))) (sz:=34) (by kernel_rfl) rfl rfl rfl rfl (FE_252 N _) y0Q rfl h};trivial
theorem FE_285 (N:Nat)(a0:List UInt8)(a1:List UInt8):Kw (D:=D) (x1X [(254,x4X N),(286,y2R N)]) N (EY Tryz.prog 285 [[((.tmp 6),(.int .i64))],[((.tmp 7),.bool),((.tmp 8),.bool),((.tmp 9),(.int .i64))]]) [.t 4] [.str a0,.str a1] .leaf 0 K_r1=z9H N a0 a1:=by kernel_rfl
def u1M (N:Nat):List (PV D)->Bt D->Nat->KK D:=fun args _ _=>match args with|[.str a0,.str a1]=>.opt (Bool) (z9H N a0 a1) default O_r1|_=>.bad
theorem u8V (ae:HkS hk)(N:Nat):EOk hk V 285 (u1M N):=fun args B m=>by unfold u1M;split;{exact fun _ h=>eP ae (x0H (EQ (x2R ae N) (EQ (x9R ae N) (EJ)))) (sz:=69) (by kernel_rfl) rfl rfl rfl rfl (FE_285 N _ _) z4U rfl h};trivial
theorem FE_249 (N:Nat)(a0:List UInt8):Kw (D:=D) (x1X [(254,x4X N)]) N (EY Tryz.prog 249 [[((.tmp 3),(.int .i64))]]) [.t 2] [.str a0] .leaf 0 K_r1=v0U N a0:=by kernel_rfl
def z3M (N:Nat):List (PV D)->Bt D->Nat->KK D:=fun args _ _=>match args with|[.str a0]=>.opt (Bool) (v0U N a0) default O_r1|_=>.bad
theorem z1F (ae:HkS hk)(N:Nat):EOk hk V 249 (z3M N):=fun args B m=>by unfold z3M;split;{exact fun _ h=>eP ae (x0H (EQ (x2R ae N) (EJ))) (sz:=21) (by kernel_rfl) rfl rfl rfl rfl (FE_249 N _) z4U rfl h};trivial
theorem FE_250 (N:Nat)(a0:List UInt8):Kw (D:=D) (x1X [(249,z3M N),(251,y0M N),(252,z3L N),(253,z3K N),(254,x4X N),(282,y7T N),(283,u1P N),(284,u1N N),(285,u1M N)]) N (EY Tryz.prog 250 [[((.tmp 4),(.int .i64))]]) [.t 2] [.str a0] .leaf 0 K_r1=v0T N a0:=by kernel_rfl
def u1T (N:Nat):List (PV D)->Bt D->Nat->KK D:=fun args _ _=>match args with|[.str a0]=>.opt (Bool) (v0T N a0) default O_r1|_=>.bad
theorem u9B (ae:HkS hk)(N:Nat):EOk hk V 250 (u1T N):=fun args B m=>by unfold u1T;split;{exact fun _ h=>eP ae (x0H (EQ (z1F ae N) (EQ (x7E ae N) (EQ (z1E ae N) (EQ (z1D ae N) (EQ (x2R ae N) (EQ (y2S ae N) (EQ (u8X ae N) (EQ (u8W ae N) (EQ (u8V ae N) (EJ))))))))))) (sz:=50) (by kernel_rfl) rfl rfl rfl rfl (FE_250 N _) z4U rfl h};trivial
def K_r4:PV D->Y D->Option (Int×Int):=fun v _=>match v with|.tup [.int .i64 q0,.int .i64 q1]=>some (q0,q1)|_=>none
def O_r4 (r:Int×Int):PV D:=.tup [.int .i64 r.1,.int .i64 r.2]
theorem KO_r4 {r:Int×Int}(v:PV D)(st:Y D)(h:K_r4 v st=some r):v=O_r4 r:=by unfold K_r4 at h;split at h<;>first|(cases h;rfl)|(cases h)
theorem FE_279 (N:Nat)(a0:List UInt8)(a1:Int):Kw (D:=D) (x1X []) N (EY Tryz.prog 279 [[((.tmp 6),(.int .i64)),((.tmp 7),(.int .i64))]]) [.t 4,.t 5] [.str a0,.int .i64 a1] .leaf 0 K_r4=u3N N a0 a1:=by kernel_rfl
def u1S (N:Nat):List (PV D)->Bt D->Nat->KK D:=fun args _ _=>match args with|[.str a0,.int .i64 a1]=>.opt (Int×Int) (u3N N a0 a1) default O_r4|_=>.bad
theorem u9A (ae:HkS hk)(N:Nat):EOk hk V 279 (u1S N):=fun args B m=>by unfold u1S;split;{exact fun _ h=>eP ae (x0H (EJ)) (sz:=58) (by kernel_rfl) rfl rfl rfl rfl (FE_279 N _ _) KO_r4 rfl h};trivial
def K_r5:PV D->Y D->Option (List UInt8×Int):=fun v _=>match v with|.tup [.str q0,.int .i64 q1]=>some (q0,q1)|_=>none
def O_r5 (r:List UInt8×Int):PV D:=.tup [.str r.1,.int .i64 r.2]
theorem KO_r5 {r:List UInt8×Int}(v:PV D)(st:Y D)(h:K_r5 v st=some r):v=O_r5 r:=by unfold K_r5 at h;split at h<;>first|(cases h;rfl)|(cases h)
theorem FE_248 (N:Nat)(a0:List UInt8):Kw (D:=D) (x1X [(254,x4X N),(280,u1R N),(279,u1S N),(281,u1Q N)]) N (EY Tryz.prog 248 [[((.tmp 4),.str),((.tmp 5),(.int .i64))]]) [.t 2,.t 3] [.str a0] .leaf 0 K_r5=v8H N a0:=by kernel_rfl
def u1U (N:Nat):List (PV D)->Bt D->Nat->KK D:=fun args _ _=>match args with|[.str a0]=>.opt (List UInt8×Int) (v8H N a0) default O_r5|_=>.bad
theorem u9C (ae:HkS hk)(N:Nat):EOk hk V 248 (u1U N):=fun args B m=>by unfold u1U;split;{exact fun _ h=>eP ae (x0H (EQ (x2R ae N) (EQ (u8Z ae N) (EQ (u9A ae N) (EQ (u8Y ae N) (EJ)))))) (sz:=55) (by kernel_rfl) rfl rfl rfl rfl (FE_248 N _) KO_r5 rfl h};trivial
theorem FE_140 (N:Nat)(a0:Int)(a1:Int)(a2:Int)(a3:Bool)(a4:List UInt8):Kw (D:=D) (x1X []) N (EY Tryz.prog 140 []) [.t 2] [.agg [.int .i64 a0,.int .i64 a1,.int .i64 a2,.bool a3,.str a4]] .leaf 0 K_r1=F_140 N a0 a1 a2 a3 a4:=by kernel_rfl
def u2K (N:Nat):List (PV D)->Bt D->Nat->KK D:=fun args _ _=>match args with|[.agg [.int .i64 a0,.int .i64 a1,.int .i64 a2,.bool a3,.str a4]]=>.opt (Bool) (F_140 N a0 a1 a2 a3 a4) default O_r1|_=>.bad
theorem u9T (ae:HkS hk)(N:Nat):EOk hk V 140 (u2K N):=fun args B m=>by unfold u2K;split;{exact fun _ h=>eP ae (x0H (EJ)) (sz:=11) (by kernel_rfl) rfl rfl rfl rfl (FE_140 N _ _ _ _ _) z4U rfl h};trivial
theorem FE_235 (N:Nat)(a0:Int)(a1:Int)(a2:Int)(a3:Bool)(a4:List UInt8):Kw (D:=D) (x1X []) N (EY Tryz.prog 235 []) [.t 2] [.agg [.int .i64 a0,.int .i64 a1,.int .i64 a2,.bool a3,.str a4]] .leaf 0 K_r0=F_235 N a0 a1 a2 a3 a4:=by kernel_rfl
def u1X (N:Nat):List (PV D)->Bt D->Nat->KK D:=fun args _ _=>match args with|[.agg [.int .i64 a0,.int .i64 a1,.int .i64 a2,.bool a3,.str a4]]=>.opt (Int) (F_235 N a0 a1 a2 a3 a4) default O_r0|_=>.bad
theorem u9F (ae:HkS hk)(N:Nat):EOk hk V 235 (u1X N):=fun args B m=>by unfold u1X;split;{exact fun _ h=>eP ae (x0H (EJ)) (sz:=53) (by kernel_rfl) rfl rfl rfl rfl (FE_235 N _ _ _ _ _) y0Q rfl h};trivial
theorem FE_200 (N:Nat)(a0:Int)(a1:Int)(a2:Int)(a3:Bool)(a4:List UInt8):Kw (D:=D) (x1X [(235,u1X N)]) N (EY Tryz.prog 200 []) [.t 2] [.agg [.int .i64 a0,.int .i64 a1,.int .i64 a2,.bool a3,.str a4]] .leaf 0 K_r1=F_200 N a0 a1 a2 a3 a4:=by kernel_rfl
def u2B (N:Nat):List (PV D)->Bt D->Nat->KK D:=fun args _ _=>match args with|[.agg [.int .i64 a0,.int .i64 a1,.int .i64 a2,.bool a3,.str a4]]=>.opt (Bool) (F_200 N a0 a1 a2 a3 a4) default O_r1|_=>.bad
theorem u9K (ae:HkS hk)(N:Nat):EOk hk V 200 (u2B N):=fun args B m=>by unfold u2B;split;{exact fun _ h=>eP ae (x0H (EQ (u9F ae N) (EJ))) (sz:=6) (by kernel_rfl) rfl rfl rfl rfl (FE_200 N _ _ _ _ _) z4U rfl h};trivial
def K_r6:PV D->Y D->Option ((List UInt8×Bool×Int×Int×Int×Bool)×Int):=fun v _=>match v with|.tup [.agg [.str q0,.bool q1,.int .i64 q2,.int .i64 q3,.int .i64 q4,.bool q5],.int .i64 q6]=>some ((q0,q1,q2,q3,q4,q5),q6)|_=>none
def O_r6 (r:(List UInt8×Bool×Int×Int×Int×Bool)×Int):PV D:=.tup [.agg [.str r.1.1,.bool r.1.2.1,.int .i64 r.1.2.2.1,.int .i64 r.1.2.2.2.1,.int .i64 r.1.2.2.2.2.1,.bool r.1.2.2.2.2.2],.int .i64 r.2]
theorem KO_r6 {r:(List UInt8×Bool×Int×Int×Int×Bool)×Int}(v:PV D)(st:Y D)(h:K_r6 v st=some r):v=O_r6 r:=by unfold K_r6 at h;split at h<;>first|(cases h;rfl)|(cases h)
theorem FE_218 (N:Nat)(a0:List UInt8):Kw (D:=D) (x1X [(248,u1U N),(249,z3M N),(250,u1T N),(251,y0M N),(252,z3L N),(253,z3K N),(254,x4X N)]) N (EY Tryz.prog 218 [[((.tmp 8),(.int .i64)),((.cell 1 0),.str),((.cell 1 1),.bool),((.cell 1 2),(.int .i64)),((.cell 1 3),(.int .i64)),((.cell 1 4),(.int .i64)),((.cell 1 5),.bool)]]) [.c 2 6 true,.t 3] [.str a0] .leaf 0 K_r6=v0V N a0:=by kernel_rfl
def z3N (N:Nat):List (PV D)->Bt D->Nat->KK D:=fun args _ _=>match args with|[.str a0]=>.opt ((List UInt8×Bool×Int×Int×Int×Bool)×Int) (v0V N a0) default O_r6|_=>.bad
theorem z1G (ae:HkS hk)(N:Nat):EOk hk V 218 (z3N N):=fun args B m=>by unfold z3N;split;{exact fun _ h=>eP ae (x0H (EQ (u9C ae N) (EQ (z1F ae N) (EQ (u9B ae N) (EQ (x7E ae N) (EQ (z1E ae N) (EQ (z1D ae N) (EQ (x2R ae N) (EJ))))))))) (sz:=69) (by kernel_rfl) rfl rfl rfl rfl (FE_218 N _) KO_r6 rfl h};trivial
theorem FE_201 (N:Nat)(a0:List UInt8):Kw (D:=D) (x1X [(218,z3N N)]) N (EY Tryz.prog 201 []) [.t 2] [.str a0] .leaf 0 K_r0=v8J N a0:=by kernel_rfl
def u2A (N:Nat):List (PV D)->Bt D->Nat->KK D:=fun args _ _=>match args with|[.str a0]=>.opt (Int) (v8J N a0) default O_r0|_=>.bad
theorem u9J (ae:HkS hk)(N:Nat):EOk hk V 201 (u2A N):=fun args B m=>by unfold u2A;split;{exact fun _ h=>eP ae (x0H (EQ (z1G ae N) (EJ))) (sz:=11) (by kernel_rfl) rfl rfl rfl rfl (FE_201 N _) y0Q rfl h};trivial
theorem FE_178 (N:Nat)(a0:Int)(a1:Int)(a2:Int)(a3:Bool)(a4:List UInt8):Kw (D:=D) (x1X [(200,u2B N),(201,u2A N)]) N (EY Tryz.prog 178 []) [.t 2] [.agg [.int .i64 a0,.int .i64 a1,.int .i64 a2,.bool a3,.str a4]] .leaf 0 K_r0=v8K N a0 a1 a2 a3 a4:=by kernel_rfl
def u2E (N:Nat):List (PV D)->Bt D->Nat->KK D:=fun args _ _=>match args with|[.agg [.int .i64 a0,.int .i64 a1,.int .i64 a2,.bool a3,.str a4]]=>.opt (Int) (v8K N a0 a1 a2 a3 a4) default O_r0|_=>.bad
theorem u9N (ae:HkS hk)(N:Nat):EOk hk V 178 (u2E N):=fun args B m=>by unfold u2E;split;{exact fun _ h=>eP ae (x0H (EQ (u9K ae N) (EQ (u9J ae N) (EJ)))) (sz:=81) (by kernel_rfl) rfl rfl rfl rfl (FE_178 N _ _ _ _ _) y0Q rfl h};trivial
theorem FE_147 (N:Nat)(a0:Int)(a1:Int)(a2:Int)(a3:Bool)(a4:List UInt8):Kw (D:=D) (x1X [(178,u2E N)]) N (EY Tryz.prog 147 []) [.t 2] [.agg [.int .i64 a0,.int .i64 a1,.int .i64 a2,.bool a3,.str a4]] .leaf 0 K_r0=v0X N a0 a1 a2 a3 a4:=by kernel_rfl
def z3R (N:Nat):List (PV D)->Bt D->Nat->KK D:=fun args _ _=>match args with|[.agg [.int .i64 a0,.int .i64 a1,.int .i64 a2,.bool a3,.str a4]]=>.opt (Int) (v0X N a0 a1 a2 a3 a4) default O_r0|_=>.bad
theorem y2U (ae:HkS hk)(N:Nat):EOk hk V 147 (z3R N):=fun args B m=>by unfold z3R;split;{exact fun _ h=>eP ae (x0H (EQ (u9N ae N) (EJ))) (sz:=36) (by kernel_rfl) rfl rfl rfl rfl (FE_147 N _ _ _ _ _) y0Q rfl h};trivial
def K_r7:PV D->Y D->Option (Int×Bool):=fun v _=>match v with|.tup [.int .i64 q0,.bool q1]=>some (q0,q1)|_=>none
def O_r7 (r:Int×Bool):PV D:=.tup [.int .i64 r.1,.bool r.2]
theorem KO_r7 {r:Int×Bool}(v:PV D)(st:Y D)(h:K_r7 v st=some r):v=O_r7 r:=by unfold K_r7 at h;split at h<;>first|(cases h;rfl)|(cases h)
theorem FE_202 (N:Nat)(a0:Int)(a1:Int):Kw (D:=D) (x1X []) N (EY Tryz.prog 202 []) [.t 4,.t 5] [.int .i64 a0,.int .i32 a1] .leaf 0 K_r7=u3P N a0 a1:=by kernel_rfl
def u1Z (N:Nat):List (PV D)->Bt D->Nat->KK D:=fun args _ _=>match args with|[.int .i64 a0,.int .i32 a1]=>.opt (Int×Bool) (u3P N a0 a1) default O_r7|_=>.bad
theorem u9H (ae:HkS hk)(N:Nat):EOk hk V 202 (u1Z N):=fun args B m=>by unfold u1Z;split;{exact fun _ h=>eP ae (x0H (EJ)) (sz:=29) (by kernel_rfl) rfl rfl rfl rfl (FE_202 N _ _) KO_r7 rfl h};trivial
def z8B (N:Nat):List (PV D)->Bt D->Nat->KK D:=fun args B m=>inlC (x1X [(236,y2T N)]) N (EY Tryz.prog 203 [[((.tmp 0),(.rowI 5 .u8)),((.tmp 32),(.int .i64))]]) [.t 6,.t 7] 41 (.tup [.nils,(.bool false)]) args B m
theorem z8A (ae:HkS hk)(N:Nat):EOk hk V 203 (z8B N):=fun args B m=>inlE ae (x0H (EQ (x9S ae N) (EJ))) (by kernel_rfl) rfl args B m
def z8F (N:Nat):List (PV D)->Bt D->Nat->KK D:=fun args B m=>inlC (x1X [(202,u1Z N),(203,z8B N)]) N (EY Tryz.prog 180 [[((.tmp 4),(.rowI 5 .u8)),((.tmp 5),(.int .i64)),((.tmp 6),(.int .i64)),((.tmp 7),.bool),((.row 1),.iter)]]) [.t 2,.t 3] 74 (.tup [(.str []),(.bool false)]) args B m
theorem z8E (ae:HkS hk)(N:Nat):EOk hk V 180 (z8F N):=fun args B m=>inlE ae (x0H (EQ (u9H ae N) (EQ (z8A ae N) (EJ)))) (by kernel_rfl) rfl args B m
def z7Z (N:Nat):List (PV D)->Bt D->Nat->KK D:=fun args B m=>inlC (x1X [(214,z3P N),(236,y2T N),(244,u1W N),(245,u1V N)]) N (EY Tryz.prog 213 [[((.tmp 16),(.int .i64)),((.cell 2 0),.str),((.cell 2 1),.bool),((.cell 2 2),(.int .i64)),((.cell 2 3),(.int .i64)),((.cell 2 4),(.int .i64)),((.cell 2 5),.bool),((.cell 2 7),(.int .u8)),((.cell 2 8),(.int .i64)),((.cell 2 9),.bool),((.cell 2 10),(.int .u8)),((.cell 2 11),(.int .i64))],[((.tmp 60),(.int .i64))]]) [.t 4] 74 (.bool false) args B m
theorem z7Y (ae:HkS hk)(N:Nat):EOk hk V 213 (z7Z N):=fun args B m=>inlE ae (x0H (EQ (z1H ae N) (EQ (x9S ae N) (EQ (u9E ae N) (EQ (u9D ae N) (EJ)))))) (by kernel_rfl) rfl args B m
def z7R (N:Nat):List (PV D)->Bt D->Nat->KK D:=fun args B m=>inlC (x1X [(236,y2T N)]) N (EY Tryz.prog 247 []) [.t 6] 51 (.int .i64 0) args B m
theorem z7Q (ae:HkS hk)(N:Nat):EOk hk V 247 (z7R N):=fun args B m=>inlE ae (x0H (EQ (x9S ae N) (EJ))) (by kernel_rfl) rfl args B m
def z7X (N:Nat):List (PV D)->Bt D->Nat->KK D:=fun args B m=>inlC (x1X [(247,z7R N)]) N (EY Tryz.prog 215 [[((.tmp 5),(.int .i64)),((.tmp 6),.bool),((.tmp 13),(.int .i64)),((.cell 2 0),.str),((.cell 2 1),.bool),((.cell 2 2),(.int .i64)),((.cell 2 3),(.int .i64)),((.cell 2 4),(.int .i64)),((.cell 2 5),.bool),((.cell 2 6),(.rowI 248 .i64)),((.cell 2 7),(.int .u8)),((.cell 2 8),(.int .i64)),((.cell 2 9),.bool),((.cell 2 10),(.int .u8)),((.cell 2 11),(.int .i64))]]) [.t 4] 122 (.bool false) args B m
theorem z7W (ae:HkS hk)(N:Nat):EOk hk V 215 (z7X N):=fun args B m=>inlE ae (x0H (EQ (z7Q ae N) (EJ))) (by kernel_rfl) rfl args B m
def z7V (N:Nat):List (PV D)->Bt D->Nat->KK D:=fun args B m=>inlC (x1X []) N (EY Tryz.prog 216 [[((.tmp 5),(.int .i64)),((.tmp 6),(.int .i64)),((.tmp 18),(.int .i64))],[((.tmp 49),(.int .i64))]]) [.t 4] 79 (.bool false) args B m
theorem z7U (ae:HkS hk)(N:Nat):EOk hk V 216 (z7V N):=fun args B m=>inlE ae (x0H (EJ)) (by kernel_rfl) rfl args B m
def z7T (N:Nat):List (PV D)->Bt D->Nat->KK D:=fun args B m=>inlC (x1X [(236,y2T N)]) N (EY Tryz.prog 217 [[((.tmp 5),(.int .i64)),((.tmp 11),(.int .i64))]]) [.t 4] 39 (.int .i64 0) args B m
theorem z7S (ae:HkS hk)(N:Nat):EOk hk V 217 (z7T N):=fun args B m=>inlE ae (x0H (EQ (x9S ae N) (EJ))) (by kernel_rfl) rfl args B m
def z8D (N:Nat):List (PV D)->Bt D->Nat->KK D:=fun args B m=>inlC (x1X [(182,z3Q N),(212,u1Y N),(213,z7Z N),(214,z3P N),(215,z7X N),(216,z7V N),(217,z7T N)]) N (EY Tryz.prog 183 []) [.t 2,.t 3] 114 (.tup [.nilp,(.bool false)]) args B m
theorem z8C (ae:HkS hk)(N:Nat):EOk hk V 183 (z8D N):=fun args B m=>inlE ae (x0H (EQ (z1J ae N) (EQ (u9G ae N) (EQ (z7Y ae N) (EQ (z1H ae N) (EQ (z7W ae N) (EQ (z7U ae N) (EQ (z7S ae N) (EJ))))))))) (by kernel_rfl) rfl args B m
def z8H (N:Nat):List (PV D)->Bt D->Nat->KK D:=fun args B m=>inlC (x1X [(180,z8F N),(181,u2D N),(182,z3Q N),(183,z8D N)]) N (EY Tryz.prog 155 []) [.t 2,.t 3] 30 (.tup [.nilp,(.bool false)]) args B m
theorem z8G (ae:HkS hk)(N:Nat):EOk hk V 155 (z8H N):=fun args B m=>inlE ae (x0H (EQ (z8E ae N) (EQ (u9M ae N) (EQ (z1J ae N) (EQ (z8C ae N) (EJ)))))) (by kernel_rfl) rfl args B m
theorem FE_112 (N:Nat)(a0:List UInt8):Kw (D:=D) (x1X [(155,z8H N)]) N (EY Tryz.prog 112 []) [.c 2 6 true,.t 3] [.str a0] .leaf 0 K_r6=v8M N a0:=by kernel_rfl
def z3S (N:Nat):List (PV D)->Bt D->Nat->KK D:=fun args _ _=>match args with|[.str a0]=>.opt ((List UInt8×Bool×Int×Int×Int×Bool)×Int) (v8M N a0) default O_r6|_=>.bad
theorem z1L (ae:HkS hk)(N:Nat):EOk hk V 112 (z3S N):=fun args B m=>by unfold z3S;split;{exact fun _ h=>eP ae (x0H (EQ (z8G ae N) (EJ))) (sz:=18) (by kernel_rfl) rfl rfl rfl rfl (FE_112 N _) KO_r6 rfl h};trivial
theorem FE_142 (N:Nat)(a0:List UInt8):Kw (D:=D) (x1X [(112,z3S N)]) N (EY Tryz.prog 142 []) [.t 2] [.str a0] .leaf 0 K_r0=v8L N a0:=by kernel_rfl
def u2H (N:Nat):List (PV D)->Bt D->Nat->KK D:=fun args _ _=>match args with|[.str a0]=>.opt (Int) (v8L N a0) default O_r0|_=>.bad
theorem u9R (ae:HkS hk)(N:Nat):EOk hk V 142 (u2H N):=fun args B m=>by unfold u2H;split;{exact fun _ h=>eP ae (x0H (EQ (z1L ae N) (EJ))) (sz:=11) (by kernel_rfl) rfl rfl rfl rfl (FE_142 N _) y0Q rfl h};trivial
theorem FE_84 (N:Nat)(a0:Int)(a1:Int)(a2:Int)(a3:Bool)(a4:List UInt8):Kw (D:=D) (x1X [(140,u2K N),(141,u2J N),(142,u2H N)]) N (EY Tryz.prog 84 []) [.t 2] [.agg [.int .i64 a0,.int .i64 a1,.int .i64 a2,.bool a3,.str a4]] .leaf 0 K_r0=F_84 N a0 a1 a2 a3 a4:=by kernel_rfl
def u6D (N:Nat):List (PV D)->Bt D->Nat->KK D:=fun args _ _=>match args with|[.agg [.int .i64 a0,.int .i64 a1,.int .i64 a2,.bool a3,.str a4]]=>.opt (Int) (F_84 N a0 a1 a2 a3 a4) default O_r0|_=>.bad
theorem y7S (ae:HkS hk)(N:Nat):EOk hk V 84 (u6D N):=fun args B m=>by unfold u6D;split;{exact fun _ h=>eP ae (x0H (EQ (u9T ae N) (EQ (u9S ae N) (EQ (u9R ae N) (EJ))))) (sz:=81) (by kernel_rfl) rfl rfl rfl rfl (FE_84 N _ _ _ _ _) y0Q rfl h};trivial
theorem FE_53 (N:Nat)(a0:Int)(a1:Int)(a2:Int)(a3:Bool)(a4:List UInt8):Kw (D:=D) (x1X [(84,u6D N),(112,z3S N)]) N (EY Tryz.prog 53 []) [.t 2] [.agg [.int .i64 a0,.int .i64 a1,.int .i64 a2,.bool a3,.str a4]] .leaf 0 K_r0=F_53 N a0 a1 a2 a3 a4:=by kernel_rfl
def v6M (N:Nat):List (PV D)->Bt D->Nat->KK D:=fun args _ _=>match args with|[.agg [.int .i64 a0,.int .i64 a1,.int .i64 a2,.bool a3,.str a4]]=>.opt (Int) (F_53 N a0 a1 a2 a3 a4) default O_r0|_=>.bad
theorem z7P (ae:HkS hk)(N:Nat):EOk hk V 53 (v6M N):=fun args B m=>by unfold v6M;split;{exact fun _ h=>eP ae (x0H (EQ (y7S ae N) (EQ (z1L ae N) (EJ)))) (sz:=53) (by kernel_rfl) rfl rfl rfl rfl (FE_53 N _ _ _ _ _) y0Q rfl h};trivial
theorem FE_26 (N:Nat)(a0:Int)(a1:Int)(a2:Int)(a3:Bool)(a4:List UInt8):Kw (D:=D) (x1X [(84,u6D N),(53,v6M N)]) N (EY Tryz.prog 26 []) [.t 2] [.agg [.int .i64 a0,.int .i64 a1,.int .i64 a2,.bool a3,.str a4]] .leaf 0 K_r0=F_26 N a0 a1 a2 a3 a4:=by kernel_rfl
def ent_26 (N:Nat):List (PV D)->Bt D->Nat->KK D:=fun args _ _=>match args with|[.agg [.int .i64 a0,.int .i64 a1,.int .i64 a2,.bool a3,.str a4]]=>.opt (Int) (F_26 N a0 a1 a2 a3 a4) default O_r0|_=>.bad
theorem v6N (ae:HkS hk)(N:Nat):EOk hk V 26 (ent_26 N):=fun args B m=>by unfold ent_26;split;{exact fun _ h=>eP ae (x0H (EQ (y7S ae N) (EQ (z7P ae N) (EJ)))) (sz:=17) (by kernel_rfl) rfl rfl rfl rfl (FE_26 N _ _ _ _ _) y0Q rfl h};trivial
theorem FE_184 (N:Nat)(a0:Int)(a1:Int)(a2:Int)(a3:Bool)(a4:List UInt8):Kw (D:=D) (x1X [(218,z3N N)]) N (EY Tryz.prog 184 []) [.t 2] [.agg [.int .i64 a0,.int .i64 a1,.int .i64 a2,.bool a3,.str a4]] .leaf 0 K_r0=F_184 N a0 a1 a2 a3 a4:=by kernel_rfl
def u2C (N:Nat):List (PV D)->Bt D->Nat->KK D:=fun args _ _=>match args with|[.agg [.int .i64 a0,.int .i64 a1,.int .i64 a2,.bool a3,.str a4]]=>.opt (Int) (F_184 N a0 a1 a2 a3 a4) default O_r0|_=>.bad
theorem u9L (ae:HkS hk)(N:Nat):EOk hk V 184 (u2C N):=fun args B m=>by unfold u2C;split;{exact fun _ h=>eP ae (x0H (EQ (z1G ae N) (EJ))) (sz:=33) (by kernel_rfl) rfl rfl rfl rfl (FE_184 N _ _ _ _ _) y0Q rfl h};trivial
theorem FE_156 (N:Nat)(a0:Int)(a1:Int)(a2:Int)(a3:Bool)(a4:List UInt8):Kw (D:=D) (x1X [(147,z3R N),(184,u2C N)]) N (EY Tryz.prog 156 []) [.t 2] [.agg [.int .i64 a0,.int .i64 a1,.int .i64 a2,.bool a3,.str a4]] .leaf 0 K_r0=v0W N a0 a1 a2 a3 a4:=by kernel_rfl
def u2G (N:Nat):List (PV D)->Bt D->Nat->KK D:=fun args _ _=>match args with|[.agg [.int .i64 a0,.int .i64 a1,.int .i64 a2,.bool a3,.str a4]]=>.opt (Int) (v0W N a0 a1 a2 a3 a4) default O_r0|_=>.bad
theorem z1K (ae:HkS hk)(N:Nat):EOk hk V 156 (u2G N):=fun args B m=>by unfold u2G;split;{exact fun _ h=>eP ae (x0H (EQ (y2U ae N) (EQ (u9L ae N) (EJ)))) (sz:=45) (by kernel_rfl) rfl rfl rfl rfl (FE_156 N _ _ _ _ _) y0Q rfl h};trivial
theorem FE_157 (N:Nat)(a0:Int)(a1:Int)(a2:Int)(a3:Bool)(a4:List UInt8):Kw (D:=D) (x1X [(147,z3R N),(156,u2G N)]) N (EY Tryz.prog 157 []) [.t 2] [.agg [.int .i64 a0,.int .i64 a1,.int .i64 a2,.bool a3,.str a4]] .leaf 0 K_r0=F_157 N a0 a1 a2 a3 a4:=by kernel_rfl
def v6P (N:Nat):List (PV D)->Bt D->Nat->KK D:=fun args _ _=>match args with|[.agg [.int .i64 a0,.int .i64 a1,.int .i64 a2,.bool a3,.str a4]]=>.opt (Int) (F_157 N a0 a1 a2 a3 a4) default O_r0|_=>.bad
theorem u9Q (ae:HkS hk)(N:Nat):EOk hk V 157 (v6P N):=fun args B m=>by unfold v6P;split;{exact fun _ h=>eP ae (x0H (EQ (y2U ae N) (EQ (z1K ae N) (EJ)))) (sz:=17) (by kernel_rfl) rfl rfl rfl rfl (FE_157 N _ _ _ _ _) y0Q rfl h};trivial
end
end Go.Yec
