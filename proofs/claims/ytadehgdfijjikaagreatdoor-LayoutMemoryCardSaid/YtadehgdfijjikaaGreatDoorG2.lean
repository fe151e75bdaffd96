/- G1 -/
import Derived.Test.YtadehgdfijjikaaGreatDoorY11
import Derived.Test.YtadehgdfijjikaaGreatDoorG1
set_option linter.all false
namespace Go.Yec
open Go Go.Xec Go.Proofs
noncomputable section
variable {D:Type} {V:D->List (PV D)} {hk:QX}
def Qe:PV D->Y D->Option (Int):=fun v _=>match v with|.int .i64 q0=>some q0|_=>none
def Qn (r:Int):PV D:=.int .i64 r
theorem y0Q {r:Int}(v:PV D)(st:Y D)(h:Qe v st=some r):v=Qn r:=by unfold Qe at h;split at h<;>first|(cases h;rfl)|(cases h)
theorem FE_174 (N:Nat)(a0:Int):ZP (D:=D) (x1X []) N (Kh Tryz.prog 174 []) [.t 2] [.int .i64 a0] .leaf 0 Qe=F_174 N a0:=by kernel_rfl
def u2F (N:Nat):List (PV D)->Bt D->Nat->QL D:=fun args _ _=>match args with|[.int .i64 a0]=>.opt (Int) (F_174 N a0) default Qn|_=>.bad
theorem u9P (ac:HkS hk)(N:Nat):EOk hk V 174 (u2F N):=fun args B m=>by unfold u2F;split;{exact fun _ h=>eP ac (x0H (Kx)) (sz:=5) (by kernel_rfl) rfl rfl rfl rfl (FE_174 N _) y0Q rfl h};trivial
theorem FE_141 (N:Nat)(a0:Int)(a1:Int)(a2:Int)(a3:Bool)(a4:List UInt8):ZP (D:=D) (x1X [(174,u2F N)]) N (Kh Tryz.prog 141 []) [.t 2] [.agg [.int .i64 a0,.int .i64 a1,.int .i64 a2,.bool a3,.str a4]] .leaf 0 Qe=F_141 N a0 a1 a2 a3 a4:=by kernel_rfl
def u2J (N:Nat):List (PV D)->Bt D->Nat->QL D:=fun args _ _=>match args with|[.agg [.int .i64 a0,.int .i64 a1,.int .i64 a2,.bool a3,.str a4]]=>.opt (Int) (F_141 N a0 a1 a2 a3 a4) default Qn|_=>.bad
theorem u9S (ac:HkS hk)(N:Nat):EOk hk V 141 (u2J N):=fun args B m=>by unfold u2J;split;{exact fun _ h=>eP ac (x0H (KX (u9P ac N) (Kx))) (sz:=59) (by kernel_rfl) rfl rfl rfl rfl (FE_141 N _ _ _ _ _) y0Q rfl h};trivial
theorem FE_251 (N:Nat)(a0:List UInt8)(a1:Int):ZP (D:=D) (x1X []) N (Kh Tryz.prog 251 [[((.tmp 5),(.int .i64)),((.tmp 6),(.int .i64))]]) [.t 4] [.str a0,.int .u8 a1] .leaf 0 Qe=x8C N a0 a1:=by kernel_rfl
def y0M (N:Nat):List (PV D)->Bt D->Nat->QL D:=fun args _ _=>match args with|[.str a0,.int .u8 a1]=>.opt (Int) (x8C N a0 a1) default Qn|_=>.bad
theorem x7E (ac:HkS hk)(N:Nat):EOk hk V 251 (y0M N):=fun args B m=>by unfold y0M;split;{exact fun _ h=>eP ac (x0H (Kx)) (sz:=21) (by kernel_rfl) rfl rfl rfl rfl (FE_251 N _ _) y0Q rfl h};trivial
def K_r1:PV D->Y D->Option (Bool):=fun v _=>match v with|.bool q0=>some q0|_=>none
def O_r1 (r:Bool):PV D:=.bool r
theorem z4U {r:Bool}(v:PV D)(st:Y D)(h:K_r1 v st=some r):v=O_r1 r:=by unfold K_r1 at h;split at h<;>first|(cases h;rfl)|(cases h)
theorem FE_254 (N:Nat)(a0:List UInt8)(a1:Int):ZP (D:=D) (x1X []) N (Kh Tryz.prog 254 [[((.tmp 5),(.int .i64))]]) [.t 4] [.str a0,.int .u8 a1] .leaf 0 K_r1=x2L N a0 a1:=by kernel_rfl
def x4X (N:Nat):List (PV D)->Bt D->Nat->QL D:=fun args _ _=>match args with|[.str a0,.int .u8 a1]=>.opt (Bool) (x2L N a0 a1) default O_r1|_=>.bad
theorem x2R (ac:HkS hk)(N:Nat):EOk hk V 254 (x4X N):=fun args B m=>by unfold x4X;split;{exact fun _ h=>eP ac (x0H (Kx)) (sz:=17) (by kernel_rfl) rfl rfl rfl rfl (FE_254 N _ _) z4U rfl h};trivial
def K_r2:PV D->Y D->Option (List UInt8):=fun v _=>match v with|.str q0=>some q0|_=>none
def O_r2 (r:List UInt8):PV D:=.str r
theorem KO_r2 {r:List UInt8}(v:PV D)(st:Y D)(h:K_r2 v st=some r):v=O_r2 r:=by unfold K_r2 at h;split at h<;>first|(cases h;rfl)|(cases h)
theorem FE_281 (N:Nat)(a0:Int)(a1:Int):ZP (D:=D) (x1X []) N (Kh Tryz.prog 281 [[((.tmp 5),(.rowI 5 .u8)),((.tmp 6),(.int .i64))]]) [.t 4] [.int .u8 a0,.int .i64 a1] .leaf 0 K_r2=y9J N a0 a1:=by kernel_rfl
def u1Q (N:Nat):List (PV D)->Bt D->Nat->QL D:=fun args _ _=>match args with|[.int .u8 a0,.int .i64 a1]=>.opt (List UInt8) (y9J N a0 a1) default O_r2|_=>.bad
theorem u8Y (ac:HkS hk)(N:Nat):EOk hk V 281 (u1Q N):=fun args B m=>by unfold u1Q;split;{exact fun _ h=>eP ac (x0H (Kx)) (sz:=19) (by kernel_rfl) rfl rfl rfl rfl (FE_281 N _ _) KO_r2 rfl h};trivial
def K_r3:PV D->Y D->Option (Int):=fun v _=>match v with|.int .u8 q0=>some q0|_=>none
def O_r3 (r:Int):PV D:=.int .u8 r
theorem KO_r3 {r:Int}(v:PV D)(st:Y D)(h:K_r3 v st=some r):v=O_r3 r:=by unfold K_r3 at h;split at h<;>first|(cases h;rfl)|(cases h)
theorem FE_280 (N:Nat)(a0:Int):ZP (D:=D) (x1X []) N (Kh Tryz.prog 280 []) [.t 2] [.int .u8 a0] .leaf 0 K_r3=y9K N a0:=by kernel_rfl
def u1R (N:Nat):List (PV D)->Bt D->Nat->QL D:=fun args _ _=>match args with|[.int .u8 a0]=>.opt (Int) (y9K N a0) default O_r3|_=>.bad
theorem u8Z (ac:HkS hk)(N:Nat):EOk hk V 280 (u1R N):=fun args B m=>by unfold u1R;split;{exact fun _ h=>eP ac (x0H (Kx)) (sz:=13) (by kernel_rfl) rfl rfl rfl rfl (FE_280 N _) KO_r3 rfl h};trivial
theorem FE_282 (N:Nat)(a0:List UInt8):ZP (D:=D) (x1X []) N (Kh Tryz.prog 282 []) [.t 2] [.str a0] .leaf 0 K_r1=y9H N a0:=by kernel_rfl
def y7T (N:Nat):List (PV D)->Bt D->Nat->QL D:=fun args _ _=>match args with|[.str a0]=>.opt (Bool) (y9H N a0) default O_r1|_=>.bad
theorem y2S (ac:HkS hk)(N:Nat):EOk hk V 282 (y7T N):=fun args B m=>by unfold y7T;split;{exact fun _ h=>eP ac (x0H (Kx)) (sz:=22) (by kernel_rfl) rfl rfl rfl rfl (FE_282 N _) z4U rfl h};trivial
theorem FE_286 (N:Nat)(a0:List UInt8):ZP (D:=D) (x1X [(251,y0M N),(254,x4X N)]) N (Kh Tryz.prog 286 [[((.tmp 3),(.int .i64))]]) [.t 2] [.str a0] .leaf 0 K_r3=z4W N a0:=by kernel_rfl
def y2R (N:Nat):List (PV D)->Bt D->Nat->QL D:=fun args _ _=>match args with|[.str a0]=>.opt (Int) (z4W N a0) default O_r3|_=>.bad
theorem x9R (ac:HkS hk)(N:Nat):EOk hk V 286 (y2R N):=fun args B m=>by unfold y2R;split;{exact fun _ h=>eP ac (x0H (KX (x7E ac N) (KX (x2R ac N) (Kx)))) (sz:=25) (by kernel_rfl) rfl rfl rfl rfl (FE_286 N _) KO_r3 rfl h};trivial
theorem FE_253 (N:Nat)(a0:List UInt8):ZP (D:=D) (x1X [(254,x4X N),(282,y7T N),(286,y2R N)]) N (Kh Tryz.prog 253 [[((.tmp 5),(.rowI 5 .u8)),((.tmp 6),.bool),((.tmp 7),(.int .i64))]]) [.t 2] [.str a0] .leaf 0 K_r2=z9K N a0:=by kernel_rfl
def z3K (N:Nat):List (PV D)->Bt D->Nat->QL D:=fun args _ _=>match args with|[.str a0]=>.opt (List UInt8) (z9K N a0) default O_r2|_=>.bad
theorem z1D (ac:HkS hk)(N:Nat):EOk hk V 253 (z3K N):=fun args B m=>by unfold z3K;split;{exact fun _ h=>eP ac (x0H (KX (x2R ac N) (KX (y2S ac N) (KX (x9R ac N) (Kx))))) (sz:=73) (by kernel_rfl) rfl rfl rfl rfl (FE_253 N _) KO_r2 rfl h};trivial
theorem FE_283 (N:Nat)(a0:List UInt8):ZP (D:=D) (x1X [(251,y0M N),(254,x4X N),(286,y2R N)]) N (Kh Tryz.prog 283 [[((.tmp 4),(.int .i64)),((.tmp 5),(.int .i64)),((.tmp 6),(.int .i64))],[((.tmp 7),(.int .i64))]]) [.t 2] [.str a0] .leaf 0 K_r1=z9J N a0:=by kernel_rfl
def u1P (N:Nat):List (PV D)->Bt D->Nat->QL D:=fun args _ _=>match args with|[.str a0]=>.opt (Bool) (z9J N a0) default O_r1|_=>.bad
theorem u8X (ac:HkS hk)(N:Nat):EOk hk V 283 (u1P N):=fun args B m=>by unfold u1P;split;{exact fun _ h=>eP ac (x0H (KX (x7E ac N) (KX (x2R ac N) (KX (x9R ac N) (Kx))))) (sz:=70) (by kernel_rfl) rfl rfl rfl rfl (FE_283 N _) z4U rfl h};trivial
theorem FE_284 (N:Nat)(a0:List UInt8)(a1:List UInt8):ZP (D:=D) (x1X [(254,x4X N),(286,y2R N)]) N (Kh Tryz.prog 284 [[((.tmp 5),.bool),((.tmp 6),.bool),((.tmp 7),.bool),((.tmp 8),(.int .i64)),((.tmp 9),(.int .i64))]]) [.t 4] [.str a0,.str a1] .leaf 0 K_r1=u3M N a0 a1:=by kernel_rfl
def u1N (N:Nat):List (PV D)->Bt D->Nat->QL D:=fun args _ _=>match args with|[.str a0,.str a1]=>.opt (Bool) (u3M N a0 a1) default O_r1|_=>.bad
theorem u8W (ac:HkS hk)(N:Nat):EOk hk V 284 (u1N N):=fun args B m=>by unfold u1N;split;{exact fun _ h=>eP ac (x0H (KX (x2R ac N) (KX (x9R ac N) (Kx)))) (sz:=67) (by kernel_rfl) rfl rfl rfl rfl (FE_284 N _ _) z4U rfl h};trivial
theorem FE_252 (N:Nat)(a0:List UInt8):ZP (D:=D) (x1X [(251,y0M N),(254,x4X N),(282,y7T N)]) N (Kh Tryz.prog 252 [[((.tmp 4),(.int .i64)),((.tmp 5),(.int .i64))]]) [.t 2] [.str a0] .leaf 0 Qe=z9L N a0:=by kernel_rfl
def z3L (N:Nat):List (PV D)->Bt D->Nat->QL D:=fun args _ _=>match args with|[.str a0]=>.opt (Int) (z9L N a0) default Qn|_=>.bad
theorem z1E (ac:HkS hk)(N:Nat):EOk hk V 252 (z3L N):=fun args B m=>by unfold z3L;split;{exact fun _ h=>eP ac (x0H (KX (x7E ac N) (KX (x2R ac N) (KX (y2S ac N) (Kx))))) (sz:=34) (by kernel_rfl) rfl rfl rfl rfl (FE_252 N _) y0Q rfl h};trivial
theorem FE_285 (N:Nat)(a0:List UInt8)(a1:List UInt8):ZP (D:=D) (x1X [(254,x4X N),(286,y2R N)]) N (Kh Tryz.prog 285 [[((.tmp 6),(.int .i64))],[((.tmp 7),.bool),((.tmp 8),.bool),((.tmp 9),(.int .i64))]]) [.t 4] [.str a0,.str a1] .leaf 0 K_r1=z9H N a0 a1:=by kernel_rfl
def u1M (N:Nat):List (PV D)->Bt D->Nat->QL D:=fun args _ _=>match args with|[.str a0,.str a1]=>.opt (Bool) (z9H N a0 a1) default O_r1|_=>.bad
theorem u8V (ac:HkS hk)(N:Nat):EOk hk V 285 (u1M N):=fun args B m=>by unfold u1M;split;{exact fun _ h=>eP ac (x0H (KX (x2R ac N) (KX (x9R ac N) (Kx)))) (sz:=69) (by kernel_rfl) rfl rfl rfl rfl (FE_285 N _ _) z4U rfl h};trivial
theorem FE_249 (N:Nat)(a0:List UInt8):ZP (D:=D) (x1X [(254,x4X N)]) N (Kh Tryz.prog 249 [[((.tmp 3),(.int .i64))]]) [.t 2] [.str a0] .leaf 0 K_r1=v0U N a0:=by kernel_rfl
def z3M (N:Nat):List (PV D)->Bt D->Nat->QL D:=fun args _ _=>match args with|[.str a0]=>.opt (Bool) (v0U N a0) default O_r1|_=>.bad
theorem z1F (ac:HkS hk)(N:Nat):EOk hk V 249 (z3M N):=fun args B m=>by unfold z3M;split;{exact fun _ h=>eP ac (x0H (KX (x2R ac N) (Kx))) (sz:=21) (by kernel_rfl) rfl rfl rfl rfl (FE_249 N _) z4U rfl h};trivial
theorem FE_250 (N:Nat)(a0:List UInt8):ZP (D:=D) (x1X [(249,z3M N),(251,y0M N),(252,z3L N),(253,z3K N),(254,x4X N),(282,y7T N),(283,u1P N),(284,u1N N),(285,u1M N)]) N (Kh Tryz.prog 250 [[((.tmp 4),(.int .i64))]]) [.t 2] [.str a0] .leaf 0 K_r1=v0T N a0:=by kernel_rfl
def u1T (N:Nat):List (PV D)->Bt D->Nat->QL D:=fun args _ _=>match args with|[.str a0]=>.opt (Bool) (v0T N a0) default O_r1|_=>.bad
theorem u9B (ac:HkS hk)(N:Nat):EOk hk V 250 (u1T N):=fun args B m=>by unfold u1T;split;{exact fun _ h=>eP ac (x0H (KX (z1F ac N) (KX (x7E ac N) (KX (z1E ac N) (KX (z1D ac N) (KX (x2R ac N) (KX (y2S ac N) (KX (u8X ac N) (KX (u8W ac N) (KX (u8V ac N) (Kx))))))))))) (sz:=50) (by kernel_rfl) rfl rfl rfl rfl (FE_250 N _) z4U rfl h};trivial
def K_r4:PV D->Y D->Option (Int×Int):=fun v _=>match v with|.tup [.int .i64 q0,.int .i64 q1]=>some (q0,q1)|_=>none
def O_r4 (r:Int×Int):PV D:=.tup [.int .i64 r.1,.int .i64 r.2]
theorem KO_r4 {r:Int×Int}(v:PV D)(st:Y D)(h:K_r4 v st=some r):v=O_r4 r:=by unfold K_r4 at h;split at h<;>first|(cases h;rfl)|(cases h)
theorem FE_279 (N:Nat)(a0:List UInt8)(a1:Int):ZP (D:=D) (x1X []) N (Kh Tryz.prog 279 [[((.tmp 6),(.int .i64)),((.tmp 7),(.int .i64))]]) [.t 4,.t 5] [.str a0,.int .i64 a1] .leaf 0 K_r4=u3N N a0 a1:=by kernel_rfl
def u1S (N:Nat):List (PV D)->Bt D->Nat->QL D:=fun args _ _=>match args with|[.str a0,.int .i64 a1]=>.opt (Int×Int) (u3N N a0 a1) default O_r4|_=>.bad
theorem u9A (ac:HkS hk)(N:Nat):EOk hk V 279 (u1S N):=fun args B m=>by unfold u1S;split;{exact fun _ h=>eP ac (x0H (Kx)) (sz:=58) (by kernel_rfl) rfl rfl rfl rfl (FE_279 N _ _) KO_r4 rfl h};trivial
def K_r5:PV D->Y D->Option (List UInt8×Int):=fun v _=>match v with|.tup [.str q0,.int .i64 q1]=>some (q0,q1)|_=>none
def O_r5 (r:List UInt8×Int):PV D:=.tup [.str r.1,.int .i64 r.2]
theorem KO_r5 {r:List UInt8×Int}(v:PV D)(st:Y D)(h:K_r5 v st=some r):v=O_r5 r:=by unfold K_r5 at h;split at h<;>first|(cases h;rfl)|(cases h)
theorem FE_248 (N:Nat)(a0:List UInt8):ZP (D:=D) (x1X [(254,x4X N),(280,u1R N),(279,u1S N),(281,u1Q N)]) N (Kh Tryz.prog 248 [[((.tmp 4),.str),((.tmp 5),(.int .i64))]]) [.t 2,.t 3] [.str a0] .leaf 0 K_r5=v8H N a0:=by kernel_rfl
def u1U (N:Nat):List (PV D)->Bt D->Nat->QL D:=fun args _ _=>match args with|[.str a0]=>.opt (List UInt8×Int) (v8H N a0) default O_r5|_=>.bad
theorem u9C (ac:HkS hk)(N:Nat):EOk hk V 248 (u1U N):=fun args B m=>by unfold u1U;split;{exact fun _ h=>eP ac (x0H (KX (x2R ac N) (KX (u8Z ac N) (KX (u9A ac N) (KX (u8Y ac N) (Kx)))))) (sz:=55) (by kernel_rfl) rfl rfl rfl rfl (FE_248 N _) KO_r5 rfl h};trivial
theorem FE_140 (N:Nat)(a0:Int)(a1:Int)(a2:Int)(a3:Bool)(a4:List UInt8):ZP (D:=D) (x1X []) N (Kh Tryz.prog 140 []) [.t 2] [.agg [.int .i64 a0,.int .i64 a1,.int .i64 a2,.bool a3,.str a4]] .leaf 0 K_r1=F_140 N a0 a1 a2 a3 a4:=by kernel_rfl
def u2K (N:Nat):List (PV D)->Bt D->Nat->QL D:=fun args _ _=>match args with|[.agg [.int .i64 a0,.int .i64 a1,.int .i64 a2,.bool a3,.str a4]]=>.opt (Bool) (F_140 N a0 a1 a2 a3 a4) default O_r1|_=>.bad
theorem u9T (ac:HkS hk)(N:Nat):EOk hk V 140 (u2K N):=fun args B m=>by unfold u2K;split;{exact fun _ h=>eP ac (x0H (Kx)) (sz:=11) (by kernel_rfl) rfl rfl rfl rfl (FE_140 N _ _ _ _ _) z4U rfl h};trivial
theorem FE_235 (N:Nat)(a0:Int)(a1:Int)(a2:Int)(a3:Bool)(a4:List UInt8):ZP (D:=D) (x1X []) N (Kh Tryz.prog 235 []) [.t 2] [.agg [.int .i64 a0,.int .i64 a1,.int .i64 a2,.bool a3,.str a4]] .leaf 0 Qe=F_235 N a0 a1 a2 a3 a4:=by kernel_rfl
def u1X (N:Nat):List (PV D)->Bt D->Nat->QL D:=fun args _ _=>match args with|[.agg [.int .i64 a0,.int .i64 a1,.int .i64 a2,.bool a3,.str a4]]=>.opt (Int) (F_235 N a0 a1 a2 a3 a4) default Qn|_=>.bad
theorem u9F (ac:HkS hk)(N:Nat):EOk hk V 235 (u1X N):=fun args B m=>by unfold u1X;split;{exact fun _ h=>eP ac (x0H (Kx)) (sz:=53) (by kernel_rfl) rfl rfl rfl rfl (FE_235 N _ _ _ _ _) y0Q rfl h};trivial
theorem FE_200 (N:Nat)(a0:Int)(a1:Int)(a2:Int)(a3:Bool)(a4:List UInt8):ZP (D:=D) (x1X [(235,u1X N)]) N (Kh Tryz.prog 200 []) [.t 2] [.agg [.int .i64 a0,.int .i64 a1,.int .i64 a2,.bool a3,.str a4]] .leaf 0 K_r1=F_200 N a0 a1 a2 a3 a4:=by kernel_rfl
def u2B (N:Nat):List (PV D)->Bt D->Nat->QL D:=fun args _ _=>match args with|[.agg [.int .i64 a0,.int .i64 a1,.int .i64 a2,.bool a3,.str a4]]=>.opt (Bool) (F_200 N a0 a1 a2 a3 a4) default O_r1|_=>.bad
theorem u9K (ac:HkS hk)(N:Nat):EOk hk V 200 (u2B N):=fun args B m=>by unfold u2B;split;{exact fun _ h=>eP ac (x0H (KX (u9F ac N) (Kx))) (sz:=6) (by kernel_rfl) rfl rfl rfl rfl (FE_200 N _ _ _ _ _) z4U rfl h};trivial
def K_r6:PV D->Y D->Option ((List UInt8×Bool×Int×Int×Int×Bool)×Int):=fun v _=>match v with|.tup [.agg [.str q0,.bool q1,.int .i64 q2,.int .i64 q3,.int .i64 q4,.bool q5],.int .i64 q6]=>some ((q0,q1,q2,q3,q4,q5),q6)|_=>none
def O_r6 (r:(List UInt8×Bool×Int×Int×Int×Bool)×Int):PV D:=.tup [.agg [.str r.1.1,.bool r.1.2.1,.int .i64 r.1.2.2.1,.int .i64 r.1.2.2.2.1,.int .i64 r.1.2.2.2.2.1,.bool r.1.2.2.2.2.2],.int .i64 r.2]
theorem KO_r6 {r:(List UInt8×Bool×Int×Int×Int×Bool)×Int}(v:PV D)(st:Y D)(h:K_r6 v st=some r):v=O_r6 r:=by unfold K_r6 at h;split at h<;>first|(cases h;rfl)|(cases h)
theorem FE_218 (N:Nat)(a0:List UInt8):ZP (D:=D) (x1X [(248,u1U N),(249,z3M N),(250,u1T N),(251,y0M N),(252,z3L N),(253,z3K N),(254,x4X N)]) N (Kh Tryz.prog 218 [[((.tmp 8),(.int .i64)),((.cell 1 0),.str),((.cell 1 1),.bool),((.cell 1 2),(.int .i64)),((.cell 1 3),(.int .i64)),((.cell 1 4),(.int .i64)),((.cell 1 5),.bool)]]) [.c 2 6 true,.t 3] [.str a0] .leaf 0 K_r6=v0V N a0:=by kernel_rfl
def z3N (N:Nat):List (PV D)->Bt D->Nat->QL D:=fun args _ _=>match args with|[.str a0]=>.opt ((List UInt8×Bool×Int×Int×Int×Bool)×Int) (v0V N a0) default O_r6|_=>.bad
theorem z1G (ac:HkS hk)(N:Nat):EOk hk V 218 (z3N N):=fun args B m=>by unfold z3N;split;{exact fun _ h=>eP ac (x0H (KX (u9C ac N) (KX (z1F ac N) (KX (u9B ac N) (KX (x7E ac N) (KX (z1E ac N) (KX (z1D ac N) (KX (x2R ac N) (Kx))))))))) (sz:=69) (by kernel_rfl) rfl rfl rfl rfl (FE_218 N _) KO_r6 rfl h};trivial
theorem FE_201 (N:Nat)(a0:List UInt8):ZP (D:=D) (x1X [(218,z3N N)]) N (Kh Tryz.prog 201 []) [.t 2] [.str a0] .leaf 0 Qe=v8J N a0:=by kernel_rfl
def u2A (N:Nat):List (PV D)->Bt D->Nat->QL D:=fun args _ _=>match args with|[.str a0]=>.opt (Int) (v8J N a0) default Qn|_=>.bad
theorem u9J (ac:HkS hk)(N:Nat):EOk hk V 201 (u2A N):=fun args B m=>by unfold u2A;split;{exact fun _ h=>eP ac (x0H (KX (z1G ac N) (Kx))) (sz:=11) (by kernel_rfl) rfl rfl rfl rfl (FE_201 N _) y0Q rfl h};trivial
theorem FE_178 (N:Nat)(a0:Int)(a1:Int)(a2:Int)(a3:Bool)(a4:List UInt8):ZP (D:=D) (x1X [(200,u2B N),(201,u2A N)]) N (Kh Tryz.prog 178 []) [.t 2] [.agg [.int .i64 a0,.int .i64 a1,.int .i64 a2,.bool a3,.str a4]] .leaf 0 Qe=v8K N a0 a1 a2 a3 a4:=by kernel_rfl
def u2E (N:Nat):List (PV D)->Bt D->Nat->QL D:=fun args _ _=>match args with|[.agg [.int .i64 a0,.int .i64 a1,.int .i64 a2,.bool a3,.str a4]]=>.opt (Int) (v8K N a0 a1 a2 a3 a4) default Qn|_=>.bad
theorem u9N (ac:HkS hk)(N:Nat):EOk hk V 178 (u2E N):=fun args B m=>by unfold u2E;split;{exact fun _ h=>eP ac (x0H (KX (u9K ac N) (KX (u9J ac N) (Kx)))) (sz:=81) (by kernel_rfl) rfl rfl rfl rfl (FE_178 N _ _ _ _ _) y0Q rfl h};trivial
theorem FE_147 (N:Nat)(a0:Int)(a1:Int)(a2:Int)(a3:Bool)(a4:List UInt8):ZP (D:=D) (x1X [(178,u2E N)]) N (Kh Tryz.prog 147 []) [.t 2] [.agg [.int .i64 a0,.int .i64 a1,.int .i64 a2,.bool a3,.str a4]] .leaf 0 Qe=v0X N a0 a1 a2 a3 a4:=by kernel_rfl
def z3R (N:Nat):List (PV D)->Bt D->Nat->QL D:=fun args _ _=>match args with|[.agg [.int .i64 a0,.int .i64 a1,.int .i64 a2,.bool a3,.str a4]]=>.opt (Int) (v0X N a0 a1 a2 a3 a4) default Qn|_=>.bad
theorem y2U (ac:HkS hk)(N:Nat):EOk hk V 147 (z3R N):=fun args B m=>by unfold z3R;split;{exact fun _ h=>eP ac (x0H (KX (u9N ac N) (Kx))) (sz:=36) (by kernel_rfl) rfl rfl rfl rfl (FE_147 N _ _ _ _ _) y0Q rfl h};trivial
def K_r7:PV D->Y D->Option (Int×Bool):=fun v _=>match v with|.tup [.int .i64 q0,.bool q1]=>some (q0,q1)|_=>none
def O_r7 (r:Int×Bool):PV D:=.tup [.int .i64 r.1,.bool r.2]
theorem KO_r7 {r:Int×Bool}(v:PV D)(st:Y D)(h:K_r7 v st=some r):v=O_r7 r:=by unfold K_r7 at h;split at h<;>first|(cases h;rfl)|(cases h)
theorem FE_202 (N:Nat)(a0:Int)(a1:Int):ZP (D:=D) (x1X []) N (Kh Tryz.prog 202 []) [.t 4,.t 5] [.int .i64 a0,.int .i32 a1] .leaf 0 K_r7=u3P N a0 a1:=by kernel_rfl
def u1Z (N:Nat):List (PV D)->Bt D->Nat->QL D:=fun args _ _=>match args with|[.int .i64 a0,.int .i32 a1]=>.opt (Int×Bool) (u3P N a0 a1) default O_r7|_=>.bad
theorem u9H (ac:HkS hk)(N:Nat):EOk hk V 202 (u1Z N):=fun args B m=>by unfold u1Z;split;{exact fun _ h=>eP ac (x0H (Kx)) (sz:=29) (by kernel_rfl) rfl rfl rfl rfl (FE_202 N _ _) KO_r7 rfl h};trivial
def ent_93 (N:Nat):List (PV D)->Bt D->Nat->QL D:=fun args _ _=>match args with|[.int .i64 a0,.int .i64 a1]=>.opt (Int) (F_93 N a0 a1) default Qn|_=>.bad
theorem FE_177 (N:Nat)(a0:List UInt8)(a1:List UInt8):ZP (D:=D) (x1X []) N (Kh Tryz.prog 177 [[((.tmp 17),(.int .i64))]]) [.t 4] [.str a0,.str a1] .leaf 0 K_r1=F_177 N a0 a1:=by kernel_rfl
def ent_177 (N:Nat):List (PV D)->Bt D->Nat->QL D:=fun args _ _=>match args with|[.str a0,.str a1]=>.opt (Bool) (F_177 N a0 a1) default O_r1|_=>.bad
theorem ent_177_ok (ac:HkS hk)(N:Nat):EOk hk V 177 (ent_177 N):=fun args B m=>by unfold ent_177;split;{exact fun _ h=>eP ac (x0H (Kx)) (sz:=69) (by kernel_rfl) rfl rfl rfl rfl (FE_177 N _ _) z4U rfl h};trivial
def z8B (N:Nat):List (PV D)->Bt D->Nat->QL D:=fun args B m=>Zr (x1X [(236,y2T N)]) N (Kh Tryz.prog 203 [[((.tmp 0),(.rowI 5 .u8)),((.tmp 32),(.int .i64))]]) [.t 6,.t 7] 41 (.tup [.nils,(.bool false)]) args B m
theorem z8A (ac:HkS hk)(N:Nat):EOk hk V 203 (z8B N):=fun args B m=>Zt ac (x0H (KX (x9S ac N) (Kx))) (by kernel_rfl) rfl args B m
def z8F (N:Nat):List (PV D)->Bt D->Nat->QL D:=fun args B m=>Zr (x1X [(202,u1Z N),(203,z8B N)]) N (Kh Tryz.prog 180 [[((.tmp 4),(.rowI 5 .u8)),((.tmp 5),(.int .i64)),((.tmp 6),(.int .i64)),((.tmp 7),.bool),((.row 1),.iter)]]) [.t 2,.t 3] 74 (.tup [(.str []),(.bool false)]) args B m
theorem z8E (ac:HkS hk)(N:Nat):EOk hk V 180 (z8F N):=fun args B m=>Zt ac (x0H (KX (u9H ac N) (KX (z8A ac N) (Kx)))) (by kernel_rfl) rfl args B m
def z7Z (N:Nat):List (PV D)->Bt D->Nat->QL D:=fun args B m=>Zr (x1X [(214,z3P N),(236,y2T N),(244,u1W N),(245,u1V N)]) N (Kh Tryz.prog 213 [[((.tmp 16),(.int .i64)),((.cell 2 0),.str),((.cell 2 1),.bool),((.cell 2 2),(.int .i64)),((.cell 2 3),(.int .i64)),((.cell 2 4),(.int .i64)),((.cell 2 5),.bool),((.cell 2 7),(.int .u8)),((.cell 2 8),(.int .i64)),((.cell 2 9),.bool),((.cell 2 10),(.int .u8)),((.cell 2 11),(.int .i64))],[((.tmp 60),(.int .i64))]]) [.t 4] 74 (.bool false) args B m
theorem z7Y (ac:HkS hk)(N:Nat):EOk hk V 213 (z7Z N):=fun args B m=>Zt ac (x0H (KX (z1H ac N) (KX (x9S ac N) (KX (u9E ac N) (KX (u9D ac N) (Kx)))))) (by kernel_rfl) rfl args B m
def z7R (N:Nat):List (PV D)->Bt D->Nat->QL D:=fun args B m=>Zr (x1X [(236,y2T N)]) N (Kh Tryz.prog 247 []) [.t 6] 51 (.int .i64 0) args B m
theorem z7Q (ac:HkS hk)(N:Nat):EOk hk V 247 (z7R N):=fun args B m=>Zt ac (x0H (KX (x9S ac N) (Kx))) (by kernel_rfl) rfl args B m
def z7X (N:Nat):List (PV D)->Bt D->Nat->QL D:=fun args B m=>Zr (x1X [(247,z7R N)]) N (Kh Tryz.prog 215 [[((.tmp 5),(.int .i64)),((.tmp 6),.bool),((.tmp 13),(.int .i64)),((.cell 2 0),.str),((.cell 2 1),.bool),((.cell 2 2),(.int .i64)),((.cell 2 3),(.int .i64)),((.cell 2 4),(.int .i64)),((.cell 2 5),.bool),((.cell 2 6),(.rowI 248 .i64)),((.cell 2 7),(.int .u8)),((.cell 2 8),(.int .i64)),((.cell 2 9),.bool),((.cell 2 10),(.int .u8)),((.cell 2 11),(.int .i64))]]) [.t 4] 122 (.bool false) args B m
theorem z7W (ac:HkS hk)(N:Nat):EOk hk V 215 (z7X N):=fun args B m=>Zt ac (x0H (KX (z7Q ac N) (Kx))) (by kernel_rfl) rfl args B m
def z7V (N:Nat):List (PV D)->Bt D->Nat->QL D:=fun args B m=>Zr (x1X []) N (Kh Tryz.prog 216 [[((.tmp 5),(.int .i64)),((.tmp 6),(.int .i64)),((.tmp 18),(.int .i64))],[((.tmp 49),(.int .i64))]]) [.t 4] 79 (.bool false) args B m
theorem z7U (ac:HkS hk)(N:Nat):EOk hk V 216 (z7V N):=fun args B m=>Zt ac (x0H (Kx)) (by kernel_rfl) rfl args B m
def z7T (N:Nat):List (PV D)->Bt D->Nat->QL D:=fun args B m=>Zr (x1X [(236,y2T N)]) N (Kh Tryz.prog 217 [[((.tmp 5),(.int .i64)),((.tmp 11),(.int .i64))]]) [.t 4] 39 (.int .i64 0) args B m
theorem z7S (ac:HkS hk)(N:Nat):EOk hk V 217 (z7T N):=fun args B m=>Zt ac (x0H (KX (x9S ac N) (Kx))) (by kernel_rfl) rfl args B m
def z8D (N:Nat):List (PV D)->Bt D->Nat->QL D:=fun args B m=>Zr (x1X [(182,z3Q N),(212,u1Y N),(213,z7Z N),(214,z3P N),(215,z7X N),(216,z7V N),(217,z7T N)]) N (Kh Tryz.prog 183 []) [.t 2,.t 3] 114 (.tup [.nilp,(.bool false)]) args B m
theorem z8C (ac:HkS hk)(N:Nat):EOk hk V 183 (z8D N):=fun args B m=>Zt ac (x0H (KX (z1J ac N) (KX (u9G ac N) (KX (z7Y ac N) (KX (z1H ac N) (KX (z7W ac N) (KX (z7U ac N) (KX (z7S ac N) (Kx))))))))) (by kernel_rfl) rfl args B m
def z8H (N:Nat):List (PV D)->Bt D->Nat->QL D:=fun args B m=>Zr (x1X [(180,z8F N),(181,u2D N),(182,z3Q N),(183,z8D N)]) N (Kh Tryz.prog 155 []) [.t 2,.t 3] 30 (.tup [.nilp,(.bool false)]) args B m
theorem z8G (ac:HkS hk)(N:Nat):EOk hk V 155 (z8H N):=fun args B m=>Zt ac (x0H (KX (z8E ac N) (KX (u9M ac N) (KX (z1J ac N) (KX (z8C ac N) (Kx)))))) (by kernel_rfl) rfl args B m
theorem FE_112 (N:Nat)(a0:List UInt8):ZP (D:=D) (x1X [(155,z8H N)]) N (Kh Tryz.prog 112 []) [.c 2 6 true,.t 3] [.str a0] .leaf 0 K_r6=v8M N a0:=by kernel_rfl
def z3S (N:Nat):List (PV D)->Bt D->Nat->QL D:=fun args _ _=>match args with|[.str a0]=>.opt ((List UInt8×Bool×Int×Int×Int×Bool)×Int) (v8M N a0) default O_r6|_=>.bad
theorem z1L (ac:HkS hk)(N:Nat):EOk hk V 112 (z3S N):=fun args B m=>by unfold z3S;split;{exact fun _ h=>eP ac (x0H (KX (z8G ac N) (Kx))) (sz:=18) (by kernel_rfl) rfl rfl rfl rfl (FE_112 N _) KO_r6 rfl h};trivial
theorem FE_142 (N:Nat)(a0:List UInt8):ZP (D:=D) (x1X [(112,z3S N)]) N (Kh Tryz.prog 142 []) [.t 2] [.str a0] .leaf 0 Qe=v8L N a0:=by kernel_rfl
def u2H (N:Nat):List (PV D)->Bt D->Nat->QL D:=fun args _ _=>match args with|[.str a0]=>.opt (Int) (v8L N a0) default Qn|_=>.bad
theorem u9R (ac:HkS hk)(N:Nat):EOk hk V 142 (u2H N):=fun args B m=>by unfold u2H;split;{exact fun _ h=>eP ac (x0H (KX (z1L ac N) (Kx))) (sz:=11) (by kernel_rfl) rfl rfl rfl rfl (FE_142 N _) y0Q rfl h};trivial
theorem FE_84 (N:Nat)(a0:Int)(a1:Int)(a2:Int)(a3:Bool)(a4:List UInt8):ZP (D:=D) (x1X [(140,u2K N),(141,u2J N),(142,u2H N)]) N (Kh Tryz.prog 84 []) [.t 2] [.agg [.int .i64 a0,.int .i64 a1,.int .i64 a2,.bool a3,.str a4]] .leaf 0 Qe=F_84 N a0 a1 a2 a3 a4:=by kernel_rfl
def u6D (N:Nat):List (PV D)->Bt D->Nat->QL D:=fun args _ _=>match args with|[.agg [.int .i64 a0,.int .i64 a1,.int .i64 a2,.bool a3,.str a4]]=>.opt (Int) (F_84 N a0 a1 a2 a3 a4) default Qn|_=>.bad
theorem y7S (ac:HkS hk)(N:Nat):EOk hk V 84 (u6D N):=fun args B m=>by unfold u6D;split;{exact fun _ h=>eP ac (x0H (KX (u9T ac N) (KX (u9S ac N) (KX (u9R ac N) (Kx))))) (sz:=81) (by kernel_rfl) rfl rfl rfl rfl (FE_84 N _ _ _ _ _) y0Q rfl h};trivial
theorem FE_132 (N:Nat)(a0:Int)(a1:Int)(a2:Int)(a3:Bool)(a4:List UInt8):ZP (D:=D) (x1X [(84,u6D N)]) N (Kh Tryz.prog 132 []) [.t 2] [.agg [.int .i64 a0,.int .i64 a1,.int .i64 a2,.bool a3,.str a4]] .leaf 0 K_r1=F_132 N a0 a1 a2 a3 a4:=by kernel_rfl
def ent_132 (N:Nat):List (PV D)->Bt D->Nat->QL D:=fun args _ _=>match args with|[.agg [.int .i64 a0,.int .i64 a1,.int .i64 a2,.bool a3,.str a4]]=>.opt (Bool) (F_132 N a0 a1 a2 a3 a4) default O_r1|_=>.bad
theorem ent_132_ok (ac:HkS hk)(N:Nat):EOk hk V 132 (ent_132 N):=fun args B m=>by unfold ent_132;split;{exact fun _ h=>eP ac (x0H (KX (y7S ac N) (Kx))) (sz:=11) (by kernel_rfl) rfl rfl rfl rfl (FE_132 N _ _ _ _ _) z4U rfl h};trivial
theorem FE_175 (N:Nat)(a0:Int)(a1:Int)(a2:Int)(a3:Bool)(a4:List UInt8):ZP (D:=D) (x1X [(195,ent_195 N)]) N (Kh Tryz.prog 175 []) [.t 2] [.agg [.int .i64 a0,.int .i64 a1,.int .i64 a2,.bool a3,.str a4]] .leaf 0 Qe=F_175 N a0 a1 a2 a3 a4:=by kernel_rfl
def ent_175 (N:Nat):List (PV D)->Bt D->Nat->QL D:=fun args _ _=>match args with|[.agg [.int .i64 a0,.int .i64 a1,.int .i64 a2,.bool a3,.str a4]]=>.opt (Int) (F_175 N a0 a1 a2 a3 a4) default Qn|_=>.bad
theorem ent_175_ok (ac:HkS hk)(N:Nat):EOk hk V 175 (ent_175 N):=fun args B m=>by unfold ent_175;split;{exact fun _ h=>eP ac (x0H (KX (ent_195_ok ac N) (Kx))) (sz:=13) (by kernel_rfl) rfl rfl rfl rfl (FE_175 N _ _ _ _ _) y0Q rfl h};trivial
theorem FE_143 (N:Nat)(a0:Int)(a1:List UInt8)(a2:Int)(a3:Int)(a4:Int)(a5:Bool)(a6:List UInt8):ZP (D:=D) (x1X [(141,u2J N),(175,ent_175 N)]) N (Kh Tryz.prog 143 []) [.t 4] [.agg [.int .i64 a0,.str a1],.agg [.int .i64 a2,.int .i64 a3,.int .i64 a4,.bool a5,.str a6]] .leaf 0 Qe=F_143 N a0 a1 a2 a3 a4 a5 a6:=by kernel_rfl
def ent_143 (N:Nat):List (PV D)->Bt D->Nat->QL D:=fun args _ _=>match args with|[.agg [.int .i64 a0,.str a1],.agg [.int .i64 a2,.int .i64 a3,.int .i64 a4,.bool a5,.str a6]]=>.opt (Int) (F_143 N a0 a1 a2 a3 a4 a5 a6) default Qn|_=>.bad
theorem ent_143_ok (ac:HkS hk)(N:Nat):EOk hk V 143 (ent_143 N):=fun args B m=>by unfold ent_143;split;{exact fun _ h=>eP ac (x0H (KX (u9S ac N) (KX (ent_175_ok ac N) (Kx)))) (sz:=30) (by kernel_rfl) rfl rfl rfl rfl (FE_143 N _ _ _ _ _ _ _) y0Q rfl h};trivial
theorem FE_138 (N:Nat)(a0:List UInt8):ZP (D:=D) (x1X []) N (Kh Tryz.prog 138 [[((.tmp 6),(.int .i64))]]) [.t 2] [.str a0] .leaf 0 K_r1=F_138 N a0:=by kernel_rfl
def ent_138 (N:Nat):List (PV D)->Bt D->Nat->QL D:=fun args _ _=>match args with|[.str a0]=>.opt (Bool) (F_138 N a0) default O_r1|_=>.bad
theorem ent_138_ok (ac:HkS hk)(N:Nat):EOk hk V 138 (ent_138 N):=fun args B m=>by unfold ent_138;split;{exact fun _ h=>eP ac (x0H (Kx)) (sz:=20) (by kernel_rfl) rfl rfl rfl rfl (FE_138 N _) z4U rfl h};trivial
def K_r9:PV D->Y D->Option (Int):=fun v _=>match v with|.int .u64 q0=>some q0|_=>none
def O_r9 (r:Int):PV D:=.int .u64 r
theorem KO_r9 {r:Int}(v:PV D)(st:Y D)(h:K_r9 v st=some r):v=O_r9 r:=by unfold K_r9 at h;split at h<;>first|(cases h;rfl)|(cases h)
theorem FE_312 (N:Nat)(a0:Int):ZP (D:=D) (x1X []) N (Kh Tryz.prog 312 []) [.t 2] [.int .i64 a0] .leaf 0 K_r9=F_312 N a0:=by kernel_rfl
def ent_312 (N:Nat):List (PV D)->Bt D->Nat->QL D:=fun args _ _=>match args with|[.int .i64 a0]=>.opt (Int) (F_312 N a0) default O_r9|_=>.bad
theorem ent_312_ok (ac:HkS hk)(N:Nat):EOk hk V 312 (ent_312 N):=fun args B m=>by unfold ent_312;split;{exact fun _ h=>eP ac (x0H (Kx)) (sz:=12) (by kernel_rfl) rfl rfl rfl rfl (FE_312 N _) KO_r9 rfl h};trivial
theorem FE_301 (N:Nat)(a0:Int)(a1:Int):ZP (D:=D) (x1X [(312,ent_312 N)]) N (Kh Tryz.prog 301 [[((.tmp 5),(.int .u64)),((.tmp 7),(.int .i64)),((.row 0),(.rowI 5 .u8))]]) [.t 4] [.int .i64 a0,.int .i64 a1] .leaf 0 K_r2=F_301 N a0 a1:=by kernel_rfl
def ent_301 (N:Nat):List (PV D)->Bt D->Nat->QL D:=fun args _ _=>match args with|[.int .i64 a0,.int .i64 a1]=>.opt (List UInt8) (F_301 N a0 a1) default O_r2|_=>.bad
theorem ent_301_ok (ac:HkS hk)(N:Nat):EOk hk V 301 (ent_301 N):=fun args B m=>by unfold ent_301;split;{exact fun _ h=>eP ac (x0H (KX (ent_312_ok ac N) (Kx))) (sz:=29) (by kernel_rfl) rfl rfl rfl rfl (FE_301 N _ _) KO_r2 rfl h};trivial
theorem FE_306 (N:Nat)(a0:Int)(a1:Bool):ZP (D:=D) (x1X []) N (Kh Tryz.prog 306 []) [.t 4] [.int .u8 a0,.bool a1] .leaf 0 K_r3=F_306 N a0 a1:=by kernel_rfl
def ent_306 (N:Nat):List (PV D)->Bt D->Nat->QL D:=fun args _ _=>match args with|[.int .u8 a0,.bool a1]=>.opt (Int) (F_306 N a0 a1) default O_r3|_=>.bad
theorem ent_306_ok (ac:HkS hk)(N:Nat):EOk hk V 306 (ent_306 N):=fun args B m=>by unfold ent_306;split;{exact fun _ h=>eP ac (x0H (Kx)) (sz:=12) (by kernel_rfl) rfl rfl rfl rfl (FE_306 N _ _) KO_r3 rfl h};trivial
theorem FE_305 (N:Nat)(a0:Int)(a1:Int)(a2:Bool):ZP (D:=D) (x1X [(254,x4X N),(306,ent_306 N)]) N (Kh Tryz.prog 305 []) [.t 6] [.int .u8 a0,.int .u8 a1,.bool a2] .leaf 0 K_r3=F_305 N a0 a1 a2:=by kernel_rfl
def ent_305 (N:Nat):List (PV D)->Bt D->Nat->QL D:=fun args _ _=>match args with|[.int .u8 a0,.int .u8 a1,.bool a2]=>.opt (Int) (F_305 N a0 a1 a2) default O_r3|_=>.bad
theorem ent_305_ok (ac:HkS hk)(N:Nat):EOk hk V 305 (ent_305 N):=fun args B m=>by unfold ent_305;split;{exact fun _ h=>eP ac (x0H (KX (x2R ac N) (KX (ent_306_ok ac N) (Kx)))) (sz:=21) (by kernel_rfl) rfl rfl rfl rfl (FE_305 N _ _ _) KO_r3 rfl h};trivial
def K_r10:PV D->Y D->Option (Int×Bool):=fun v _=>match v with|.tup [.int .u8 q0,.bool q1]=>some (q0,q1)|_=>none
def O_r10 (r:Int×Bool):PV D:=.tup [.int .u8 r.1,.bool r.2]
theorem KO_r10 {r:Int×Bool}(v:PV D)(st:Y D)(h:K_r10 v st=some r):v=O_r10 r:=by unfold K_r10 at h;split at h<;>first|(cases h;rfl)|(cases h)
theorem FE_313 (N:Nat)(a0:Int)(a1:Bool):ZP (D:=D) (x1X []) N (Kh Tryz.prog 313 []) [.t 4,.t 5] [.int .i64 a0,.bool a1] .leaf 0 K_r10=F_313 N a0 a1:=by kernel_rfl
def ent_313 (N:Nat):List (PV D)->Bt D->Nat->QL D:=fun args _ _=>match args with|[.int .i64 a0,.bool a1]=>.opt (Int×Bool) (F_313 N a0 a1) default O_r10|_=>.bad
theorem ent_313_ok (ac:HkS hk)(N:Nat):EOk hk V 313 (ent_313 N):=fun args B m=>by unfold ent_313;split;{exact fun _ h=>eP ac (x0H (Kx)) (sz:=17) (by kernel_rfl) rfl rfl rfl rfl (FE_313 N _ _) KO_r10 rfl h};trivial
theorem FE_304 (N:Nat)(a0:Int)(a1:Int)(a2:Bool):ZP (D:=D) (x1X [(313,ent_313 N)]) N (Kh Tryz.prog 304 []) [.t 6] [.int .u8 a0,.int .u8 a1,.bool a2] .leaf 0 K_r3=F_304 N a0 a1 a2:=by kernel_rfl
def ent_304 (N:Nat):List (PV D)->Bt D->Nat->QL D:=fun args _ _=>match args with|[.int .u8 a0,.int .u8 a1,.bool a2]=>.opt (Int) (F_304 N a0 a1 a2) default O_r3|_=>.bad
theorem ent_304_ok (ac:HkS hk)(N:Nat):EOk hk V 304 (ent_304 N):=fun args B m=>by unfold ent_304;split;{exact fun _ h=>eP ac (x0H (KX (ent_313_ok ac N) (Kx))) (sz:=42) (by kernel_rfl) rfl rfl rfl rfl (FE_304 N _ _ _) KO_r3 rfl h};trivial
theorem FE_303 (N:Nat)(a0:List UInt8):ZP (D:=D) (x1X [(254,x4X N)]) N (Kh Tryz.prog 303 []) [.t 2] [.str a0] .leaf 0 K_r3=F_303 N a0:=by kernel_rfl
def ent_303 (N:Nat):List (PV D)->Bt D->Nat->QL D:=fun args _ _=>match args with|[.str a0]=>.opt (Int) (F_303 N a0) default O_r3|_=>.bad
theorem ent_303_ok (ac:HkS hk)(N:Nat):EOk hk V 303 (ent_303 N):=fun args B m=>by unfold ent_303;split;{exact fun _ h=>eP ac (x0H (KX (x2R ac N) (Kx))) (sz:=5) (by kernel_rfl) rfl rfl rfl rfl (FE_303 N _) KO_r3 rfl h};trivial
theorem FE_302 (N:Nat)(a0:List UInt8)(a1:Bool)(a2:Int)(a3:Int)(a4:Int)(a5:Bool)(a6:List UInt8):ZP (D:=D) (x1X [(253,z3K N),(254,x4X N),(281,u1Q N)]) N (Kh Tryz.prog 302 [[((.tmp 6),(.int .i64)),((.tmp 7),(.int .i64)),((.tmp 8),(.int .i64))]]) [.t 4] [.agg [.str a0,.bool a1,.int .i64 a2,.int .i64 a3,.int .i64 a4,.bool a5],.str a6] .leaf 0 Qe=F_302 N a0 a1 a2 a3 a4 a5 a6:=by kernel_rfl
def ent_302 (N:Nat):List (PV D)->Bt D->Nat->QL D:=fun args _ _=>match args with|[.agg [.str a0,.bool a1,.int .i64 a2,.int .i64 a3,.int .i64 a4,.bool a5],.str a6]=>.opt (Int) (F_302 N a0 a1 a2 a3 a4 a5 a6) default Qn|_=>.bad
theorem ent_302_ok (ac:HkS hk)(N:Nat):EOk hk V 302 (ent_302 N):=fun args B m=>by unfold ent_302;split;{exact fun _ h=>eP ac (x0H (KX (z1D ac N) (KX (x2R ac N) (KX (u8Y ac N) (Kx))))) (sz:=65) (by kernel_rfl) rfl rfl rfl rfl (FE_302 N _ _ _ _ _ _ _) y0Q rfl h};trivial
theorem FE_290 (N:Nat)(a0:List UInt8)(a1:Bool)(a2:Int)(a3:Int)(a4:Int)(a5:Bool)(a6:Int):ZP (D:=D) (x1X [(253,z3K N),(254,x4X N),(281,u1Q N),(286,y2R N),(301,ent_301 N),(302,ent_302 N),(303,ent_303 N),(304,ent_304 N),(305,ent_305 N),(306,ent_306 N)]) N (Kh Tryz.prog 290 [[((.tmp 10),(.rowI 5 .u8)),((.tmp 11),(.int .i64)),((.tmp 12),(.int .i64))]]) [.t 4] [.agg [.str a0,.bool a1,.int .i64 a2,.int .i64 a3,.int .i64 a4,.bool a5],.int .i64 a6] .leaf 0 K_r2=F_290 N a0 a1 a2 a3 a4 a5 a6:=by kernel_rfl
def ent_290 (N:Nat):List (PV D)->Bt D->Nat->QL D:=fun args _ _=>match args with|[.agg [.str a0,.bool a1,.int .i64 a2,.int .i64 a3,.int .i64 a4,.bool a5],.int .i64 a6]=>.opt (List UInt8) (F_290 N a0 a1 a2 a3 a4 a5 a6) default O_r2|_=>.bad
theorem ent_290_ok (ac:HkS hk)(N:Nat):EOk hk V 290 (ent_290 N):=fun args B m=>by unfold ent_290;split;{exact fun _ h=>eP ac (x0H (KX (z1D ac N) (KX (x2R ac N) (KX (u8Y ac N) (KX (x9R ac N) (KX (ent_301_ok ac N) (KX (ent_302_ok ac N) (KX (ent_303_ok ac N) (KX (ent_304_ok ac N) (KX (ent_305_ok ac N) (KX (ent_306_ok ac N) (Kx)))))))))))) (sz:=156) (by kernel_rfl) rfl rfl rfl rfl (FE_290 N _ _ _ _ _ _ _) KO_r2 rfl h};trivial
def K_r11:PV D->Y D->Option (Int×Bool×Bool):=fun v _=>match v with|.tup [.int .i64 q0,.bool q1,.bool q2]=>some (q0,q1,q2)|_=>none
def O_r11 (r:Int×Bool×Bool):PV D:=.tup [.int .i64 r.1,.bool r.2.1,.bool r.2.2]
theorem KO_r11 {r:Int×Bool×Bool}(v:PV D)(st:Y D)(h:K_r11 v st=some r):v=O_r11 r:=by unfold K_r11 at h;split at h<;>first|(cases h;rfl)|(cases h)
theorem FE_289 (N:Nat)(a0:Int):ZP (D:=D) (x1X []) N (Kh Tryz.prog 289 [[((.tmp 5),(.int .i64))]]) [.t 2,.t 3,.t 4] [.int .u8 a0] .leaf 0 K_r11=F_289 N a0:=by kernel_rfl
def ent_289 (N:Nat):List (PV D)->Bt D->Nat->QL D:=fun args _ _=>match args with|[.int .u8 a0]=>.opt (Int×Bool×Bool) (F_289 N a0) default O_r11|_=>.bad
theorem ent_289_ok (ac:HkS hk)(N:Nat):EOk hk V 289 (ent_289 N):=fun args B m=>by unfold ent_289;split;{exact fun _ h=>eP ac (x0H (Kx)) (sz:=20) (by kernel_rfl) rfl rfl rfl rfl (FE_289 N _) KO_r11 rfl h};trivial
theorem FE_256 (N:Nat)(a0:List UInt8)(a1:List UInt8):ZP (D:=D) (x1X [(218,z3N N),(253,z3K N),(289,ent_289 N),(290,ent_290 N)]) N (Kh Tryz.prog 256 [[((.tmp 8),(.int .i64)),((.tmp 10),(.int .i64)),((.tmp 11),(.int .i64))]]) [.t 4,.t 5] [.str a0,.str a1] .leaf 0 K_r4=F_256 N a0 a1:=by kernel_rfl
def ent_256 (N:Nat):List (PV D)->Bt D->Nat->QL D:=fun args _ _=>match args with|[.str a0,.str a1]=>.opt (Int×Int) (F_256 N a0 a1) default O_r4|_=>.bad
theorem ent_256_ok (ac:HkS hk)(N:Nat):EOk hk V 256 (ent_256 N):=fun args B m=>by unfold ent_256;split;{exact fun _ h=>eP ac (x0H (KX (z1G ac N) (KX (z1D ac N) (KX (ent_289_ok ac N) (KX (ent_290_ok ac N) (Kx)))))) (sz:=110) (by kernel_rfl) rfl rfl rfl rfl (FE_256 N _ _) KO_r4 rfl h};trivial
theorem FE_257 (N:Nat)(a0:Int)(a1:Int):ZP (D:=D) (x1X [(280,u1R N)]) N (Kh Tryz.prog 257 []) [.t 4] [.int .u8 a0,.int .u8 a1] .leaf 0 K_r1=F_257 N a0 a1:=by kernel_rfl
def ent_257 (N:Nat):List (PV D)->Bt D->Nat->QL D:=fun args _ _=>match args with|[.int .u8 a0,.int .u8 a1]=>.opt (Bool) (F_257 N a0 a1) default O_r1|_=>.bad
theorem ent_257_ok (ac:HkS hk)(N:Nat):EOk hk V 257 (ent_257 N):=fun args B m=>by unfold ent_257;split;{exact fun _ h=>eP ac (x0H (KX (u8Z ac N) (Kx))) (sz:=27) (by kernel_rfl) rfl rfl rfl rfl (FE_257 N _ _) z4U rfl h};trivial
theorem FE_223 (N:Nat)(a0:List UInt8)(a1:List UInt8):ZP (D:=D) (x1X [(218,z3N N),(256,ent_256 N),(257,ent_257 N)]) N (Kh Tryz.prog 223 [[((.tmp 7),(.int .i64))]]) [.t 4] [.str a0,.str a1] .leaf 0 K_r1=F_223 N a0 a1:=by kernel_rfl
def ent_223 (N:Nat):List (PV D)->Bt D->Nat->QL D:=fun args _ _=>match args with|[.str a0,.str a1]=>.opt (Bool) (F_223 N a0 a1) default O_r1|_=>.bad
theorem ent_223_ok (ac:HkS hk)(N:Nat):EOk hk V 223 (ent_223 N):=fun args B m=>by unfold ent_223;split;{exact fun _ h=>eP ac (x0H (KX (z1G ac N) (KX (ent_256_ok ac N) (KX (ent_257_ok ac N) (Kx))))) (sz:=45) (by kernel_rfl) rfl rfl rfl rfl (FE_223 N _ _) z4U rfl h};trivial
theorem FE_167 (N:Nat)(a0:Int)(a1:Int):ZP (D:=D) (x1X []) N (Kh Tryz.prog 167 [[((.tmp 0),(.int .u8)),((.tmp 6),(.int .i64)),((.row 0),(.rowI 5 .u8))]]) [.t 4] [.int .u8 a0,.int .i64 a1] .leaf 0 K_r2=F_167 N a0 a1:=by kernel_rfl
def ent_167 (N:Nat):List (PV D)->Bt D->Nat->QL D:=fun args _ _=>match args with|[.int .u8 a0,.int .i64 a1]=>.opt (List UInt8) (F_167 N a0 a1) default O_r2|_=>.bad
theorem ent_167_ok (ac:HkS hk)(N:Nat):EOk hk V 167 (ent_167 N):=fun args B m=>by unfold ent_167;split;{exact fun _ h=>eP ac (x0H (Kx)) (sz:=25) (by kernel_rfl) rfl rfl rfl rfl (FE_167 N _ _) KO_r2 rfl h};trivial
theorem FE_135 (N:Nat)(a0:Int)(a1:Int):ZP (D:=D) (x1X []) N (Kh Tryz.prog 135 [[((.tmp 0),(.int .u64)),((.tmp 6),(.int .i64)),((.row 0),(.rowI 5 .u8))]]) [.t 4] [.int .u64 a0,.int .i64 a1] .leaf 0 K_r2=F_135 N a0 a1:=by kernel_rfl
def ent_135 (N:Nat):List (PV D)->Bt D->Nat->QL D:=fun args _ _=>match args with|[.int .u64 a0,.int .i64 a1]=>.opt (List UInt8) (F_135 N a0 a1) default O_r2|_=>.bad
theorem ent_135_ok (ac:HkS hk)(N:Nat):EOk hk V 135 (ent_135 N):=fun args B m=>by unfold ent_135;split;{exact fun _ h=>eP ac (x0H (Kx)) (sz:=26) (by kernel_rfl) rfl rfl rfl rfl (FE_135 N _ _) KO_r2 rfl h};trivial
theorem FE_136 (N:Nat)(a0:Int)(a1:Int):ZP (D:=D) (x1X []) N (Kh Tryz.prog 136 [[((.tmp 0),(.int .u16)),((.tmp 6),(.int .i64)),((.row 0),(.rowI 5 .u8))]]) [.t 4] [.int .u16 a0,.int .i64 a1] .leaf 0 K_r2=F_136 N a0 a1:=by kernel_rfl
def ent_136 (N:Nat):List (PV D)->Bt D->Nat->QL D:=fun args _ _=>match args with|[.int .u16 a0,.int .i64 a1]=>.opt (List UInt8) (F_136 N a0 a1) default O_r2|_=>.bad
theorem ent_136_ok (ac:HkS hk)(N:Nat):EOk hk V 136 (ent_136 N):=fun args B m=>by unfold ent_136;split;{exact fun _ h=>eP ac (x0H (Kx)) (sz:=26) (by kernel_rfl) rfl rfl rfl rfl (FE_136 N _ _) KO_r2 rfl h};trivial
def ent_228_1 (N:Nat):List (PV D)->Bt D->Nat->QL D:=fun args B m=>Zr (x1X [(181,u2D N)]) N (Kh Tryz.prog 228 [[((.tmp 6),.bool),((.tmp 25),(.int .i64))],[((.tmp 3),(.int .i64)),((.tmp 4),(.int .i64)),((.tmp 48),(.int .i64))]]) [.t 2] 86 (.int .i64 0) args B m
theorem ent_228_1_ok (ac:HkS hk)(N:Nat):EOk hk V 228 (ent_228_1 N):=fun args B m=>Zt ac (x0H (KX (u9M ac N) (Kx))) (by kernel_rfl) rfl args B m
def ent_267_1 (N:Nat):List (PV D)->Bt D->Nat->QL D:=fun args B m=>Zr (x1X []) N (Kh Tryz.prog 267 []) [.t 2] 20 (.int .u8 0) args B m
theorem ent_267_1_ok (ac:HkS hk)(N:Nat):EOk hk V 267 (ent_267_1 N):=fun args B m=>Zt ac (x0H (Kx)) (by kernel_rfl) rfl args B m
def ent_230_1 (N:Nat):List (PV D)->Bt D->Nat->QL D:=fun args B m=>Zr (x1X [(267,ent_267_1 N),(268,ent_268 N)]) N (Kh Tryz.prog 230 []) [.t 4] 54 (.int .u8 0) args B m
theorem ent_230_1_ok (ac:HkS hk)(N:Nat):EOk hk V 230 (ent_230_1 N):=fun args B m=>Zt ac (x0H (KX (ent_267_1_ok ac N) (KX (ent_268_ok ac N) (Kx)))) (by kernel_rfl) rfl args B m
def ent_231_1 (N:Nat):List (PV D)->Bt D->Nat->QL D:=fun args B m=>Zr (x1X [(267,ent_267_1 N)]) N (Kh Tryz.prog 231 []) [.t 4] 25 (.int .u8 0) args B m
theorem ent_231_1_ok (ac:HkS hk)(N:Nat):EOk hk V 231 (ent_231_1 N):=fun args B m=>Zt ac (x0H (KX (ent_267_1_ok ac N) (Kx))) (by kernel_rfl) rfl args B m
def ent_232_1 (N:Nat):List (PV D)->Bt D->Nat->QL D:=fun args B m=>Zr (x1X []) N (Kh Tryz.prog 232 []) [.t 4] 26 (.int .u8 0) args B m
theorem ent_232_1_ok (ac:HkS hk)(N:Nat):EOk hk V 232 (ent_232_1 N):=fun args B m=>Zt ac (x0H (Kx)) (by kernel_rfl) rfl args B m
def ent_233_1 (N:Nat):List (PV D)->Bt D->Nat->QL D:=fun args B m=>Zr (x1X []) N (Kh Tryz.prog 233 []) [.t 4] 26 (.int .u8 0) args B m
theorem ent_233_1_ok (ac:HkS hk)(N:Nat):EOk hk V 233 (ent_233_1 N):=fun args B m=>Zt ac (x0H (Kx)) (by kernel_rfl) rfl args B m
def ent_234_1 (N:Nat):List (PV D)->Bt D->Nat->QL D:=fun args B m=>Zr (x1X []) N (Kh Tryz.prog 234 []) [.t 4] 6 (.int .u8 0) args B m
theorem ent_234_1_ok (ac:HkS hk)(N:Nat):EOk hk V 234 (ent_234_1 N):=fun args B m=>Zt ac (x0H (Kx)) (by kernel_rfl) rfl args B m
def yc_199:YC:=Kh Tryz.prog 199 [[((.tmp 10),(.rowI 5 .u8)),((.tmp 51),(.int .i64)),((.cell 2 1),.str),((.cell 2 2),.bool),((.cell 2 3),(.int .i64)),((.cell 2 4),(.int .i64)),((.cell 2 5),(.int .i64))]]
def rs_199:List RV:=[.t 6,.t 7]
theorem cf_199:v0H Tryz.prog 199 [[((.tmp 10),(.rowI 5 .u8)),((.tmp 51),(.int .i64)),((.cell 2 1),.str),((.cell 2 2),.bool),((.cell 2 3),(.int .i64)),((.cell 2 4),(.int .i64)),((.cell 2 5),(.int .i64))]]=some (yc_199,rs_199,171):=by kernel_rfl
def B0_137 (a0:List UInt8)(a1:Bool)(a2:Int)(a3:Int)(a4:Int)(a5:Bool)(a6:List Int)(a7:Int)(a8:Int)(a9:Bool)(a10:Int)(a11:Int)(a12:List UInt8)(a13:Bool):Bt D:=ZU (ZU .leaf 0 (some (0,.cells [.str a0,.bool a1,.int .i64 a2,.int .i64 a3,.int .i64 a4,.bool a5,.lsl 1,.int .u8 a7,.int .i64 a8,.bool a9,.int .u8 a10,.int .i64 a11]))) 1 (some (1,.rowI 248 .i64 a6))
def K_137 (a0:List UInt8)(a1:Bool)(a2:Int)(a3:Int)(a4:Int)(a5:Bool)(a6:List Int)(a7:Int)(a8:Int)(a9:Bool)(a10:Int)(a11:Int)(a12:List UInt8)(a13:Bool):PV D->Y D->Option (List UInt8×Int):=fun v st=>match v with|.tup [.str q0,.int .i64 q1]=>cond (roB (B0_137 a0 a1 a2 a3 a4 a5 a6 a7 a8 a9 a10 a11 a12 a13) st.B 2) (some (q0,q1)) none|_=>none
def O_137 (r:List UInt8×Int):PV D:=.tup [.str r.1,.int .i64 r.2]
theorem KO_199 (a0:List UInt8)(a1:Bool)(a2:Int)(a3:Int)(a4:Int)(a5:Bool)(a6:List Int)(a7:Int)(a8:Int)(a9:Bool)(a10:Int)(a11:Int)(a12:List UInt8)(a13:Bool)(r:List UInt8×Int)(v:PV D)(st:Y D)(h:K_137 a0 a1 a2 a3 a4 a5 a6 a7 a8 a9 a10 a11 a12 a13 v st=some r):v=O_137 r/\roB (B0_137 a0 a1 a2 a3 a4 a5 a6 a7 a8 a9 a10 a11 a12 a13) st.B 2=true:=by unfold K_137 at h;split at h;{obtain⟨h1,h2⟩:=x0B h;cases h2;exact⟨rfl,h1⟩};cases h
def T_137 (N:Nat):Tbl D:=x1X [(229,ent_229 N),(228,ent_228_1 N),(230,ent_230_1 N),(231,ent_231_1 N),(232,ent_232_1 N),(233,ent_233_1 N),(234,ent_234_1 N)]
theorem FE_199 (N:Nat)(a0:List UInt8)(a1:Bool)(a2:Int)(a3:Int)(a4:Int)(a5:Bool)(a6:List Int)(a7:Int)(a8:Int)(a9:Bool)(a10:Int)(a11:Int)(a12:List UInt8)(a13:Bool):ZP (D:=D) (T_137 N) N yc_199 rs_199 [.lptr 0 0,.str a12,.bool a13] (B0_137 a0 a1 a2 a3 a4 a5 a6 a7 a8 a9 a10 a11 a12 a13) 2 (K_137 a0 a1 a2 a3 a4 a5 a6 a7 a8 a9 a10 a11 a12 a13)=F_199 N a0 a1 a2 a3 a4 a5 a6 a7 a8 a9 a10 a11 a12 a13:=by kernel_rfl
theorem TO_199 (ac:HkS hk)(N:Nat):y1V Tryz.prog hk V (T_137 N):=x0H (KX (ent_229_ok ac N) (KX (ent_228_1_ok ac N) (KX (ent_230_1_ok ac N) (KX (ent_231_1_ok ac N) (KX (ent_232_1_ok ac N) (KX (ent_233_1_ok ac N) (KX (ent_234_1_ok ac N) (Kx))))))))
theorem law_199 (ac:HkS hk){N:Nat}{a0:List UInt8}{a1:Bool}{a2:Int}{a3:Int}{a4:Int}{a5:Bool}{a6:List Int}{a7:Int}{a8:Int}{a9:Bool}{a10:Int}{a11:Int}{a12:List UInt8}{a13:Bool}(i s:Nat)(sl:PV D)(o:Option Nat)(B:Bt D)(m:Nat)(hb:ZQ B i=some (s,.cells [.str a0,.bool a1,.int .i64 a2,.int .i64 a3,.int .i64 a4,.bool a5,sl,.int .u8 a7,.int .i64 a8,.bool a9,.int .u8 a10,.int .i64 a11]))(aR:rowIn 248 .i64 B sl=some (a6,o)){r:List UInt8×Int}(h:F_199 N a0 a1 a2 a3 a4 a5 a6 a7 a8 a9 a10 a11 a12 a13=some r):QD Tryz.prog hk V 199 [.lptr i 0,.str a12,.bool a13] B m [] (O_137 r) B m:=fun_ro (TO_199 ac N) cf_199 (ac.no 199 rfl) (args0:=[.lptr 0 0,.str a12,.bool a13]) (JT rfl) (noO rfl) (ins:=[some i,o]) (B0:=B0_137 a0 a1 a2 a3 a4 a5 a6 a7 a8 a9 a10 a11 a12 a13) (ro_nd hb aR) (ro_B0 hb aR (.cons _ _ _ _ (.flat _ (.str _)) (.cons _ _ _ _ (.flat _ (.bool _)) (.cons _ _ _ _ (.flat _ (.int _ _)) (.cons _ _ _ _ (.flat _ (.int _ _)) (.cons _ _ _ _ (.flat _ (.int _ _)) (.cons _ _ _ _ (.flat _ (.bool _)) (.cons _ _ _ _ (ro_row aR) (.cons _ _ _ _ (.flat _ (.int _ _)) (.cons _ _ _ _ (.flat _ (.int _ _)) (.cons _ _ _ _ (.flat _ (.bool _)) (.cons _ _ _ _ (.flat _ (.int _ _)) (.cons _ _ _ _ (.flat _ (.int _ _)) .nil))))))))))))) (.cons _ _ _ _ (.lptr 0 i 0 rfl) (.cons _ _ _ _ (.flat _ (.str _)) (.cons _ _ _ _ (.flat _ (.bool _)) .nil))) (K:=K_137 a0 a1 a2 a3 a4 a5 a6 a7 a8 a9 a10 a11 a12 a13) (r:=r) ((FE_199 N a0 a1 a2 a3 a4 a5 a6 a7 a8 a9 a10 a11 a12 a13).trans h) (KO_199 a0 a1 a2 a3 a4 a5 a6 a7 a8 a9 a10 a11 a12 a13 r) (.tup _ (.cons _ _ (.str _) (.cons _ _ (.int _ _) .nil)))
def ent_199 (N:Nat):List (PV D)->Bt D->Nat->QL D:=fun args B _=>match args with|[.lptr i 0,.str a12,.bool a13]=>(match ZQ B i with|some (_,.cells [.str a0,.bool a1,.int .i64 a2,.int .i64 a3,.int .i64 a4,.bool a5,sl,.int .u8 a7,.int .i64 a8,.bool a9,.int .u8 a10,.int .i64 a11])=>(match rowIn 248 .i64 B sl with|some (a6,_)=>.opt (List UInt8×Int) (F_199 N a0 a1 a2 a3 a4 a5 a6 a7 a8 a9 a10 a11 a12 a13) default (fun r=>O_137 r)|none=>.bad)|_=>.bad)|_=>.bad
theorem ent_199_ok (ac:HkS hk)(N:Nat)(args:List (PV D))(B:Bt D)(m:Nat):x4V Tryz.prog hk V 199 args B m (ent_199 N args B m):=by unfold ent_199;split;{split;{split;{intro r hr;exact law_199 ac _ _ _ _ B m (by assumption) (by assumption) hr};trivial};trivial};trivial
def ent_180_2 (N:Nat):List (PV D)->Bt D->Nat->QL D:=fun args B m=>Zr (x1X [(202,u1Z N),(203,z8B N)]) N (Kh Tryz.prog 180 [[((.tmp 4),(.rowI 5 .u8)),((.tmp 5),(.int .i64)),((.tmp 6),(.int .i64)),((.tmp 7),.bool),((.row 0),.iter)]]) [.t 2,.t 3] 74 (.tup [(.str []),(.bool false)]) args B m
theorem ent_180_2_ok (ac:HkS hk)(N:Nat):EOk hk V 180 (ent_180_2 N):=fun args B m=>Zt ac (x0H (KX (u9H ac N) (KX (z8A ac N) (Kx)))) (by kernel_rfl) rfl args B m
def ent_213_2 (N:Nat):List (PV D)->Bt D->Nat->QL D:=fun args B m=>Zr (x1X [(214,z3P N),(236,y2T N),(244,u1W N),(245,u1V N)]) N (Kh Tryz.prog 213 [[((.tmp 16),(.int .i64)),((.cell 1 0),.str),((.cell 1 1),.bool),((.cell 1 2),(.int .i64)),((.cell 1 3),(.int .i64)),((.cell 1 4),(.int .i64)),((.cell 1 5),.bool),((.cell 1 7),(.int .u8)),((.cell 1 8),(.int .i64)),((.cell 1 9),.bool),((.cell 1 10),(.int .u8)),((.cell 1 11),(.int .i64))],[((.tmp 60),(.int .i64))]]) [.t 4] 74 (.bool false) args B m
theorem ent_213_2_ok (ac:HkS hk)(N:Nat):EOk hk V 213 (ent_213_2 N):=fun args B m=>Zt ac (x0H (KX (z1H ac N) (KX (x9S ac N) (KX (u9E ac N) (KX (u9D ac N) (Kx)))))) (by kernel_rfl) rfl args B m
def ent_215_2 (N:Nat):List (PV D)->Bt D->Nat->QL D:=fun args B m=>Zr (x1X [(247,z7R N)]) N (Kh Tryz.prog 215 [[((.tmp 5),(.int .i64)),((.tmp 6),.bool),((.tmp 13),(.int .i64)),((.cell 1 0),.str),((.cell 1 1),.bool),((.cell 1 2),(.int .i64)),((.cell 1 3),(.int .i64)),((.cell 1 4),(.int .i64)),((.cell 1 5),.bool),((.cell 1 6),(.rowI 248 .i64)),((.cell 1 7),(.int .u8)),((.cell 1 8),(.int .i64)),((.cell 1 9),.bool),((.cell 1 10),(.int .u8)),((.cell 1 11),(.int .i64))]]) [.t 4] 122 (.bool false) args B m
theorem ent_215_2_ok (ac:HkS hk)(N:Nat):EOk hk V 215 (ent_215_2 N):=fun args B m=>Zt ac (x0H (KX (z7Q ac N) (Kx))) (by kernel_rfl) rfl args B m
def ent_183_2 (N:Nat):List (PV D)->Bt D->Nat->QL D:=fun args B m=>Zr (x1X [(182,z3Q N),(212,u1Y N),(213,ent_213_2 N),(214,z3P N),(215,ent_215_2 N),(216,z7V N),(217,z7T N)]) N (Kh Tryz.prog 183 []) [.t 2,.t 3] 114 (.tup [.nilp,(.bool false)]) args B m
theorem ent_183_2_ok (ac:HkS hk)(N:Nat):EOk hk V 183 (ent_183_2 N):=fun args B m=>Zt ac (x0H (KX (z1J ac N) (KX (u9G ac N) (KX (ent_213_2_ok ac N) (KX (z1H ac N) (KX (ent_215_2_ok ac N) (KX (z7U ac N) (KX (z7S ac N) (Kx))))))))) (by kernel_rfl) rfl args B m
def ent_155_2 (N:Nat):List (PV D)->Bt D->Nat->QL D:=fun args B m=>Zr (x1X [(180,ent_180_2 N),(181,u2D N),(182,z3Q N),(183,ent_183_2 N)]) N (Kh Tryz.prog 155 []) [.t 2,.t 3] 30 (.tup [.nilp,(.bool false)]) args B m
theorem ent_155_2_ok (ac:HkS hk)(N:Nat):EOk hk V 155 (ent_155_2 N):=fun args B m=>Zt ac (x0H (KX (ent_180_2_ok ac N) (KX (u9M ac N) (KX (z1J ac N) (KX (ent_183_2_ok ac N) (Kx)))))) (by kernel_rfl) rfl args B m
def ent_196_1 (N:Nat):List (PV D)->Bt D->Nat->QL D:=fun args B m=>Zr (x1X [(155,ent_155_2 N)]) N (Kh Tryz.prog 196 []) [.t 2,.t 3] 22 (.tup [.nilp,(.bool false)]) args B m
theorem ent_196_1_ok (ac:HkS hk)(N:Nat):EOk hk V 196 (ent_196_1 N):=fun args B m=>Zt ac (x0H (KX (ent_155_2_ok ac N) (Kx))) (by kernel_rfl) rfl args B m
def ent_197_1 (N:Nat):List (PV D)->Bt D->Nat->QL D:=fun args B m=>Zr (x1X [(225,ent_225 N)]) N (Kh Tryz.prog 197 [[((.tmp 5),(.rowI 5 .u8)),((.tmp 6),(.int .i64)),((.tmp 18),(.int .i64))]]) [.t 4] 66 (.str []) args B m
theorem ent_197_1_ok (ac:HkS hk)(N:Nat):EOk hk V 197 (ent_197_1 N):=fun args B m=>Zt ac (x0H (KX (ent_225_ok ac N) (Kx))) (by kernel_rfl) rfl args B m
theorem FE_176 (N:Nat)(a0:List UInt8)(a1:List UInt8):ZP (D:=D) (x1X [(196,ent_196_1 N),(197,ent_197_1 N),(198,ent_198 N),(199,ent_199 N)]) N (Kh Tryz.prog 176 []) [.t 4,.t 5] [.str a0,.str a1] .leaf 0 K_r4=F_176 N a0 a1:=by kernel_rfl
def ent_176 (N:Nat):List (PV D)->Bt D->Nat->QL D:=fun args _ _=>match args with|[.str a0,.str a1]=>.opt (Int×Int) (F_176 N a0 a1) default O_r4|_=>.bad
theorem ent_176_ok (ac:HkS hk)(N:Nat):EOk hk V 176 (ent_176 N):=fun args B m=>by unfold ent_176;split;{exact fun _ h=>eP ac (x0H (KX (ent_196_1_ok ac N) (KX (ent_197_1_ok ac N) (KX (ent_198_ok ac N) (KX (ent_199_ok ac N) (Kx)))))) (sz:=70) (by kernel_rfl) rfl rfl rfl rfl (FE_176 N _ _) KO_r4 rfl h};trivial
theorem FE_144 (N:Nat)(a0:List UInt8)(a1:List UInt8):ZP (D:=D) (x1X [(155,ent_155_2 N),(176,ent_176 N),(177,ent_177 N)]) N (Kh Tryz.prog 144 []) [.t 4] [.str a0,.str a1] .leaf 0 K_r1=F_144 N a0 a1:=by kernel_rfl
def ent_144 (N:Nat):List (PV D)->Bt D->Nat->QL D:=fun args _ _=>match args with|[.str a0,.str a1]=>.opt (Bool) (F_144 N a0 a1) default O_r1|_=>.bad
theorem ent_144_ok (ac:HkS hk)(N:Nat):EOk hk V 144 (ent_144 N):=fun args B m=>by unfold ent_144;split;{exact fun _ h=>eP ac (x0H (KX (ent_155_2_ok ac N) (KX (ent_176_ok ac N) (KX (ent_177_ok ac N) (Kx))))) (sz:=36) (by kernel_rfl) rfl rfl rfl rfl (FE_144 N _ _) z4U rfl h};trivial
theorem FE_85 (N:Nat)(a0:Int)(a1:Int)(a2:Int)(a3:Bool)(a4:List UInt8)(a5:Int)(a6:List UInt8):ZP (D:=D) (x1X [(132,ent_132 N),(143,ent_143 N),(138,ent_138 N),(144,ent_144 N)]) N (Kh Tryz.prog 85 []) [.t 4] [.agg [.int .i64 a0,.int .i64 a1,.int .i64 a2,.bool a3,.str a4],.agg [.int .i64 a5,.str a6]] .leaf 0 Qe=F_85 N a0 a1 a2 a3 a4 a5 a6:=by kernel_rfl
def ent_85 (N:Nat):List (PV D)->Bt D->Nat->QL D:=fun args _ _=>match args with|[.agg [.int .i64 a0,.int .i64 a1,.int .i64 a2,.bool a3,.str a4],.agg [.int .i64 a5,.str a6]]=>.opt (Int) (F_85 N a0 a1 a2 a3 a4 a5 a6) default Qn|_=>.bad
theorem ent_85_ok (ac:HkS hk)(N:Nat):EOk hk V 85 (ent_85 N):=fun args B m=>by unfold ent_85;split;{exact fun _ h=>eP ac (x0H (KX (ent_132_ok ac N) (KX (ent_143_ok ac N) (KX (ent_138_ok ac N) (KX (ent_144_ok ac N) (Kx)))))) (sz:=86) (by kernel_rfl) rfl rfl rfl rfl (FE_85 N _ _ _ _ _ _ _) y0Q rfl h};trivial
theorem FE_53 (N:Nat)(a0:Int)(a1:Int)(a2:Int)(a3:Bool)(a4:List UInt8):ZP (D:=D) (x1X [(84,u6D N),(112,z3S N)]) N (Kh Tryz.prog 53 []) [.t 2] [.agg [.int .i64 a0,.int .i64 a1,.int .i64 a2,.bool a3,.str a4]] .leaf 0 Qe=F_53 N a0 a1 a2 a3 a4:=by kernel_rfl
def v6M (N:Nat):List (PV D)->Bt D->Nat->QL D:=fun args _ _=>match args with|[.agg [.int .i64 a0,.int .i64 a1,.int .i64 a2,.bool a3,.str a4]]=>.opt (Int) (F_53 N a0 a1 a2 a3 a4) default Qn|_=>.bad
theorem z7P (ac:HkS hk)(N:Nat):EOk hk V 53 (v6M N):=fun args B m=>by unfold v6M;split;{exact fun _ h=>eP ac (x0H (KX (y7S ac N) (KX (z1L ac N) (Kx)))) (sz:=53) (by kernel_rfl) rfl rfl rfl rfl (FE_53 N _ _ _ _ _) y0Q rfl h};trivial
theorem FE_288 (N:Nat)(a0:Int):ZP (D:=D) (x1X []) N (Kh Tryz.prog 288 []) [.t 2] [.int .i64 a0] .leaf 0 Qe=F_288 N a0:=by kernel_rfl
def ent_288 (N:Nat):List (PV D)->Bt D->Nat->QL D:=fun args _ _=>match args with|[.int .i64 a0]=>.opt (Int) (F_288 N a0) default Qn|_=>.bad
theorem ent_288_ok (ac:HkS hk)(N:Nat):EOk hk V 288 (ent_288 N):=fun args B m=>by unfold ent_288;split;{exact fun _ h=>eP ac (x0H (Kx)) (sz:=5) (by kernel_rfl) rfl rfl rfl rfl (FE_288 N _) y0Q rfl h};trivial
theorem FE_287 (N:Nat)(a0:Int)(a1:Int):ZP (D:=D) (x1X []) N (Kh Tryz.prog 287 [[((.tmp 5),(.int .i64)),((.tmp 6),(.int .i64))]]) [.t 4] [.int .i64 a0,.int .i64 a1] .leaf 0 Qe=F_287 N a0 a1:=by kernel_rfl
def ent_287 (N:Nat):List (PV D)->Bt D->Nat->QL D:=fun args _ _=>match args with|[.int .i64 a0,.int .i64 a1]=>.opt (Int) (F_287 N a0 a1) default Qn|_=>.bad
theorem ent_287_ok (ac:HkS hk)(N:Nat):EOk hk V 287 (ent_287 N):=fun args B m=>by unfold ent_287;split;{exact fun _ h=>eP ac (x0H (Kx)) (sz:=16) (by kernel_rfl) rfl rfl rfl rfl (FE_287 N _ _) y0Q rfl h};trivial
theorem FE_255 (N:Nat)(a0:Int)(a1:Int)(a2:Int)(a3:Bool)(a4:List UInt8):ZP (D:=D) (x1X [(287,ent_287 N),(288,ent_288 N)]) N (Kh Tryz.prog 255 []) [.t 2] [.agg [.int .i64 a0,.int .i64 a1,.int .i64 a2,.bool a3,.str a4]] .leaf 0 Qe=F_255 N a0 a1 a2 a3 a4:=by kernel_rfl
def ent_255 (N:Nat):List (PV D)->Bt D->Nat->QL D:=fun args _ _=>match args with|[.agg [.int .i64 a0,.int .i64 a1,.int .i64 a2,.bool a3,.str a4]]=>.opt (Int) (F_255 N a0 a1 a2 a3 a4) default Qn|_=>.bad
theorem ent_255_ok (ac:HkS hk)(N:Nat):EOk hk V 255 (ent_255 N):=fun args B m=>by unfold ent_255;split;{exact fun _ h=>eP ac (x0H (KX (ent_287_ok ac N) (KX (ent_288_ok ac N) (Kx)))) (sz:=9) (by kernel_rfl) rfl rfl rfl rfl (FE_255 N _ _ _ _ _) y0Q rfl h};trivial
theorem FE_222 (N:Nat)(a0:Int)(a1:List UInt8)(a2:Int)(a3:Int)(a4:Int)(a5:Bool)(a6:List UInt8):ZP (D:=D) (x1X [(235,u1X N),(255,ent_255 N)]) N (Kh Tryz.prog 222 []) [.t 4] [.agg [.int .i64 a0,.str a1],.agg [.int .i64 a2,.int .i64 a3,.int .i64 a4,.bool a5,.str a6]] .leaf 0 Qe=F_222 N a0 a1 a2 a3 a4 a5 a6:=by kernel_rfl
def ent_222 (N:Nat):List (PV D)->Bt D->Nat->QL D:=fun args _ _=>match args with|[.agg [.int .i64 a0,.str a1],.agg [.int .i64 a2,.int .i64 a3,.int .i64 a4,.bool a5,.str a6]]=>.opt (Int) (F_222 N a0 a1 a2 a3 a4 a5 a6) default Qn|_=>.bad
theorem ent_222_ok (ac:HkS hk)(N:Nat):EOk hk V 222 (ent_222 N):=fun args B m=>by unfold ent_222;split;{exact fun _ h=>eP ac (x0H (KX (u9F ac N) (KX (ent_255_ok ac N) (Kx)))) (sz:=29) (by kernel_rfl) rfl rfl rfl rfl (FE_222 N _ _ _ _ _ _ _) y0Q rfl h};trivial
theorem FE_186 (N:Nat)(a0:List UInt8):ZP (D:=D) (x1X []) N (Kh Tryz.prog 186 [[((.tmp 3),(.int .i64))]]) [.t 2] [.str a0] .leaf 0 K_r1=F_186 N a0:=by kernel_rfl
def ent_186 (N:Nat):List (PV D)->Bt D->Nat->QL D:=fun args _ _=>match args with|[.str a0]=>.opt (Bool) (F_186 N a0) default O_r1|_=>.bad
theorem ent_186_ok (ac:HkS hk)(N:Nat):EOk hk V 186 (ent_186 N):=fun args B m=>by unfold ent_186;split;{exact fun _ h=>eP ac (x0H (Kx)) (sz:=20) (by kernel_rfl) rfl rfl rfl rfl (FE_186 N _) z4U rfl h};trivial
theorem FE_188 (N:Nat)(a0:Int)(a1:List UInt8)(a2:Int)(a3:Int)(a4:Int)(a5:Bool)(a6:List UInt8):ZP (D:=D) (x1X [(178,u2E N),(186,ent_186 N),(222,ent_222 N),(223,ent_223 N)]) N (Kh Tryz.prog 188 []) [.t 4] [.agg [.int .i64 a0,.str a1],.agg [.int .i64 a2,.int .i64 a3,.int .i64 a4,.bool a5,.str a6]] .leaf 0 Qe=F_188 N a0 a1 a2 a3 a4 a5 a6:=by kernel_rfl
def ent_188 (N:Nat):List (PV D)->Bt D->Nat->QL D:=fun args _ _=>match args with|[.agg [.int .i64 a0,.str a1],.agg [.int .i64 a2,.int .i64 a3,.int .i64 a4,.bool a5,.str a6]]=>.opt (Int) (F_188 N a0 a1 a2 a3 a4 a5 a6) default Qn|_=>.bad
theorem ent_188_ok (ac:HkS hk)(N:Nat):EOk hk V 188 (ent_188 N):=fun args B m=>by unfold ent_188;split;{exact fun _ h=>eP ac (x0H (KX (u9N ac N) (KX (ent_186_ok ac N) (KX (ent_222_ok ac N) (KX (ent_223_ok ac N) (Kx)))))) (sz:=93) (by kernel_rfl) rfl rfl rfl rfl (FE_188 N _ _ _ _ _ _ _) y0Q rfl h};trivial
theorem FE_164 (N:Nat)(a0:Int)(a1:Int)(a2:Int)(a3:Bool)(a4:List UInt8)(a5:Int)(a6:List UInt8):ZP (D:=D) (x1X [(188,ent_188 N)]) N (Kh Tryz.prog 164 []) [.t 4] [.agg [.int .i64 a0,.int .i64 a1,.int .i64 a2,.bool a3,.str a4],.agg [.int .i64 a5,.str a6]] .leaf 0 Qe=F_164 N a0 a1 a2 a3 a4 a5 a6:=by kernel_rfl
def ent_164 (N:Nat):List (PV D)->Bt D->Nat->QL D:=fun args _ _=>match args with|[.agg [.int .i64 a0,.int .i64 a1,.int .i64 a2,.bool a3,.str a4],.agg [.int .i64 a5,.str a6]]=>.opt (Int) (F_164 N a0 a1 a2 a3 a4 a5 a6) default Qn|_=>.bad
theorem ent_164_ok (ac:HkS hk)(N:Nat):EOk hk V 164 (ent_164 N):=fun args B m=>by unfold ent_164;split;{exact fun _ h=>eP ac (x0H (KX (ent_188_ok ac N) (Kx))) (sz:=8) (by kernel_rfl) rfl rfl rfl rfl (FE_164 N _ _ _ _ _ _ _) y0Q rfl h};trivial
theorem FE_184 (N:Nat)(a0:Int)(a1:Int)(a2:Int)(a3:Bool)(a4:List UInt8):ZP (D:=D) (x1X [(218,z3N N)]) N (Kh Tryz.prog 184 []) [.t 2] [.agg [.int .i64 a0,.int .i64 a1,.int .i64 a2,.bool a3,.str a4]] .leaf 0 Qe=F_184 N a0 a1 a2 a3 a4:=by kernel_rfl
def u2C (N:Nat):List (PV D)->Bt D->Nat->QL D:=fun args _ _=>match args with|[.agg [.int .i64 a0,.int .i64 a1,.int .i64 a2,.bool a3,.str a4]]=>.opt (Int) (F_184 N a0 a1 a2 a3 a4) default Qn|_=>.bad
theorem u9L (ac:HkS hk)(N:Nat):EOk hk V 184 (u2C N):=fun args B m=>by unfold u2C;split;{exact fun _ h=>eP ac (x0H (KX (z1G ac N) (Kx))) (sz:=33) (by kernel_rfl) rfl rfl rfl rfl (FE_184 N _ _ _ _ _) y0Q rfl h};trivial
theorem FE_156 (N:Nat)(a0:Int)(a1:Int)(a2:Int)(a3:Bool)(a4:List UInt8):ZP (D:=D) (x1X [(147,z3R N),(184,u2C N)]) N (Kh Tryz.prog 156 []) [.t 2] [.agg [.int .i64 a0,.int .i64 a1,.int .i64 a2,.bool a3,.str a4]] .leaf 0 Qe=v0W N a0 a1 a2 a3 a4:=by kernel_rfl
def u2G (N:Nat):List (PV D)->Bt D->Nat->QL D:=fun args _ _=>match args with|[.agg [.int .i64 a0,.int .i64 a1,.int .i64 a2,.bool a3,.str a4]]=>.opt (Int) (v0W N a0 a1 a2 a3 a4) default Qn|_=>.bad
theorem z1K (ac:HkS hk)(N:Nat):EOk hk V 156 (u2G N):=fun args B m=>by unfold u2G;split;{exact fun _ h=>eP ac (x0H (KX (y2U ac N) (KX (u9L ac N) (Kx)))) (sz:=45) (by kernel_rfl) rfl rfl rfl rfl (FE_156 N _ _ _ _ _) y0Q rfl h};trivial
end
end Go.Yec
