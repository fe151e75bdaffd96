/-
  G1
-/
import Derived.Test.YtadehgdfijjikaaGreatDoorY10
import Derived.Test.YtadehgdfijjikaaGreatDoorY11
import Derived.Test.YtadehgdfijjikaaGreatDoorG1
set_option linter.all false
namespace Go.Yec
open Go Go.Xec Go.Proofs
noncomputable section
variable {D : Type} {V : D -> List (PV D)} {hk : Hook}
def K_r0 : PV D -> Y D -> Option (Int):=fun v _=>match v with
  | .int .i64 q0=>some q0
  | _=>none
def O_r0 (r : Int) : PV D:= .int .i64 r
theorem y0H {r : Int} (v : PV D) (st : Y D) (h : K_r0 v st = some r) : v = O_r0 r:=by
  unfold K_r0 at h;split at h <;> first | (cases h; rfl) | (cases h)
theorem FE_174 (N : Nat) (a0 : Int) : fsem (D:=D) (x1S []) N (ycOf Tryz.prog 174 []) [.t 2] [.int .i64 a0] .leaf 0 K_r0 = F_174 N a0:=by kernel_rfl
def u2J (N : Nat) : List (PV D) -> Bt D -> Nat -> CallR D:=fun args _ _=>match args with
  | [.int .i64 a0]=> .opt (Int) (F_174 N a0) default O_r0
  | _=> .bad
theorem u9Y (hkn : HkS hk) (N : Nat) : EOk hk V 174 (u2J N):=fun args B m=>by
  unfold u2J;split
  . exact fun _ h=>eP hkn (x0H (tok0)) (sz:= 5) (by kernel_rfl) rfl rfl rfl rfl (FE_174 N _) y0H rfl h
  . trivial
theorem FE_141 (N : Nat) (a0 : Int) (a1 : Int) (a2 : Int) (a3 : Bool) (a4 : List UInt8) : fsem (D:=D) (x1S [(174,u2J N)]) N (ycOf Tryz.prog 141 []) [.t 2] [.agg [.int .i64 a0, .int .i64 a1, .int .i64 a2, .bool a3, .str a4]] .leaf 0 K_r0 = F_141 N a0 a1 a2 a3 a4:=by kernel_rfl
def u2M (N : Nat) : List (PV D) -> Bt D -> Nat -> CallR D:=fun args _ _=>match args with
  | [.agg [.int .i64 a0, .int .i64 a1, .int .i64 a2, .bool a3, .str a4]]=> .opt (Int) (F_141 N a0 a1 a2 a3 a4) default O_r0
  | _=> .bad
theorem v0B (hkn : HkS hk) (N : Nat) : EOk hk V 141 (u2M N):=fun args B m=>by
  unfold u2M;split
  . exact fun _ h=>eP hkn (x0H (tok1 (u9Y hkn N) (tok0))) (sz:= 59) (by kernel_rfl) rfl rfl rfl rfl (FE_141 N _ _ _ _ _) y0H rfl h
  . trivial
theorem FE_251 (N : Nat) (a0 : List UInt8) (a1 : Int) : fsem (D:=D) (x1S []) N (ycOf Tryz.prog 251 [[((.tmp 5),(.int .i64)),((.tmp 6),(.int .i64))]]) [.t 4] [.str a0, .int .u8 a1] .leaf 0 K_r0 = x7S N a0 a1:=by kernel_rfl
def y0E (N : Nat) : List (PV D) -> Bt D -> Nat -> CallR D:=fun args _ _=>match args with
  | [.str a0, .int .u8 a1]=> .opt (Int) (x7S N a0 a1) default O_r0
  | _=> .bad
theorem x6R (hkn : HkS hk) (N : Nat) : EOk hk V 251 (y0E N):=fun args B m=>by
  unfold y0E;split
  . exact fun _ h=>eP hkn (x0H (tok0)) (sz:= 21) (by kernel_rfl) rfl rfl rfl rfl (FE_251 N _ _) y0H rfl h
  . trivial
def K_r1 : PV D -> Y D -> Option (Bool):=fun v _=>match v with
  | .bool q0=>some q0
  | _=>none
def O_r1 (r : Bool) : PV D:= .bool r
theorem z4B {r : Bool} (v : PV D) (st : Y D) (h : K_r1 v st = some r) : v = O_r1 r:=by
  unfold K_r1 at h;split at h <;> first | (cases h; rfl) | (cases h)
theorem FE_254 (N : Nat) (a0 : List UInt8) (a1 : Int) : fsem (D:=D) (x1S []) N (ycOf Tryz.prog 254 [[((.tmp 5),(.int .i64))]]) [.t 4] [.str a0, .int .u8 a1] .leaf 0 K_r1 = x2E N a0 a1:=by kernel_rfl
def x4S (N : Nat) : List (PV D) -> Bt D -> Nat -> CallR D:=fun args _ _=>match args with
  | [.str a0, .int .u8 a1]=> .opt (Bool) (x2E N a0 a1) default O_r1
  | _=> .bad
theorem x2K (hkn : HkS hk) (N : Nat) : EOk hk V 254 (x4S N):=fun args B m=>by
  unfold x4S;split
  . exact fun _ h=>eP hkn (x0H (tok0)) (sz:= 17) (by kernel_rfl) rfl rfl rfl rfl (FE_254 N _ _) z4B rfl h
  . trivial
def K_r2 : PV D -> Y D -> Option (List UInt8):=fun v _=>match v with
  | .str q0=>some q0
  | _=>none
def O_r2 (r : List UInt8) : PV D:= .str r
theorem KO_r2 {r : List UInt8} (v : PV D) (st : Y D) (h : K_r2 v st = some r) : v = O_r2 r:=by
  unfold K_r2 at h;split at h <;> first | (cases h; rfl) | (cases h)
theorem FE_281 (N : Nat) (a0 : Int) (a1 : Int) : fsem (D:=D) (x1S []) N (ycOf Tryz.prog 281 [[((.tmp 5),(.rowI 5 .u8)),((.tmp 6),(.int .i64))]]) [.t 4] [.int .u8 a0, .int .i64 a1] .leaf 0 K_r2 = y8U N a0 a1:=by kernel_rfl
def u1T (N : Nat) : List (PV D) -> Bt D -> Nat -> CallR D:=fun args _ _=>match args with
  | [.int .u8 a0, .int .i64 a1]=> .opt (List UInt8) (y8U N a0 a1) default O_r2
  | _=> .bad
theorem u9H (hkn : HkS hk) (N : Nat) : EOk hk V 281 (u1T N):=fun args B m=>by
  unfold u1T;split
  . exact fun _ h=>eP hkn (x0H (tok0)) (sz:= 19) (by kernel_rfl) rfl rfl rfl rfl (FE_281 N _ _) KO_r2 rfl h
  . trivial
def K_r3 : PV D -> Y D -> Option (Int):=fun v _=>match v with
  | .int .u8 q0=>some q0
  | _=>none
def O_r3 (r : Int) : PV D:= .int .u8 r
theorem KO_r3 {r : Int} (v : PV D) (st : Y D) (h : K_r3 v st = some r) : v = O_r3 r:=by
  unfold K_r3 at h;split at h <;> first | (cases h; rfl) | (cases h)
theorem FE_280 (N : Nat) (a0 : Int) : fsem (D:=D) (x1S []) N (ycOf Tryz.prog 280 []) [.t 2] [.int .u8 a0] .leaf 0 K_r3 = y8V N a0:=by kernel_rfl
def u1U (N : Nat) : List (PV D) -> Bt D -> Nat -> CallR D:=fun args _ _=>match args with
  | [.int .u8 a0]=> .opt (Int) (y8V N a0) default O_r3
  | _=> .bad
theorem u9J (hkn : HkS hk) (N : Nat) : EOk hk V 280 (u1U N):=fun args B m=>by
  unfold u1U;split
  . exact fun _ h=>eP hkn (x0H (tok0)) (sz:= 13) (by kernel_rfl) rfl rfl rfl rfl (FE_280 N _) KO_r3 rfl h
  . trivial
theorem FE_282 (N : Nat) (a0 : List UInt8) : fsem (D:=D) (x1S []) N (ycOf Tryz.prog 282 []) [.t 2] [.str a0] .leaf 0 K_r1 = y8T N a0:=by kernel_rfl
def y7G (N : Nat) : List (PV D) -> Bt D -> Nat -> CallR D:=fun args _ _=>match args with
  | [.str a0]=> .opt (Bool) (y8T N a0) default O_r1
  | _=> .bad
theorem y2L (hkn : HkS hk) (N : Nat) : EOk hk V 282 (y7G N):=fun args B m=>by
  unfold y7G;split
  . exact fun _ h=>eP hkn (x0H (tok0)) (sz:= 22) (by kernel_rfl) rfl rfl rfl rfl (FE_282 N _) z4B rfl h
  . trivial
theorem FE_286 (N : Nat) (a0 : List UInt8) : fsem (D:=D) (x1S [(251,y0E N),(254,x4S N)]) N (ycOf Tryz.prog 286 [[((.tmp 3),(.int .i64))]]) [.t 2] [.str a0] .leaf 0 K_r3 = z4D N a0:=by kernel_rfl
def y2K (N : Nat) : List (PV D) -> Bt D -> Nat -> CallR D:=fun args _ _=>match args with
  | [.str a0]=> .opt (Int) (z4D N a0) default O_r3
  | _=> .bad
theorem x9J (hkn : HkS hk) (N : Nat) : EOk hk V 286 (y2K N):=fun args B m=>by
  unfold y2K;split
  . exact fun _ h=>eP hkn (x0H (tok1 (x6R hkn N) (tok1 (x2K hkn N) (tok0)))) (sz:= 25) (by kernel_rfl) rfl rfl rfl rfl (FE_286 N _) KO_r3 rfl h
  . trivial
theorem FE_253 (N : Nat) (a0 : List UInt8) : fsem (D:=D) (x1S [(254,x4S N),(282,y7G N),(286,y2K N)]) N (ycOf Tryz.prog 253 [[((.tmp 5),(.rowI 5 .u8)),((.tmp 6), .bool),((.tmp 7),(.int .i64))]]) [.t 2] [.str a0] .leaf 0 K_r2 = z8V N a0:=by kernel_rfl
def z2T (N : Nat) : List (PV D) -> Bt D -> Nat -> CallR D:=fun args _ _=>match args with
  | [.str a0]=> .opt (List UInt8) (z8V N a0) default O_r2
  | _=> .bad
theorem z0P (hkn : HkS hk) (N : Nat) : EOk hk V 253 (z2T N):=fun args B m=>by
  unfold z2T;split
  . exact fun _ h=>eP hkn (x0H (tok1 (x2K hkn N) (tok1 (y2L hkn N) (tok1 (x9J hkn N) (tok0))))) (sz:= 73) (by kernel_rfl) rfl rfl rfl rfl (FE_253 N _) KO_r2 rfl h
  . trivial
theorem FE_283 (N : Nat) (a0 : List UInt8) : fsem (D:=D) (x1S [(251,y0E N),(254,x4S N),(286,y2K N)]) N (ycOf Tryz.prog 283 [[((.tmp 4),(.int .i64)),((.tmp 5),(.int .i64)),((.tmp 6),(.int .i64))],[((.tmp 7),(.int .i64))]]) [.t 2] [.str a0] .leaf 0 K_r1 = z8U N a0:=by kernel_rfl
def u1S (N : Nat) : List (PV D) -> Bt D -> Nat -> CallR D:=fun args _ _=>match args with
  | [.str a0]=> .opt (Bool) (z8U N a0) default O_r1
  | _=> .bad
theorem u9G (hkn : HkS hk) (N : Nat) : EOk hk V 283 (u1S N):=fun args B m=>by
  unfold u1S;split
  . exact fun _ h=>eP hkn (x0H (tok1 (x6R hkn N) (tok1 (x2K hkn N) (tok1 (x9J hkn N) (tok0))))) (sz:= 70) (by kernel_rfl) rfl rfl rfl rfl (FE_283 N _) z4B rfl h
  . trivial
theorem FE_284 (N : Nat) (a0 : List UInt8) (a1 : List UInt8) : fsem (D:=D) (x1S [(254,x4S N),(286,y2K N)]) N (ycOf Tryz.prog 284 [[((.tmp 5), .bool),((.tmp 6), .bool),((.tmp 7), .bool),((.tmp 8),(.int .i64)),((.tmp 9),(.int .i64))]]) [.t 4] [.str a0, .str a1] .leaf 0 K_r1 = u3P N a0 a1:=by kernel_rfl
def u1R (N : Nat) : List (PV D) -> Bt D -> Nat -> CallR D:=fun args _ _=>match args with
  | [.str a0, .str a1]=> .opt (Bool) (u3P N a0 a1) default O_r1
  | _=> .bad
theorem u9F (hkn : HkS hk) (N : Nat) : EOk hk V 284 (u1R N):=fun args B m=>by
  unfold u1R;split
  . exact fun _ h=>eP hkn (x0H (tok1 (x2K hkn N) (tok1 (x9J hkn N) (tok0)))) (sz:= 67) (by kernel_rfl) rfl rfl rfl rfl (FE_284 N _ _) z4B rfl h
  . trivial
theorem FE_252 (N : Nat) (a0 : List UInt8) : fsem (D:=D) (x1S [(251,y0E N),(254,x4S N),(282,y7G N)]) N (ycOf Tryz.prog 252 [[((.tmp 4),(.int .i64)),((.tmp 5),(.int .i64))]]) [.t 2] [.str a0] .leaf 0 K_r0 = z8W N a0:=by kernel_rfl
def z2U (N : Nat) : List (PV D) -> Bt D -> Nat -> CallR D:=fun args _ _=>match args with
  | [.str a0]=> .opt (Int) (z8W N a0) default O_r0
  | _=> .bad
theorem z0Q (hkn : HkS hk) (N : Nat) : EOk hk V 252 (z2U N):=fun args B m=>by
  unfold z2U;split
  . exact fun _ h=>eP hkn (x0H (tok1 (x6R hkn N) (tok1 (x2K hkn N) (tok1 (y2L hkn N) (tok0))))) (sz:= 34) (by kernel_rfl) rfl rfl rfl rfl (FE_252 N _) y0H rfl h
  . trivial
theorem FE_285 (N : Nat) (a0 : List UInt8) (a1 : List UInt8) : fsem (D:=D) (x1S [(254,x4S N),(286,y2K N)]) N (ycOf Tryz.prog 285 [[((.tmp 6),(.int .i64))],[((.tmp 7), .bool),((.tmp 8), .bool),((.tmp 9),(.int .i64))]]) [.t 4] [.str a0, .str a1] .leaf 0 K_r1 = z8T N a0 a1:=by kernel_rfl
def u1Q (N : Nat) : List (PV D) -> Bt D -> Nat -> CallR D:=fun args _ _=>match args with
  | [.str a0, .str a1]=> .opt (Bool) (z8T N a0 a1) default O_r1
  | _=> .bad
theorem u9E (hkn : HkS hk) (N : Nat) : EOk hk V 285 (u1Q N):=fun args B m=>by
  unfold u1Q;split
  . exact fun _ h=>eP hkn (x0H (tok1 (x2K hkn N) (tok1 (x9J hkn N) (tok0)))) (sz:= 69) (by kernel_rfl) rfl rfl rfl rfl (FE_285 N _ _) z4B rfl h
  . trivial
theorem FE_249 (N : Nat) (a0 : List UInt8) : fsem (D:=D) (x1S [(254,x4S N)]) N (ycOf Tryz.prog 249 [[((.tmp 3),(.int .i64))]]) [.t 2] [.str a0] .leaf 0 K_r1 = v1C N a0:=by kernel_rfl
def z2V (N : Nat) : List (PV D) -> Bt D -> Nat -> CallR D:=fun args _ _=>match args with
  | [.str a0]=> .opt (Bool) (v1C N a0) default O_r1
  | _=> .bad
theorem z0R (hkn : HkS hk) (N : Nat) : EOk hk V 249 (z2V N):=fun args B m=>by
  unfold z2V;split
  . exact fun _ h=>eP hkn (x0H (tok1 (x2K hkn N) (tok0))) (sz:= 21) (by kernel_rfl) rfl rfl rfl rfl (FE_249 N _) z4B rfl h
  . trivial
theorem FE_250 (N : Nat) (a0 : List UInt8) : fsem (D:=D) (x1S [(249,z2V N),(251,y0E N),(252,z2U N),(253,z2T N),(254,x4S N),(282,y7G N),(283,u1S N),(284,u1R N),(285,u1Q N)]) N (ycOf Tryz.prog 250 [[((.tmp 4),(.int .i64))]]) [.t 2] [.str a0] .leaf 0 K_r1 = v1B N a0:=by kernel_rfl
def u1W (N : Nat) : List (PV D) -> Bt D -> Nat -> CallR D:=fun args _ _=>match args with
  | [.str a0]=> .opt (Bool) (v1B N a0) default O_r1
  | _=> .bad
theorem u9L (hkn : HkS hk) (N : Nat) : EOk hk V 250 (u1W N):=fun args B m=>by
  unfold u1W;split
  . exact fun _ h=>eP hkn (x0H (tok1 (z0R hkn N) (tok1 (x6R hkn N) (tok1 (z0Q hkn N) (tok1 (z0P hkn N) (tok1 (x2K hkn N) (tok1 (y2L hkn N) (tok1 (u9G hkn N) (tok1 (u9F hkn N) (tok1 (u9E hkn N) (tok0))))))))))) (sz:= 50) (by kernel_rfl) rfl rfl rfl rfl (FE_250 N _) z4B rfl h
  . trivial
def K_r4 : PV D -> Y D -> Option (Int × Int):=fun v _=>match v with
  | .tup [.int .i64 q0, .int .i64 q1]=>some (q0,q1)
  | _=>none
def O_r4 (r : Int × Int) : PV D:= .tup [.int .i64 r.1, .int .i64 r.2]
theorem KO_r4 {r : Int × Int} (v : PV D) (st : Y D) (h : K_r4 v st = some r) : v = O_r4 r:=by
  unfold K_r4 at h;split at h <;> first | (cases h; rfl) | (cases h)
theorem FE_279 (N : Nat) (a0 : List UInt8) (a1 : Int) : fsem (D:=D) (x1S []) N (ycOf Tryz.prog 279 [[((.tmp 6),(.int .i64)),((.tmp 7),(.int .i64))]]) [.t 4, .t 5] [.str a0, .int .i64 a1] .leaf 0 K_r4 = u3Q N a0 a1:=by kernel_rfl
def u1V (N : Nat) : List (PV D) -> Bt D -> Nat -> CallR D:=fun args _ _=>match args with
  | [.str a0, .int .i64 a1]=> .opt (Int × Int) (u3Q N a0 a1) default O_r4
  | _=> .bad
theorem u9K (hkn : HkS hk) (N : Nat) : EOk hk V 279 (u1V N):=fun args B m=>by
  unfold u1V;split
  . exact fun _ h=>eP hkn (x0H (tok0)) (sz:= 58) (by kernel_rfl) rfl rfl rfl rfl (FE_279 N _ _) KO_r4 rfl h
  . trivial
def K_r5 : PV D -> Y D -> Option (List UInt8 × Int):=fun v _=>match v with
  | .tup [.str q0, .int .i64 q1]=>some (q0,q1)
  | _=>none
def O_r5 (r : List UInt8 × Int) : PV D:= .tup [.str r.1, .int .i64 r.2]
theorem KO_r5 {r : List UInt8 × Int} (v : PV D) (st : Y D) (h : K_r5 v st = some r) : v = O_r5 r:=by
  unfold K_r5 at h;split at h <;> first | (cases h; rfl) | (cases h)
theorem FE_248 (N : Nat) (a0 : List UInt8) : fsem (D:=D) (x1S [(254,x4S N),(280,u1U N),(279,u1V N),(281,u1T N)]) N (ycOf Tryz.prog 248 [[((.tmp 4), .str),((.tmp 5),(.int .i64))]]) [.t 2, .t 3] [.str a0] .leaf 0 K_r5 = v7Q N a0:=by kernel_rfl
def u1X (N : Nat) : List (PV D) -> Bt D -> Nat -> CallR D:=fun args _ _=>match args with
  | [.str a0]=> .opt (List UInt8 × Int) (v7Q N a0) default O_r5
  | _=> .bad
theorem u9M (hkn : HkS hk) (N : Nat) : EOk hk V 248 (u1X N):=fun args B m=>by
  unfold u1X;split
  . exact fun _ h=>eP hkn (x0H (tok1 (x2K hkn N) (tok1 (u9J hkn N) (tok1 (u9K hkn N) (tok1 (u9H hkn N) (tok0)))))) (sz:= 55) (by kernel_rfl) rfl rfl rfl rfl (FE_248 N _) KO_r5 rfl h
  . trivial
theorem FE_140 (N : Nat) (a0 : Int) (a1 : Int) (a2 : Int) (a3 : Bool) (a4 : List UInt8) : fsem (D:=D) (x1S []) N (ycOf Tryz.prog 140 []) [.t 2] [.agg [.int .i64 a0, .int .i64 a1, .int .i64 a2, .bool a3, .str a4]] .leaf 0 K_r1 = F_140 N a0 a1 a2 a3 a4:=by kernel_rfl
def u2N (N : Nat) : List (PV D) -> Bt D -> Nat -> CallR D:=fun args _ _=>match args with
  | [.agg [.int .i64 a0, .int .i64 a1, .int .i64 a2, .bool a3, .str a4]]=> .opt (Bool) (F_140 N a0 a1 a2 a3 a4) default O_r1
  | _=> .bad
theorem v0C (hkn : HkS hk) (N : Nat) : EOk hk V 140 (u2N N):=fun args B m=>by
  unfold u2N;split
  . exact fun _ h=>eP hkn (x0H (tok0)) (sz:= 11) (by kernel_rfl) rfl rfl rfl rfl (FE_140 N _ _ _ _ _) z4B rfl h
  . trivial
theorem FE_235 (N : Nat) (a0 : Int) (a1 : Int) (a2 : Int) (a3 : Bool) (a4 : List UInt8) : fsem (D:=D) (x1S []) N (ycOf Tryz.prog 235 []) [.t 2] [.agg [.int .i64 a0, .int .i64 a1, .int .i64 a2, .bool a3, .str a4]] .leaf 0 K_r0 = F_235 N a0 a1 a2 a3 a4:=by kernel_rfl
def u2A (N : Nat) : List (PV D) -> Bt D -> Nat -> CallR D:=fun args _ _=>match args with
  | [.agg [.int .i64 a0, .int .i64 a1, .int .i64 a2, .bool a3, .str a4]]=> .opt (Int) (F_235 N a0 a1 a2 a3 a4) default O_r0
  | _=> .bad
theorem u9Q (hkn : HkS hk) (N : Nat) : EOk hk V 235 (u2A N):=fun args B m=>by
  unfold u2A;split
  . exact fun _ h=>eP hkn (x0H (tok0)) (sz:= 53) (by kernel_rfl) rfl rfl rfl rfl (FE_235 N _ _ _ _ _) y0H rfl h
  . trivial
theorem FE_200 (N : Nat) (a0 : Int) (a1 : Int) (a2 : Int) (a3 : Bool) (a4 : List UInt8) : fsem (D:=D) (x1S [(235,u2A N)]) N (ycOf Tryz.prog 200 []) [.t 2] [.agg [.int .i64 a0, .int .i64 a1, .int .i64 a2, .bool a3, .str a4]] .leaf 0 K_r1 = F_200 N a0 a1 a2 a3 a4:=by kernel_rfl
def u2E (N : Nat) : List (PV D) -> Bt D -> Nat -> CallR D:=fun args _ _=>match args with
  | [.agg [.int .i64 a0, .int .i64 a1, .int .i64 a2, .bool a3, .str a4]]=> .opt (Bool) (F_200 N a0 a1 a2 a3 a4) default O_r1
  | _=> .bad
theorem u9U (hkn : HkS hk) (N : Nat) : EOk hk V 200 (u2E N):=fun args B m=>by
  unfold u2E;split
  . exact fun _ h=>eP hkn (x0H (tok1 (u9Q hkn N) (tok0))) (sz:= 6) (by kernel_rfl) rfl rfl rfl rfl (FE_200 N _ _ _ _ _) z4B rfl h
  . trivial
def K_r6 : PV D -> Y D -> Option ((List UInt8 × Bool × Int × Int × Int × Bool) × Int):=fun v _=>match v with
  | .tup [.agg [.str q0, .bool q1, .int .i64 q2, .int .i64 q3, .int .i64 q4, .bool q5], .int .i64 q6]=>some ((q0,q1,q2,q3,q4,q5),q6)
  | _=>none
def O_r6 (r : (List UInt8 × Bool × Int × Int × Int × Bool) × Int) : PV D:= .tup [.agg [.str r.1.1, .bool r.1.2.1, .int .i64 r.1.2.2.1, .int .i64 r.1.2.2.2.1, .int .i64 r.1.2.2.2.2.1, .bool r.1.2.2.2.2.2], .int .i64 r.2]
theorem KO_r6 {r : (List UInt8 × Bool × Int × Int × Int × Bool) × Int} (v : PV D) (st : Y D) (h : K_r6 v st = some r) : v = O_r6 r:=by
  unfold K_r6 at h;split at h <;> first | (cases h; rfl) | (cases h)
theorem FE_218 (N : Nat) (a0 : List UInt8) : fsem (D:=D) (x1S [(248,u1X N),(249,z2V N),(250,u1W N),(251,y0E N),(252,z2U N),(253,z2T N),(254,x4S N)]) N (ycOf Tryz.prog 218 [[((.tmp 8),(.int .i64)),((.cell 1 0), .str),((.cell 1 1), .bool),((.cell 1 2),(.int .i64)),((.cell 1 3),(.int .i64)),((.cell 1 4),(.int .i64)),((.cell 1 5), .bool)]]) [.c 2 6 true, .t 3] [.str a0] .leaf 0 K_r6 = v1D N a0:=by kernel_rfl
def z2W (N : Nat) : List (PV D) -> Bt D -> Nat -> CallR D:=fun args _ _=>match args with
  | [.str a0]=> .opt ((List UInt8 × Bool × Int × Int × Int × Bool) × Int) (v1D N a0) default O_r6
  | _=> .bad
theorem z0S (hkn : HkS hk) (N : Nat) : EOk hk V 218 (z2W N):=fun args B m=>by
  unfold z2W;split
  . exact fun _ h=>eP hkn (x0H (tok1 (u9M hkn N) (tok1 (z0R hkn N) (tok1 (u9L hkn N) (tok1 (x6R hkn N) (tok1 (z0Q hkn N) (tok1 (z0P hkn N) (tok1 (x2K hkn N) (tok0))))))))) (sz:= 69) (by kernel_rfl) rfl rfl rfl rfl (FE_218 N _) KO_r6 rfl h
  . trivial
theorem FE_201 (N : Nat) (a0 : List UInt8) : fsem (D:=D) (x1S [(218,z2W N)]) N (ycOf Tryz.prog 201 []) [.t 2] [.str a0] .leaf 0 K_r0 = v7R N a0:=by kernel_rfl
def u2D (N : Nat) : List (PV D) -> Bt D -> Nat -> CallR D:=fun args _ _=>match args with
  | [.str a0]=> .opt (Int) (v7R N a0) default O_r0
  | _=> .bad
theorem u9T (hkn : HkS hk) (N : Nat) : EOk hk V 201 (u2D N):=fun args B m=>by
  unfold u2D;split
  . exact fun _ h=>eP hkn (x0H (tok1 (z0S hkn N) (tok0))) (sz:= 11) (by kernel_rfl) rfl rfl rfl rfl (FE_201 N _) y0H rfl h
  . trivial
theorem FE_178 (N : Nat) (a0 : Int) (a1 : Int) (a2 : Int) (a3 : Bool) (a4 : List UInt8) : fsem (D:=D) (x1S [(200,u2E N),(201,u2D N)]) N (ycOf Tryz.prog 178 []) [.t 2] [.agg [.int .i64 a0, .int .i64 a1, .int .i64 a2, .bool a3, .str a4]] .leaf 0 K_r0 = v7S N a0 a1 a2 a3 a4:=by kernel_rfl
def u2H (N : Nat) : List (PV D) -> Bt D -> Nat -> CallR D:=fun args _ _=>match args with
  | [.agg [.int .i64 a0, .int .i64 a1, .int .i64 a2, .bool a3, .str a4]]=> .opt (Int) (v7S N a0 a1 a2 a3 a4) default O_r0
  | _=> .bad
theorem u9X (hkn : HkS hk) (N : Nat) : EOk hk V 178 (u2H N):=fun args B m=>by
  unfold u2H;split
  . exact fun _ h=>eP hkn (x0H (tok1 (u9U hkn N) (tok1 (u9T hkn N) (tok0)))) (sz:= 81) (by kernel_rfl) rfl rfl rfl rfl (FE_178 N _ _ _ _ _) y0H rfl h
  . trivial
theorem FE_147 (N : Nat) (a0 : Int) (a1 : Int) (a2 : Int) (a3 : Bool) (a4 : List UInt8) : fsem (D:=D) (x1S [(178,u2H N)]) N (ycOf Tryz.prog 147 []) [.t 2] [.agg [.int .i64 a0, .int .i64 a1, .int .i64 a2, .bool a3, .str a4]] .leaf 0 K_r0 = v1F N a0 a1 a2 a3 a4:=by kernel_rfl
def z2Z (N : Nat) : List (PV D) -> Bt D -> Nat -> CallR D:=fun args _ _=>match args with
  | [.agg [.int .i64 a0, .int .i64 a1, .int .i64 a2, .bool a3, .str a4]]=> .opt (Int) (v1F N a0 a1 a2 a3 a4) default O_r0
  | _=> .bad
theorem y2N (hkn : HkS hk) (N : Nat) : EOk hk V 147 (z2Z N):=fun args B m=>by
  unfold z2Z;split
  . exact fun _ h=>eP hkn (x0H (tok1 (u9X hkn N) (tok0))) (sz:= 36) (by kernel_rfl) rfl rfl rfl rfl (FE_147 N _ _ _ _ _) y0H rfl h
  . trivial
def K_r7 : PV D -> Y D -> Option (Int × Bool):=fun v _=>match v with
  | .tup [.int .i64 q0, .bool q1]=>some (q0,q1)
  | _=>none
def O_r7 (r : Int × Bool) : PV D:= .tup [.int .i64 r.1, .bool r.2]
theorem KO_r7 {r : Int × Bool} (v : PV D) (st : Y D) (h : K_r7 v st = some r) : v = O_r7 r:=by
  unfold K_r7 at h;split at h <;> first | (cases h; rfl) | (cases h)
theorem FE_202 (N : Nat) (a0 : Int) (a1 : Int) : fsem (D:=D) (x1S []) N (ycOf Tryz.prog 202 []) [.t 4, .t 5] [.int .i64 a0, .int .i32 a1] .leaf 0 K_r7 = u3R N a0 a1:=by kernel_rfl
def u2C (N : Nat) : List (PV D) -> Bt D -> Nat -> CallR D:=fun args _ _=>match args with
  | [.int .i64 a0, .int .i32 a1]=> .opt (Int × Bool) (u3R N a0 a1) default O_r7
  | _=> .bad
theorem u9S (hkn : HkS hk) (N : Nat) : EOk hk V 202 (u2C N):=fun args B m=>by
  unfold u2C;split
  . exact fun _ h=>eP hkn (x0H (tok0)) (sz:= 29) (by kernel_rfl) rfl rfl rfl rfl (FE_202 N _ _) KO_r7 rfl h
  . trivial
def z7M (N : Nat) : List (PV D) -> Bt D -> Nat -> CallR D:=fun args B m=>inlC (x1S [(236,y2M N)]) N (ycOf Tryz.prog 203 [[((.tmp 0),(.rowI 5 .u8)),((.tmp 32),(.int .i64))]]) [.t 6, .t 7] 41 (.tup [.nils,(.bool false)]) args B m
theorem z7L (hkn : HkS hk) (N : Nat) : EOk hk V 203 (z7M N):=fun args B m=>inlE hkn (x0H (tok1 (x9K hkn N) (tok0))) (by kernel_rfl) rfl args B m
def z7R (N : Nat) : List (PV D) -> Bt D -> Nat -> CallR D:=fun args B m=>inlC (x1S [(202,u2C N),(203,z7M N)]) N (ycOf Tryz.prog 180 [[((.tmp 4),(.rowI 5 .u8)),((.tmp 5),(.int .i64)),((.tmp 6),(.int .i64)),((.tmp 7), .bool),((.row 1), .iter)]]) [.t 2, .t 3] 74 (.tup [(.str []),(.bool false)]) args B m
theorem z7Q (hkn : HkS hk) (N : Nat) : EOk hk V 180 (z7R N):=fun args B m=>inlE hkn (x0H (tok1 (u9S hkn N) (tok1 (z7L hkn N) (tok0)))) (by kernel_rfl) rfl args B m
def z7K (N : Nat) : List (PV D) -> Bt D -> Nat -> CallR D:=fun args B m=>inlC (x1S [(214,z2X N),(236,y2M N),(244,u1Z N),(245,u1Y N)]) N (ycOf Tryz.prog 213 [[((.tmp 16),(.int .i64)),((.cell 2 0), .str),((.cell 2 1), .bool),((.cell 2 2),(.int .i64)),((.cell 2 3),(.int .i64)),((.cell 2 4),(.int .i64)),((.cell 2 5), .bool),((.cell 2 7),(.int .u8)),((.cell 2 8),(.int .i64)),((.cell 2 9), .bool),((.cell 2 10),(.int .u8)),((.cell 2 11),(.int .i64))],[((.tmp 60),(.int .i64))]]) [.t 4] 74 (.bool false) args B m
theorem z7J (hkn : HkS hk) (N : Nat) : EOk hk V 213 (z7K N):=fun args B m=>inlE hkn (x0H (tok1 (z0T hkn N) (tok1 (x9K hkn N) (tok1 (u9P hkn N) (tok1 (u9N hkn N) (tok0)))))) (by kernel_rfl) rfl args B m
def z7B (N : Nat) : List (PV D) -> Bt D -> Nat -> CallR D:=fun args B m=>inlC (x1S [(236,y2M N)]) N (ycOf Tryz.prog 247 []) [.t 6] 51 (.int .i64 0) args B m
theorem z7A (hkn : HkS hk) (N : Nat) : EOk hk V 247 (z7B N):=fun args B m=>inlE hkn (x0H (tok1 (x9K hkn N) (tok0))) (by kernel_rfl) rfl args B m
def z7H (N : Nat) : List (PV D) -> Bt D -> Nat -> CallR D:=fun args B m=>inlC (x1S [(247,z7B N)]) N (ycOf Tryz.prog 215 [[((.tmp 5),(.int .i64)),((.tmp 6), .bool),((.tmp 13),(.int .i64)),((.cell 2 0), .str),((.cell 2 1), .bool),((.cell 2 2),(.int .i64)),((.cell 2 3),(.int .i64)),((.cell 2 4),(.int .i64)),((.cell 2 5), .bool),((.cell 2 6),(.rowI 248 .i64)),((.cell 2 7),(.int .u8)),((.cell 2 8),(.int .i64)),((.cell 2 9), .bool),((.cell 2 10),(.int .u8)),((.cell 2 11),(.int .i64))]]) [.t 4] 122 (.bool false) args B m
theorem z7G (hkn : HkS hk) (N : Nat) : EOk hk V 215 (z7H N):=fun args B m=>inlE hkn (x0H (tok1 (z7A hkn N) (tok0))) (by kernel_rfl) rfl args B m
def z7F (N : Nat) : List (PV D) -> Bt D -> Nat -> CallR D:=fun args B m=>inlC (x1S []) N (ycOf Tryz.prog 216 [[((.tmp 5),(.int .i64)),((.tmp 6),(.int .i64)),((.tmp 18),(.int .i64))],[((.tmp 49),(.int .i64))]]) [.t 4] 79 (.bool false) args B m
theorem z7E (hkn : HkS hk) (N : Nat) : EOk hk V 216 (z7F N):=fun args B m=>inlE hkn (x0H (tok0)) (by kernel_rfl) rfl args B m
def z7D (N : Nat) : List (PV D) -> Bt D -> Nat -> CallR D:=fun args B m=>inlC (x1S [(236,y2M N)]) N (ycOf Tryz.prog 217 [[((.tmp 5),(.int .i64)),((.tmp 11),(.int .i64))]]) [.t 4] 39 (.int .i64 0) args B m
theorem z7C (hkn : HkS hk) (N : Nat) : EOk hk V 217 (z7D N):=fun args B m=>inlE hkn (x0H (tok1 (x9K hkn N) (tok0))) (by kernel_rfl) rfl args B m
def z7P (N : Nat) : List (PV D) -> Bt D -> Nat -> CallR D:=fun args B m=>inlC (x1S [(182,z2Y N),(212,u2B N),(213,z7K N),(214,z2X N),(215,z7H N),(216,z7F N),(217,z7D N)]) N (ycOf Tryz.prog 183 []) [.t 2, .t 3] 114 (.tup [.nilp,(.bool false)]) args B m
theorem z7N (hkn : HkS hk) (N : Nat) : EOk hk V 183 (z7P N):=fun args B m=>inlE hkn (x0H (tok1 (z0U hkn N) (tok1 (u9R hkn N) (tok1 (z7J hkn N) (tok1 (z0T hkn N) (tok1 (z7G hkn N) (tok1 (z7E hkn N) (tok1 (z7C hkn N) (tok0))))))))) (by kernel_rfl) rfl args B m
def z7T (N : Nat) : List (PV D) -> Bt D -> Nat -> CallR D:=fun args B m=>inlC (x1S [(180,z7R N),(181,u2G N),(182,z2Y N),(183,z7P N)]) N (ycOf Tryz.prog 155 []) [.t 2, .t 3] 30 (.tup [.nilp,(.bool false)]) args B m
theorem z7S (hkn : HkS hk) (N : Nat) : EOk hk V 155 (z7T N):=fun args B m=>inlE hkn (x0H (tok1 (z7Q hkn N) (tok1 (u9W hkn N) (tok1 (z0U hkn N) (tok1 (z7N hkn N) (tok0)))))) (by kernel_rfl) rfl args B m
theorem FE_112 (N : Nat) (a0 : List UInt8) : fsem (D:=D) (x1S [(155,z7T N)]) N (ycOf Tryz.prog 112 []) [.c 2 6 true, .t 3] [.str a0] .leaf 0 K_r6 = v7U N a0:=by kernel_rfl
def z3A (N : Nat) : List (PV D) -> Bt D -> Nat -> CallR D:=fun args _ _=>match args with
  | [.str a0]=> .opt ((List UInt8 × Bool × Int × Int × Int × Bool) × Int) (v7U N a0) default O_r6
  | _=> .bad
theorem z0W (hkn : HkS hk) (N : Nat) : EOk hk V 112 (z3A N):=fun args B m=>by
  unfold z3A;split
  . exact fun _ h=>eP hkn (x0H (tok1 (z7S hkn N) (tok0))) (sz:= 18) (by kernel_rfl) rfl rfl rfl rfl (FE_112 N _) KO_r6 rfl h
  . trivial
theorem FE_142 (N : Nat) (a0 : List UInt8) : fsem (D:=D) (x1S [(112,z3A N)]) N (ycOf Tryz.prog 142 []) [.t 2] [.str a0] .leaf 0 K_r0 = v7T N a0:=by kernel_rfl
def u2L (N : Nat) : List (PV D) -> Bt D -> Nat -> CallR D:=fun args _ _=>match args with
  | [.str a0]=> .opt (Int) (v7T N a0) default O_r0
  | _=> .bad
theorem v0A (hkn : HkS hk) (N : Nat) : EOk hk V 142 (u2L N):=fun args B m=>by
  unfold u2L;split
  . exact fun _ h=>eP hkn (x0H (tok1 (z0W hkn N) (tok0))) (sz:= 11) (by kernel_rfl) rfl rfl rfl rfl (FE_142 N _) y0H rfl h
  . trivial
theorem FE_84 (N : Nat) (a0 : Int) (a1 : Int) (a2 : Int) (a3 : Bool) (a4 : List UInt8) : fsem (D:=D) (x1S [(140,u2N N),(141,u2M N),(142,u2L N)]) N (ycOf Tryz.prog 84 []) [.t 2] [.agg [.int .i64 a0, .int .i64 a1, .int .i64 a2, .bool a3, .str a4]] .leaf 0 K_r0 = F_84 N a0 a1 a2 a3 a4:=by kernel_rfl
def u6J (N : Nat) : List (PV D) -> Bt D -> Nat -> CallR D:=fun args _ _=>match args with
  | [.agg [.int .i64 a0, .int .i64 a1, .int .i64 a2, .bool a3, .str a4]]=> .opt (Int) (F_84 N a0 a1 a2 a3 a4) default O_r0
  | _=> .bad
theorem y7F (hkn : HkS hk) (N : Nat) : EOk hk V 84 (u6J N):=fun args B m=>by
  unfold u6J;split
  . exact fun _ h=>eP hkn (x0H (tok1 (v0C hkn N) (tok1 (v0B hkn N) (tok1 (v0A hkn N) (tok0))))) (sz:= 81) (by kernel_rfl) rfl rfl rfl rfl (FE_84 N _ _ _ _ _) y0H rfl h
  . trivial
theorem FE_53 (N : Nat) (a0 : Int) (a1 : Int) (a2 : Int) (a3 : Bool) (a4 : List UInt8) : fsem (D:=D) (x1S [(84,u6J N),(112,z3A N)]) N (ycOf Tryz.prog 53 []) [.t 2] [.agg [.int .i64 a0, .int .i64 a1, .int .i64 a2, .bool a3, .str a4]] .leaf 0 K_r0 = F_53 N a0 a1 a2 a3 a4:=by kernel_rfl
def v5T (N : Nat) : List (PV D) -> Bt D -> Nat -> CallR D:=fun args _ _=>match args with
  | [.agg [.int .i64 a0, .int .i64 a1, .int .i64 a2, .bool a3, .str a4]]=> .opt (Int) (F_53 N a0 a1 a2 a3 a4) default O_r0
  | _=> .bad
theorem z6Z (hkn : HkS hk) (N : Nat) : EOk hk V 53 (v5T N):=fun args B m=>by
  unfold v5T;split
  . exact fun _ h=>eP hkn (x0H (tok1 (y7F hkn N) (tok1 (z0W hkn N) (tok0)))) (sz:= 53) (by kernel_rfl) rfl rfl rfl rfl (FE_53 N _ _ _ _ _) y0H rfl h
  . trivial
theorem FE_26 (N : Nat) (a0 : Int) (a1 : Int) (a2 : Int) (a3 : Bool) (a4 : List UInt8) : fsem (D:=D) (x1S [(84,u6J N),(53,v5T N)]) N (ycOf Tryz.prog 26 []) [.t 2] [.agg [.int .i64 a0, .int .i64 a1, .int .i64 a2, .bool a3, .str a4]] .leaf 0 K_r0 = F_26 N a0 a1 a2 a3 a4:=by kernel_rfl
def ent_26 (N : Nat) : List (PV D) -> Bt D -> Nat -> CallR D:=fun args _ _=>match args with
  | [.agg [.int .i64 a0, .int .i64 a1, .int .i64 a2, .bool a3, .str a4]]=> .opt (Int) (F_26 N a0 a1 a2 a3 a4) default O_r0
  | _=> .bad
theorem v5U (hkn : HkS hk) (N : Nat) : EOk hk V 26 (ent_26 N):=fun args B m=>by
  unfold ent_26;split
  . exact fun _ h=>eP hkn (x0H (tok1 (y7F hkn N) (tok1 (z6Z hkn N) (tok0)))) (sz:= 17) (by kernel_rfl) rfl rfl rfl rfl (FE_26 N _ _ _ _ _) y0H rfl h
  . trivial
theorem FE_184 (N : Nat) (a0 : Int) (a1 : Int) (a2 : Int) (a3 : Bool) (a4 : List UInt8) : fsem (D:=D) (x1S [(218,z2W N)]) N (ycOf Tryz.prog 184 []) [.t 2] [.agg [.int .i64 a0, .int .i64 a1, .int .i64 a2, .bool a3, .str a4]] .leaf 0 K_r0 = F_184 N a0 a1 a2 a3 a4:=by kernel_rfl
def u2F (N : Nat) : List (PV D) -> Bt D -> Nat -> CallR D:=fun args _ _=>match args with
  | [.agg [.int .i64 a0, .int .i64 a1, .int .i64 a2, .bool a3, .str a4]]=> .opt (Int) (F_184 N a0 a1 a2 a3 a4) default O_r0
  | _=> .bad
theorem u9V (hkn : HkS hk) (N : Nat) : EOk hk V 184 (u2F N):=fun args B m=>by
  unfold u2F;split
  . exact fun _ h=>eP hkn (x0H (tok1 (z0S hkn N) (tok0))) (sz:= 33) (by kernel_rfl) rfl rfl rfl rfl (FE_184 N _ _ _ _ _) y0H rfl h
  . trivial
theorem FE_156 (N : Nat) (a0 : Int) (a1 : Int) (a2 : Int) (a3 : Bool) (a4 : List UInt8) : fsem (D:=D) (x1S [(147,z2Z N),(184,u2F N)]) N (ycOf Tryz.prog 156 []) [.t 2] [.agg [.int .i64 a0, .int .i64 a1, .int .i64 a2, .bool a3, .str a4]] .leaf 0 K_r0 = v1E N a0 a1 a2 a3 a4:=by kernel_rfl
def u2K (N : Nat) : List (PV D) -> Bt D -> Nat -> CallR D:=fun args _ _=>match args with
  | [.agg [.int .i64 a0, .int .i64 a1, .int .i64 a2, .bool a3, .str a4]]=> .opt (Int) (v1E N a0 a1 a2 a3 a4) default O_r0
  | _=> .bad
theorem z0V (hkn : HkS hk) (N : Nat) : EOk hk V 156 (u2K N):=fun args B m=>by
  unfold u2K;split
  . exact fun _ h=>eP hkn (x0H (tok1 (y2N hkn N) (tok1 (u9V hkn N) (tok0)))) (sz:= 45) (by kernel_rfl) rfl rfl rfl rfl (FE_156 N _ _ _ _ _) y0H rfl h
  . trivial
theorem FE_157 (N : Nat) (a0 : Int) (a1 : Int) (a2 : Int) (a3 : Bool) (a4 : List UInt8) : fsem (D:=D) (x1S [(147,z2Z N),(156,u2K N)]) N (ycOf Tryz.prog 157 []) [.t 2] [.agg [.int .i64 a0, .int .i64 a1, .int .i64 a2, .bool a3, .str a4]] .leaf 0 K_r0 = F_157 N a0 a1 a2 a3 a4:=by kernel_rfl
def v5V (N : Nat) : List (PV D) -> Bt D -> Nat -> CallR D:=fun args _ _=>match args with
  | [.agg [.int .i64 a0, .int .i64 a1, .int .i64 a2, .bool a3, .str a4]]=> .opt (Int) (F_157 N a0 a1 a2 a3 a4) default O_r0
  | _=> .bad
theorem u9Z (hkn : HkS hk) (N : Nat) : EOk hk V 157 (v5V N):=fun args B m=>by
  unfold v5V;split
  . exact fun _ h=>eP hkn (x0H (tok1 (y2N hkn N) (tok1 (z0V hkn N) (tok0)))) (sz:= 17) (by kernel_rfl) rfl rfl rfl rfl (FE_157 N _ _ _ _ _) y0H rfl h
  . trivial
end
end Go.Yec
