/-
  G1
-/
import Derived.Test.YtadehgdfijjikaaGreatDoorY15
import Derived.Test.YtadehgdfijjikaaGreatDoorY16
import Derived.Test.YtadehgdfijjikaaGreatDoorG1
set_option linter.all false
namespace Go.Yec
open Go Go.Xec Go.Proofs
noncomputable section
variable {D : Type} {V : D -> List (PV D)} {hk : Hook}
def K_r0 : PV D -> Y D -> Option (Int):=fun v _=>match v with
  | .int .i64 q0=>some q0
  | _=>none
def O_r0 (r : Int) : PV D:= .int .i64 r
theorem x9S {r : Int} (v : PV D) (st : Y D) (h : K_r0 v st = some r) : v = O_r0 r:=by
  unfold K_r0 at h
  split at h <;> first | (cases h; rfl) | (cases h)
theorem FE_174 (N : Nat) (a0 : Int) : fsem (D:=D) (x1R []) N (ycOf Tryz.prog 174 []) [.t 2] [.int .i64 a0] .leaf 0 K_r0 = F_174 N a0:=by kernel_rfl
def z9S (N : Nat) : List (PV D) -> Bt D -> Nat -> CallR D:=fun args _ _=>match args with
  | [.int .i64 a0]=> .opt (Int) (F_174 N a0) default O_r0
  | _=> .bad
theorem u6W (hkn : HkS hk) (N : Nat) : EOk hk V 174 (z9S N):=fun args B m=>by
  unfold z9S
  split
  . exact fun _ h=>eP hkn (x0H (tok0)) (sz:= 5) (by kernel_rfl) rfl rfl rfl rfl (FE_174 N _) x9S rfl h
  . trivial
theorem FE_141 (N : Nat) (a0 : Int) (a1 : Int) (a2 : Int) (a3 : Bool) (a4 : List UInt8) : fsem (D:=D) (x1R [(174,z9S N)]) N (ycOf Tryz.prog 141 []) [.t 2] [.agg [.int .i64 a0, .int .i64 a1, .int .i64 a2, .bool a3, .str a4]] .leaf 0 K_r0 = F_141 N a0 a1 a2 a3 a4:=by kernel_rfl
def z9V (N : Nat) : List (PV D) -> Bt D -> Nat -> CallR D:=fun args _ _=>match args with
  | [.agg [.int .i64 a0, .int .i64 a1, .int .i64 a2, .bool a3, .str a4]]=> .opt (Int) (F_141 N a0 a1 a2 a3 a4) default O_r0
  | _=> .bad
theorem u6Z (hkn : HkS hk) (N : Nat) : EOk hk V 141 (z9V N):=fun args B m=>by
  unfold z9V
  split
  . exact fun _ h=>eP hkn (x0H (tok1 (u6W hkn N) (tok0))) (sz:= 59) (by kernel_rfl) rfl rfl rfl rfl (FE_141 N _ _ _ _ _) x9S rfl h
  . trivial
theorem FE_251 (N : Nat) (a0 : List UInt8) (a1 : Int) : fsem (D:=D) (x1R []) N (ycOf Tryz.prog 251 [[((.tmp 5),(.int .i64)),((.tmp 6),(.int .i64))]]) [.t 4] [.str a0, .int .u8 a1] .leaf 0 K_r0 = x7E N a0 a1:=by kernel_rfl
def x9P (N : Nat) : List (PV D) -> Bt D -> Nat -> CallR D:=fun args _ _=>match args with
  | [.str a0, .int .u8 a1]=> .opt (Int) (x7E N a0 a1) default O_r0
  | _=> .bad
theorem x6H (hkn : HkS hk) (N : Nat) : EOk hk V 251 (x9P N):=fun args B m=>by
  unfold x9P
  split
  . exact fun _ h=>eP hkn (x0H (tok0)) (sz:= 21) (by kernel_rfl) rfl rfl rfl rfl (FE_251 N _ _) x9S rfl h
  . trivial
def K_r1 : PV D -> Y D -> Option (Bool):=fun v _=>match v with
  | .bool q0=>some q0
  | _=>none
def O_r1 (r : Bool) : PV D:= .bool r
theorem z2M {r : Bool} (v : PV D) (st : Y D) (h : K_r1 v st = some r) : v = O_r1 r:=by
  unfold K_r1 at h
  split at h <;> first | (cases h; rfl) | (cases h)
theorem FE_254 (N : Nat) (a0 : List UInt8) (a1 : Int) : fsem (D:=D) (x1R []) N (ycOf Tryz.prog 254 [[((.tmp 5),(.int .i64))]]) [.t 4] [.str a0, .int .u8 a1] .leaf 0 K_r1 = x2B N a0 a1:=by kernel_rfl
def x4K (N : Nat) : List (PV D) -> Bt D -> Nat -> CallR D:=fun args _ _=>match args with
  | [.str a0, .int .u8 a1]=> .opt (Bool) (x2B N a0 a1) default O_r1
  | _=> .bad
theorem x2G (hkn : HkS hk) (N : Nat) : EOk hk V 254 (x4K N):=fun args B m=>by
  unfold x4K
  split
  . exact fun _ h=>eP hkn (x0H (tok0)) (sz:= 17) (by kernel_rfl) rfl rfl rfl rfl (FE_254 N _ _) z2M rfl h
  . trivial
def K_r2 : PV D -> Y D -> Option (List UInt8):=fun v _=>match v with
  | .str q0=>some q0
  | _=>none
def O_r2 (r : List UInt8) : PV D:= .str r
theorem KO_r2 {r : List UInt8} (v : PV D) (st : Y D) (h : K_r2 v st = some r) : v = O_r2 r:=by
  unfold K_r2 at h
  split at h <;> first | (cases h; rfl) | (cases h)
theorem FE_281 (N : Nat) (a0 : Int) (a1 : Int) : fsem (D:=D) (x1R []) N (ycOf Tryz.prog 281 [[((.tmp 5),(.rowI 5 .u8)),((.tmp 6),(.int .i64))]]) [.t 4] [.int .u8 a0, .int .i64 a1] .leaf 0 K_r2 = y7M N a0 a1:=by kernel_rfl
def z9B (N : Nat) : List (PV D) -> Bt D -> Nat -> CallR D:=fun args _ _=>match args with
  | [.int .u8 a0, .int .i64 a1]=> .opt (List UInt8) (y7M N a0 a1) default O_r2
  | _=> .bad
theorem u6F (hkn : HkS hk) (N : Nat) : EOk hk V 281 (z9B N):=fun args B m=>by
  unfold z9B
  split
  . exact fun _ h=>eP hkn (x0H (tok0)) (sz:= 19) (by kernel_rfl) rfl rfl rfl rfl (FE_281 N _ _) KO_r2 rfl h
  . trivial
def K_r3 : PV D -> Y D -> Option (Int):=fun v _=>match v with
  | .int .u8 q0=>some q0
  | _=>none
def O_r3 (r : Int) : PV D:= .int .u8 r
theorem KO_r3 {r : Int} (v : PV D) (st : Y D) (h : K_r3 v st = some r) : v = O_r3 r:=by
  unfold K_r3 at h
  split at h <;> first | (cases h; rfl) | (cases h)
theorem FE_280 (N : Nat) (a0 : Int) : fsem (D:=D) (x1R []) N (ycOf Tryz.prog 280 []) [.t 2] [.int .u8 a0] .leaf 0 K_r3 = y7N N a0:=by kernel_rfl
def z9C (N : Nat) : List (PV D) -> Bt D -> Nat -> CallR D:=fun args _ _=>match args with
  | [.int .u8 a0]=> .opt (Int) (y7N N a0) default O_r3
  | _=> .bad
theorem u6G (hkn : HkS hk) (N : Nat) : EOk hk V 280 (z9C N):=fun args B m=>by
  unfold z9C
  split
  . exact fun _ h=>eP hkn (x0H (tok0)) (sz:= 13) (by kernel_rfl) rfl rfl rfl rfl (FE_280 N _) KO_r3 rfl h
  . trivial
theorem FE_282 (N : Nat) (a0 : List UInt8) : fsem (D:=D) (x1R []) N (ycOf Tryz.prog 282 []) [.t 2] [.str a0] .leaf 0 K_r1 = y7L N a0:=by kernel_rfl
def y6A (N : Nat) : List (PV D) -> Bt D -> Nat -> CallR D:=fun args _ _=>match args with
  | [.str a0]=> .opt (Bool) (y7L N a0) default O_r1
  | _=> .bad
theorem y1L (hkn : HkS hk) (N : Nat) : EOk hk V 282 (y6A N):=fun args B m=>by
  unfold y6A
  split
  . exact fun _ h=>eP hkn (x0H (tok0)) (sz:= 22) (by kernel_rfl) rfl rfl rfl rfl (FE_282 N _) z2M rfl h
  . trivial
theorem FE_286 (N : Nat) (a0 : List UInt8) : fsem (D:=D) (x1R [(251,x9P N),(254,x4K N)]) N (ycOf Tryz.prog 286 [[((.tmp 3),(.int .i64))]]) [.t 2] [.str a0] .leaf 0 K_r3 = z2P N a0:=by kernel_rfl
def y1K (N : Nat) : List (PV D) -> Bt D -> Nat -> CallR D:=fun args _ _=>match args with
  | [.str a0]=> .opt (Int) (z2P N a0) default O_r3
  | _=> .bad
theorem x8S (hkn : HkS hk) (N : Nat) : EOk hk V 286 (y1K N):=fun args B m=>by
  unfold y1K
  split
  . exact fun _ h=>eP hkn (x0H (tok1 (x6H hkn N) (tok1 (x2G hkn N) (tok0)))) (sz:= 25) (by kernel_rfl) rfl rfl rfl rfl (FE_286 N _) KO_r3 rfl h
  . trivial
theorem FE_253 (N : Nat) (a0 : List UInt8) : fsem (D:=D) (x1R [(254,x4K N),(282,y6A N),(286,y1K N)]) N (ycOf Tryz.prog 253 [[((.tmp 5),(.rowI 5 .u8)),((.tmp 6), .bool),((.tmp 7),(.int .i64))]]) [.t 2] [.str a0] .leaf 0 K_r2 = z6Z N a0:=by kernel_rfl
def z1D (N : Nat) : List (PV D) -> Bt D -> Nat -> CallR D:=fun args _ _=>match args with
  | [.str a0]=> .opt (List UInt8) (z6Z N a0) default O_r2
  | _=> .bad
theorem y9E (hkn : HkS hk) (N : Nat) : EOk hk V 253 (z1D N):=fun args B m=>by
  unfold z1D
  split
  . exact fun _ h=>eP hkn (x0H (tok1 (x2G hkn N) (tok1 (y1L hkn N) (tok1 (x8S hkn N) (tok0))))) (sz:= 73) (by kernel_rfl) rfl rfl rfl rfl (FE_253 N _) KO_r2 rfl h
  . trivial
theorem FE_283 (N : Nat) (a0 : List UInt8) : fsem (D:=D) (x1R [(251,x9P N),(254,x4K N),(286,y1K N)]) N (ycOf Tryz.prog 283 [[((.tmp 4),(.int .i64)),((.tmp 5),(.int .i64)),((.tmp 6),(.int .i64))],[((.tmp 7),(.int .i64))]]) [.t 2] [.str a0] .leaf 0 K_r1 = z6Y N a0:=by kernel_rfl
def z9A (N : Nat) : List (PV D) -> Bt D -> Nat -> CallR D:=fun args _ _=>match args with
  | [.str a0]=> .opt (Bool) (z6Y N a0) default O_r1
  | _=> .bad
theorem u6E (hkn : HkS hk) (N : Nat) : EOk hk V 283 (z9A N):=fun args B m=>by
  unfold z9A
  split
  . exact fun _ h=>eP hkn (x0H (tok1 (x6H hkn N) (tok1 (x2G hkn N) (tok1 (x8S hkn N) (tok0))))) (sz:= 70) (by kernel_rfl) rfl rfl rfl rfl (FE_283 N _) z2M rfl h
  . trivial
theorem FE_284 (N : Nat) (a0 : List UInt8) (a1 : List UInt8) : fsem (D:=D) (x1R [(254,x4K N),(286,y1K N)]) N (ycOf Tryz.prog 284 [[((.tmp 5), .bool),((.tmp 6), .bool),((.tmp 7), .bool),((.tmp 8),(.int .i64)),((.tmp 9),(.int .i64))]]) [.t 4] [.str a0, .str a1] .leaf 0 K_r1 = u0X N a0 a1:=by kernel_rfl
def z8Z (N : Nat) : List (PV D) -> Bt D -> Nat -> CallR D:=fun args _ _=>match args with
  | [.str a0, .str a1]=> .opt (Bool) (u0X N a0 a1) default O_r1
  | _=> .bad
theorem u6D (hkn : HkS hk) (N : Nat) : EOk hk V 284 (z8Z N):=fun args B m=>by
  unfold z8Z
  split
  . exact fun _ h=>eP hkn (x0H (tok1 (x2G hkn N) (tok1 (x8S hkn N) (tok0)))) (sz:= 67) (by kernel_rfl) rfl rfl rfl rfl (FE_284 N _ _) z2M rfl h
  . trivial
theorem FE_252 (N : Nat) (a0 : List UInt8) : fsem (D:=D) (x1R [(251,x9P N),(254,x4K N),(282,y6A N)]) N (ycOf Tryz.prog 252 [[((.tmp 4),(.int .i64)),((.tmp 5),(.int .i64))]]) [.t 2] [.str a0] .leaf 0 K_r0 = z7A N a0:=by kernel_rfl
def z1E (N : Nat) : List (PV D) -> Bt D -> Nat -> CallR D:=fun args _ _=>match args with
  | [.str a0]=> .opt (Int) (z7A N a0) default O_r0
  | _=> .bad
theorem y9F (hkn : HkS hk) (N : Nat) : EOk hk V 252 (z1E N):=fun args B m=>by
  unfold z1E
  split
  . exact fun _ h=>eP hkn (x0H (tok1 (x6H hkn N) (tok1 (x2G hkn N) (tok1 (y1L hkn N) (tok0))))) (sz:= 34) (by kernel_rfl) rfl rfl rfl rfl (FE_252 N _) x9S rfl h
  . trivial
theorem FE_285 (N : Nat) (a0 : List UInt8) (a1 : List UInt8) : fsem (D:=D) (x1R [(254,x4K N),(286,y1K N)]) N (ycOf Tryz.prog 285 [[((.tmp 6),(.int .i64))],[((.tmp 7), .bool),((.tmp 8), .bool),((.tmp 9),(.int .i64))]]) [.t 4] [.str a0, .str a1] .leaf 0 K_r1 = z6X N a0 a1:=by kernel_rfl
def z8Y (N : Nat) : List (PV D) -> Bt D -> Nat -> CallR D:=fun args _ _=>match args with
  | [.str a0, .str a1]=> .opt (Bool) (z6X N a0 a1) default O_r1
  | _=> .bad
theorem u6C (hkn : HkS hk) (N : Nat) : EOk hk V 285 (z8Y N):=fun args B m=>by
  unfold z8Y
  split
  . exact fun _ h=>eP hkn (x0H (tok1 (x2G hkn N) (tok1 (x8S hkn N) (tok0)))) (sz:= 69) (by kernel_rfl) rfl rfl rfl rfl (FE_285 N _ _) z2M rfl h
  . trivial
theorem FE_249 (N : Nat) (a0 : List UInt8) : fsem (D:=D) (x1R [(254,x4K N)]) N (ycOf Tryz.prog 249 [[((.tmp 3),(.int .i64))]]) [.t 2] [.str a0] .leaf 0 K_r1 = u8B N a0:=by kernel_rfl
def z1F (N : Nat) : List (PV D) -> Bt D -> Nat -> CallR D:=fun args _ _=>match args with
  | [.str a0]=> .opt (Bool) (u8B N a0) default O_r1
  | _=> .bad
theorem y9G (hkn : HkS hk) (N : Nat) : EOk hk V 249 (z1F N):=fun args B m=>by
  unfold z1F
  split
  . exact fun _ h=>eP hkn (x0H (tok1 (x2G hkn N) (tok0))) (sz:= 21) (by kernel_rfl) rfl rfl rfl rfl (FE_249 N _) z2M rfl h
  . trivial
theorem FE_250 (N : Nat) (a0 : List UInt8) : fsem (D:=D) (x1R [(249,z1F N),(251,x9P N),(252,z1E N),(253,z1D N),(254,x4K N),(282,y6A N),(283,z9A N),(284,z8Z N),(285,z8Y N)]) N (ycOf Tryz.prog 250 [[((.tmp 4),(.int .i64))]]) [.t 2] [.str a0] .leaf 0 K_r1 = u8A N a0:=by kernel_rfl
def z9E (N : Nat) : List (PV D) -> Bt D -> Nat -> CallR D:=fun args _ _=>match args with
  | [.str a0]=> .opt (Bool) (u8A N a0) default O_r1
  | _=> .bad
theorem u6J (hkn : HkS hk) (N : Nat) : EOk hk V 250 (z9E N):=fun args B m=>by
  unfold z9E
  split
  . exact fun _ h=>eP hkn (x0H (tok1 (y9G hkn N) (tok1 (x6H hkn N) (tok1 (y9F hkn N) (tok1 (y9E hkn N) (tok1 (x2G hkn N) (tok1 (y1L hkn N) (tok1 (u6E hkn N) (tok1 (u6D hkn N) (tok1 (u6C hkn N) (tok0))))))))))) (sz:= 50) (by kernel_rfl) rfl rfl rfl rfl (FE_250 N _) z2M rfl h
  . trivial
def K_r4 : PV D -> Y D -> Option (Int × Int):=fun v _=>match v with
  | .tup [.int .i64 q0, .int .i64 q1]=>some (q0,q1)
  | _=>none
def O_r4 (r : Int × Int) : PV D:= .tup [.int .i64 r.1, .int .i64 r.2]
theorem KO_r4 {r : Int × Int} (v : PV D) (st : Y D) (h : K_r4 v st = some r) : v = O_r4 r:=by
  unfold K_r4 at h
  split at h <;> first | (cases h; rfl) | (cases h)
theorem FE_279 (N : Nat) (a0 : List UInt8) (a1 : Int) : fsem (D:=D) (x1R []) N (ycOf Tryz.prog 279 [[((.tmp 6),(.int .i64)),((.tmp 7),(.int .i64))]]) [.t 4, .t 5] [.str a0, .int .i64 a1] .leaf 0 K_r4 = u0Y N a0 a1:=by kernel_rfl
def z9D (N : Nat) : List (PV D) -> Bt D -> Nat -> CallR D:=fun args _ _=>match args with
  | [.str a0, .int .i64 a1]=> .opt (Int × Int) (u0Y N a0 a1) default O_r4
  | _=> .bad
theorem u6H (hkn : HkS hk) (N : Nat) : EOk hk V 279 (z9D N):=fun args B m=>by
  unfold z9D
  split
  . exact fun _ h=>eP hkn (x0H (tok0)) (sz:= 58) (by kernel_rfl) rfl rfl rfl rfl (FE_279 N _ _) KO_r4 rfl h
  . trivial
def K_r5 : PV D -> Y D -> Option (List UInt8 × Int):=fun v _=>match v with
  | .tup [.str q0, .int .i64 q1]=>some (q0,q1)
  | _=>none
def O_r5 (r : List UInt8 × Int) : PV D:= .tup [.str r.1, .int .i64 r.2]
theorem KO_r5 {r : List UInt8 × Int} (v : PV D) (st : Y D) (h : K_r5 v st = some r) : v = O_r5 r:=by
  unfold K_r5 at h
  split at h <;> first | (cases h; rfl) | (cases h)
theorem FE_248 (N : Nat) (a0 : List UInt8) : fsem (D:=D) (x1R [(254,x4K N),(280,z9C N),(279,z9D N),(281,z9B N)]) N (ycOf Tryz.prog 248 [[((.tmp 4), .str),((.tmp 5),(.int .i64))]]) [.t 2, .t 3] [.str a0] .leaf 0 K_r5 = v4T N a0:=by kernel_rfl
def z9F (N : Nat) : List (PV D) -> Bt D -> Nat -> CallR D:=fun args _ _=>match args with
  | [.str a0]=> .opt (List UInt8 × Int) (v4T N a0) default O_r5
  | _=> .bad
theorem u6K (hkn : HkS hk) (N : Nat) : EOk hk V 248 (z9F N):=fun args B m=>by
  unfold z9F
  split
  . exact fun _ h=>eP hkn (x0H (tok1 (x2G hkn N) (tok1 (u6G hkn N) (tok1 (u6H hkn N) (tok1 (u6F hkn N) (tok0)))))) (sz:= 55) (by kernel_rfl) rfl rfl rfl rfl (FE_248 N _) KO_r5 rfl h
  . trivial
theorem FE_140 (N : Nat) (a0 : Int) (a1 : Int) (a2 : Int) (a3 : Bool) (a4 : List UInt8) : fsem (D:=D) (x1R []) N (ycOf Tryz.prog 140 []) [.t 2] [.agg [.int .i64 a0, .int .i64 a1, .int .i64 a2, .bool a3, .str a4]] .leaf 0 K_r1 = F_140 N a0 a1 a2 a3 a4:=by kernel_rfl
def z9W (N : Nat) : List (PV D) -> Bt D -> Nat -> CallR D:=fun args _ _=>match args with
  | [.agg [.int .i64 a0, .int .i64 a1, .int .i64 a2, .bool a3, .str a4]]=> .opt (Bool) (F_140 N a0 a1 a2 a3 a4) default O_r1
  | _=> .bad
theorem u7A (hkn : HkS hk) (N : Nat) : EOk hk V 140 (z9W N):=fun args B m=>by
  unfold z9W
  split
  . exact fun _ h=>eP hkn (x0H (tok0)) (sz:= 11) (by kernel_rfl) rfl rfl rfl rfl (FE_140 N _ _ _ _ _) z2M rfl h
  . trivial
theorem FE_235 (N : Nat) (a0 : Int) (a1 : Int) (a2 : Int) (a3 : Bool) (a4 : List UInt8) : fsem (D:=D) (x1R []) N (ycOf Tryz.prog 235 []) [.t 2] [.agg [.int .i64 a0, .int .i64 a1, .int .i64 a2, .bool a3, .str a4]] .leaf 0 K_r0 = F_235 N a0 a1 a2 a3 a4:=by kernel_rfl
def z9J (N : Nat) : List (PV D) -> Bt D -> Nat -> CallR D:=fun args _ _=>match args with
  | [.agg [.int .i64 a0, .int .i64 a1, .int .i64 a2, .bool a3, .str a4]]=> .opt (Int) (F_235 N a0 a1 a2 a3 a4) default O_r0
  | _=> .bad
theorem u6N (hkn : HkS hk) (N : Nat) : EOk hk V 235 (z9J N):=fun args B m=>by
  unfold z9J
  split
  . exact fun _ h=>eP hkn (x0H (tok0)) (sz:= 53) (by kernel_rfl) rfl rfl rfl rfl (FE_235 N _ _ _ _ _) x9S rfl h
  . trivial
theorem FE_200 (N : Nat) (a0 : Int) (a1 : Int) (a2 : Int) (a3 : Bool) (a4 : List UInt8) : fsem (D:=D) (x1R [(235,z9J N)]) N (ycOf Tryz.prog 200 []) [.t 2] [.agg [.int .i64 a0, .int .i64 a1, .int .i64 a2, .bool a3, .str a4]] .leaf 0 K_r1 = F_200 N a0 a1 a2 a3 a4:=by kernel_rfl
def z9N (N : Nat) : List (PV D) -> Bt D -> Nat -> CallR D:=fun args _ _=>match args with
  | [.agg [.int .i64 a0, .int .i64 a1, .int .i64 a2, .bool a3, .str a4]]=> .opt (Bool) (F_200 N a0 a1 a2 a3 a4) default O_r1
  | _=> .bad
theorem u6S (hkn : HkS hk) (N : Nat) : EOk hk V 200 (z9N N):=fun args B m=>by
  unfold z9N
  split
  . exact fun _ h=>eP hkn (x0H (tok1 (u6N hkn N) (tok0))) (sz:= 6) (by kernel_rfl) rfl rfl rfl rfl (FE_200 N _ _ _ _ _) z2M rfl h
  . trivial
def K_r6 : PV D -> Y D -> Option ((List UInt8 × Bool × Int × Int × Int × Bool) × Int):=fun v _=>match v with
  | .tup [.agg [.str q0, .bool q1, .int .i64 q2, .int .i64 q3, .int .i64 q4, .bool q5], .int .i64 q6]=>some ((q0,q1,q2,q3,q4,q5),q6)
  | _=>none
def O_r6 (r : (List UInt8 × Bool × Int × Int × Int × Bool) × Int) : PV D:= .tup [.agg [.str r.1.1, .bool r.1.2.1, .int .i64 r.1.2.2.1, .int .i64 r.1.2.2.2.1, .int .i64 r.1.2.2.2.2.1, .bool r.1.2.2.2.2.2], .int .i64 r.2]
theorem KO_r6 {r : (List UInt8 × Bool × Int × Int × Int × Bool) × Int} (v : PV D) (st : Y D) (h : K_r6 v st = some r) : v = O_r6 r:=by
  unfold K_r6 at h
  split at h <;> first | (cases h; rfl) | (cases h)
theorem FE_218 (N : Nat) (a0 : List UInt8) : fsem (D:=D) (x1R [(248,z9F N),(249,z1F N),(250,z9E N),(251,x9P N),(252,z1E N),(253,z1D N),(254,x4K N)]) N (ycOf Tryz.prog 218 [[((.tmp 8),(.int .i64)),((.cell 1 0), .str),((.cell 1 1), .bool),((.cell 1 2),(.int .i64)),((.cell 1 3),(.int .i64)),((.cell 1 4),(.int .i64)),((.cell 1 5), .bool)]]) [.c 2 6 true, .t 3] [.str a0] .leaf 0 K_r6 = u8C N a0:=by kernel_rfl
def z1G (N : Nat) : List (PV D) -> Bt D -> Nat -> CallR D:=fun args _ _=>match args with
  | [.str a0]=> .opt ((List UInt8 × Bool × Int × Int × Int × Bool) × Int) (u8C N a0) default O_r6
  | _=> .bad
theorem y9H (hkn : HkS hk) (N : Nat) : EOk hk V 218 (z1G N):=fun args B m=>by
  unfold z1G
  split
  . exact fun _ h=>eP hkn (x0H (tok1 (u6K hkn N) (tok1 (y9G hkn N) (tok1 (u6J hkn N) (tok1 (x6H hkn N) (tok1 (y9F hkn N) (tok1 (y9E hkn N) (tok1 (x2G hkn N) (tok0))))))))) (sz:= 69) (by kernel_rfl) rfl rfl rfl rfl (FE_218 N _) KO_r6 rfl h
  . trivial
theorem FE_201 (N : Nat) (a0 : List UInt8) : fsem (D:=D) (x1R [(218,z1G N)]) N (ycOf Tryz.prog 201 []) [.t 2] [.str a0] .leaf 0 K_r0 = v4U N a0:=by kernel_rfl
def z9M (N : Nat) : List (PV D) -> Bt D -> Nat -> CallR D:=fun args _ _=>match args with
  | [.str a0]=> .opt (Int) (v4U N a0) default O_r0
  | _=> .bad
theorem u6R (hkn : HkS hk) (N : Nat) : EOk hk V 201 (z9M N):=fun args B m=>by
  unfold z9M
  split
  . exact fun _ h=>eP hkn (x0H (tok1 (y9H hkn N) (tok0))) (sz:= 11) (by kernel_rfl) rfl rfl rfl rfl (FE_201 N _) x9S rfl h
  . trivial
theorem FE_178 (N : Nat) (a0 : Int) (a1 : Int) (a2 : Int) (a3 : Bool) (a4 : List UInt8) : fsem (D:=D) (x1R [(200,z9N N),(201,z9M N)]) N (ycOf Tryz.prog 178 []) [.t 2] [.agg [.int .i64 a0, .int .i64 a1, .int .i64 a2, .bool a3, .str a4]] .leaf 0 K_r0 = v4V N a0 a1 a2 a3 a4:=by kernel_rfl
def z9R (N : Nat) : List (PV D) -> Bt D -> Nat -> CallR D:=fun args _ _=>match args with
  | [.agg [.int .i64 a0, .int .i64 a1, .int .i64 a2, .bool a3, .str a4]]=> .opt (Int) (v4V N a0 a1 a2 a3 a4) default O_r0
  | _=> .bad
theorem u6V (hkn : HkS hk) (N : Nat) : EOk hk V 178 (z9R N):=fun args B m=>by
  unfold z9R
  split
  . exact fun _ h=>eP hkn (x0H (tok1 (u6S hkn N) (tok1 (u6R hkn N) (tok0)))) (sz:= 81) (by kernel_rfl) rfl rfl rfl rfl (FE_178 N _ _ _ _ _) x9S rfl h
  . trivial
theorem FE_147 (N : Nat) (a0 : Int) (a1 : Int) (a2 : Int) (a3 : Bool) (a4 : List UInt8) : fsem (D:=D) (x1R [(178,z9R N)]) N (ycOf Tryz.prog 147 []) [.t 2] [.agg [.int .i64 a0, .int .i64 a1, .int .i64 a2, .bool a3, .str a4]] .leaf 0 K_r0 = u8E N a0 a1 a2 a3 a4:=by kernel_rfl
def z1K (N : Nat) : List (PV D) -> Bt D -> Nat -> CallR D:=fun args _ _=>match args with
  | [.agg [.int .i64 a0, .int .i64 a1, .int .i64 a2, .bool a3, .str a4]]=> .opt (Int) (u8E N a0 a1 a2 a3 a4) default O_r0
  | _=> .bad
theorem y1N (hkn : HkS hk) (N : Nat) : EOk hk V 147 (z1K N):=fun args B m=>by
  unfold z1K
  split
  . exact fun _ h=>eP hkn (x0H (tok1 (u6V hkn N) (tok0))) (sz:= 36) (by kernel_rfl) rfl rfl rfl rfl (FE_147 N _ _ _ _ _) x9S rfl h
  . trivial
def K_r7 : PV D -> Y D -> Option (Int × Bool):=fun v _=>match v with
  | .tup [.int .i64 q0, .bool q1]=>some (q0,q1)
  | _=>none
def O_r7 (r : Int × Bool) : PV D:= .tup [.int .i64 r.1, .bool r.2]
theorem KO_r7 {r : Int × Bool} (v : PV D) (st : Y D) (h : K_r7 v st = some r) : v = O_r7 r:=by
  unfold K_r7 at h
  split at h <;> first | (cases h; rfl) | (cases h)
theorem FE_202 (N : Nat) (a0 : Int) (a1 : Int) : fsem (D:=D) (x1R []) N (ycOf Tryz.prog 202 []) [.t 4, .t 5] [.int .i64 a0, .int .i32 a1] .leaf 0 K_r7 = u0Z N a0 a1:=by kernel_rfl
def z9L (N : Nat) : List (PV D) -> Bt D -> Nat -> CallR D:=fun args _ _=>match args with
  | [.int .i64 a0, .int .i32 a1]=> .opt (Int × Bool) (u0Z N a0 a1) default O_r7
  | _=> .bad
theorem u6Q (hkn : HkS hk) (N : Nat) : EOk hk V 202 (z9L N):=fun args B m=>by
  unfold z9L
  split
  . exact fun _ h=>eP hkn (x0H (tok0)) (sz:= 29) (by kernel_rfl) rfl rfl rfl rfl (FE_202 N _ _) KO_r7 rfl h
  . trivial
def z5P (N : Nat) : List (PV D) -> Bt D -> Nat -> CallR D:=fun args B m=>inlC (x1R [(236,y1M N)]) N (ycOf Tryz.prog 203 [[((.tmp 0),(.rowI 5 .u8)),((.tmp 32),(.int .i64))]]) [.t 6, .t 7] 41 (.tup [.nils,(.bool false)]) args B m
theorem z5N (hkn : HkS hk) (N : Nat) : EOk hk V 203 (z5P N):=fun args B m=>inlE hkn (x0H (tok1 (x8T hkn N) (tok0))) (by kernel_rfl) rfl args B m
def z5T (N : Nat) : List (PV D) -> Bt D -> Nat -> CallR D:=fun args B m=>inlC (x1R [(202,z9L N),(203,z5P N)]) N (ycOf Tryz.prog 180 [[((.tmp 4),(.rowI 5 .u8)),((.tmp 5),(.int .i64)),((.tmp 6),(.int .i64)),((.tmp 7), .bool),((.row 1), .iter)]]) [.t 2, .t 3] 74 (.tup [(.str []),(.bool false)]) args B m
theorem z5S (hkn : HkS hk) (N : Nat) : EOk hk V 180 (z5T N):=fun args B m=>inlE hkn (x0H (tok1 (u6Q hkn N) (tok1 (z5N hkn N) (tok0)))) (by kernel_rfl) rfl args B m
def z5M (N : Nat) : List (PV D) -> Bt D -> Nat -> CallR D:=fun args B m=>inlC (x1R [(214,z1H N),(236,y1M N),(244,z9H N),(245,z9G N)]) N (ycOf Tryz.prog 213 [[((.tmp 16),(.int .i64)),((.cell 2 0), .str),((.cell 2 1), .bool),((.cell 2 2),(.int .i64)),((.cell 2 3),(.int .i64)),((.cell 2 4),(.int .i64)),((.cell 2 5), .bool),((.cell 2 7),(.int .u8)),((.cell 2 8),(.int .i64)),((.cell 2 9), .bool),((.cell 2 10),(.int .u8)),((.cell 2 11),(.int .i64))],[((.tmp 60),(.int .i64))]]) [.t 4] 74 (.bool false) args B m
theorem z5L (hkn : HkS hk) (N : Nat) : EOk hk V 213 (z5M N):=fun args B m=>inlE hkn (x0H (tok1 (y9J hkn N) (tok1 (x8T hkn N) (tok1 (u6M hkn N) (tok1 (u6L hkn N) (tok0)))))) (by kernel_rfl) rfl args B m
def z5D (N : Nat) : List (PV D) -> Bt D -> Nat -> CallR D:=fun args B m=>inlC (x1R [(236,y1M N)]) N (ycOf Tryz.prog 247 []) [.t 6] 51 (.int .i64 0) args B m
theorem z5C (hkn : HkS hk) (N : Nat) : EOk hk V 247 (z5D N):=fun args B m=>inlE hkn (x0H (tok1 (x8T hkn N) (tok0))) (by kernel_rfl) rfl args B m
def z5K (N : Nat) : List (PV D) -> Bt D -> Nat -> CallR D:=fun args B m=>inlC (x1R [(247,z5D N)]) N (ycOf Tryz.prog 215 [[((.tmp 5),(.int .i64)),((.tmp 6), .bool),((.tmp 13),(.int .i64)),((.cell 2 0), .str),((.cell 2 1), .bool),((.cell 2 2),(.int .i64)),((.cell 2 3),(.int .i64)),((.cell 2 4),(.int .i64)),((.cell 2 5), .bool),((.cell 2 6),(.rowI 248 .i64)),((.cell 2 7),(.int .u8)),((.cell 2 8),(.int .i64)),((.cell 2 9), .bool),((.cell 2 10),(.int .u8)),((.cell 2 11),(.int .i64))]]) [.t 4] 122 (.bool false) args B m
theorem z5J (hkn : HkS hk) (N : Nat) : EOk hk V 215 (z5K N):=fun args B m=>inlE hkn (x0H (tok1 (z5C hkn N) (tok0))) (by kernel_rfl) rfl args B m
def z5H (N : Nat) : List (PV D) -> Bt D -> Nat -> CallR D:=fun args B m=>inlC (x1R []) N (ycOf Tryz.prog 216 [[((.tmp 5),(.int .i64)),((.tmp 6),(.int .i64)),((.tmp 18),(.int .i64))],[((.tmp 49),(.int .i64))]]) [.t 4] 79 (.bool false) args B m
theorem z5G (hkn : HkS hk) (N : Nat) : EOk hk V 216 (z5H N):=fun args B m=>inlE hkn (x0H (tok0)) (by kernel_rfl) rfl args B m
def z5F (N : Nat) : List (PV D) -> Bt D -> Nat -> CallR D:=fun args B m=>inlC (x1R [(236,y1M N)]) N (ycOf Tryz.prog 217 [[((.tmp 5),(.int .i64)),((.tmp 11),(.int .i64))]]) [.t 4] 39 (.int .i64 0) args B m
theorem z5E (hkn : HkS hk) (N : Nat) : EOk hk V 217 (z5F N):=fun args B m=>inlE hkn (x0H (tok1 (x8T hkn N) (tok0))) (by kernel_rfl) rfl args B m
def z5R (N : Nat) : List (PV D) -> Bt D -> Nat -> CallR D:=fun args B m=>inlC (x1R [(182,z1J N),(212,z9K N),(213,z5M N),(214,z1H N),(215,z5K N),(216,z5H N),(217,z5F N)]) N (ycOf Tryz.prog 183 []) [.t 2, .t 3] 114 (.tup [.nilp,(.bool false)]) args B m
theorem z5Q (hkn : HkS hk) (N : Nat) : EOk hk V 183 (z5R N):=fun args B m=>inlE hkn (x0H (tok1 (y9K hkn N) (tok1 (u6P hkn N) (tok1 (z5L hkn N) (tok1 (y9J hkn N) (tok1 (z5J hkn N) (tok1 (z5G hkn N) (tok1 (z5E hkn N) (tok0))))))))) (by kernel_rfl) rfl args B m
def z5V (N : Nat) : List (PV D) -> Bt D -> Nat -> CallR D:=fun args B m=>inlC (x1R [(180,z5T N),(181,z9Q N),(182,z1J N),(183,z5R N)]) N (ycOf Tryz.prog 155 []) [.t 2, .t 3] 30 (.tup [.nilp,(.bool false)]) args B m
theorem z5U (hkn : HkS hk) (N : Nat) : EOk hk V 155 (z5V N):=fun args B m=>inlE hkn (x0H (tok1 (z5S hkn N) (tok1 (u6U hkn N) (tok1 (y9K hkn N) (tok1 (z5Q hkn N) (tok0)))))) (by kernel_rfl) rfl args B m
theorem FE_112 (N : Nat) (a0 : List UInt8) : fsem (D:=D) (x1R [(155,z5V N)]) N (ycOf Tryz.prog 112 []) [.c 2 6 true, .t 3] [.str a0] .leaf 0 K_r6 = v4X N a0:=by kernel_rfl
def z1L (N : Nat) : List (PV D) -> Bt D -> Nat -> CallR D:=fun args _ _=>match args with
  | [.str a0]=> .opt ((List UInt8 × Bool × Int × Int × Int × Bool) × Int) (v4X N a0) default O_r6
  | _=> .bad
theorem y9M (hkn : HkS hk) (N : Nat) : EOk hk V 112 (z1L N):=fun args B m=>by
  unfold z1L
  split
  . exact fun _ h=>eP hkn (x0H (tok1 (z5U hkn N) (tok0))) (sz:= 18) (by kernel_rfl) rfl rfl rfl rfl (FE_112 N _) KO_r6 rfl h
  . trivial
theorem FE_142 (N : Nat) (a0 : List UInt8) : fsem (D:=D) (x1R [(112,z1L N)]) N (ycOf Tryz.prog 142 []) [.t 2] [.str a0] .leaf 0 K_r0 = v4W N a0:=by kernel_rfl
def z9U (N : Nat) : List (PV D) -> Bt D -> Nat -> CallR D:=fun args _ _=>match args with
  | [.str a0]=> .opt (Int) (v4W N a0) default O_r0
  | _=> .bad
theorem u6Y (hkn : HkS hk) (N : Nat) : EOk hk V 142 (z9U N):=fun args B m=>by
  unfold z9U
  split
  . exact fun _ h=>eP hkn (x0H (tok1 (y9M hkn N) (tok0))) (sz:= 11) (by kernel_rfl) rfl rfl rfl rfl (FE_142 N _) x9S rfl h
  . trivial
theorem FE_84 (N : Nat) (a0 : Int) (a1 : Int) (a2 : Int) (a3 : Bool) (a4 : List UInt8) : fsem (D:=D) (x1R [(140,z9W N),(141,z9V N),(142,z9U N)]) N (ycOf Tryz.prog 84 []) [.t 2] [.agg [.int .i64 a0, .int .i64 a1, .int .i64 a2, .bool a3, .str a4]] .leaf 0 K_r0 = F_84 N a0 a1 a2 a3 a4:=by kernel_rfl
def u3J (N : Nat) : List (PV D) -> Bt D -> Nat -> CallR D:=fun args _ _=>match args with
  | [.agg [.int .i64 a0, .int .i64 a1, .int .i64 a2, .bool a3, .str a4]]=> .opt (Int) (F_84 N a0 a1 a2 a3 a4) default O_r0
  | _=> .bad
theorem y5Z (hkn : HkS hk) (N : Nat) : EOk hk V 84 (u3J N):=fun args B m=>by
  unfold u3J
  split
  . exact fun _ h=>eP hkn (x0H (tok1 (u7A hkn N) (tok1 (u6Z hkn N) (tok1 (u6Y hkn N) (tok0))))) (sz:= 81) (by kernel_rfl) rfl rfl rfl rfl (FE_84 N _ _ _ _ _) x9S rfl h
  . trivial
theorem FE_53 (N : Nat) (a0 : Int) (a1 : Int) (a2 : Int) (a3 : Bool) (a4 : List UInt8) : fsem (D:=D) (x1R [(84,u3J N),(112,z1L N)]) N (ycOf Tryz.prog 53 []) [.t 2] [.agg [.int .i64 a0, .int .i64 a1, .int .i64 a2, .bool a3, .str a4]] .leaf 0 K_r0 = F_53 N a0 a1 a2 a3 a4:=by kernel_rfl
def v3B (N : Nat) : List (PV D) -> Bt D -> Nat -> CallR D:=fun args _ _=>match args with
  | [.agg [.int .i64 a0, .int .i64 a1, .int .i64 a2, .bool a3, .str a4]]=> .opt (Int) (F_53 N a0 a1 a2 a3 a4) default O_r0
  | _=> .bad
theorem z5B (hkn : HkS hk) (N : Nat) : EOk hk V 53 (v3B N):=fun args B m=>by
  unfold v3B
  split
  . exact fun _ h=>eP hkn (x0H (tok1 (y5Z hkn N) (tok1 (y9M hkn N) (tok0)))) (sz:= 53) (by kernel_rfl) rfl rfl rfl rfl (FE_53 N _ _ _ _ _) x9S rfl h
  . trivial
theorem FE_26 (N : Nat) (a0 : Int) (a1 : Int) (a2 : Int) (a3 : Bool) (a4 : List UInt8) : fsem (D:=D) (x1R [(84,u3J N),(53,v3B N)]) N (ycOf Tryz.prog 26 []) [.t 2] [.agg [.int .i64 a0, .int .i64 a1, .int .i64 a2, .bool a3, .str a4]] .leaf 0 K_r0 = F_26 N a0 a1 a2 a3 a4:=by kernel_rfl
def ent_26 (N : Nat) : List (PV D) -> Bt D -> Nat -> CallR D:=fun args _ _=>match args with
  | [.agg [.int .i64 a0, .int .i64 a1, .int .i64 a2, .bool a3, .str a4]]=> .opt (Int) (F_26 N a0 a1 a2 a3 a4) default O_r0
  | _=> .bad
theorem v3C (hkn : HkS hk) (N : Nat) : EOk hk V 26 (ent_26 N):=fun args B m=>by
  unfold ent_26
  split
  . exact fun _ h=>eP hkn (x0H (tok1 (y5Z hkn N) (tok1 (z5B hkn N) (tok0)))) (sz:= 17) (by kernel_rfl) rfl rfl rfl rfl (FE_26 N _ _ _ _ _) x9S rfl h
  . trivial
theorem FE_184 (N : Nat) (a0 : Int) (a1 : Int) (a2 : Int) (a3 : Bool) (a4 : List UInt8) : fsem (D:=D) (x1R [(218,z1G N)]) N (ycOf Tryz.prog 184 []) [.t 2] [.agg [.int .i64 a0, .int .i64 a1, .int .i64 a2, .bool a3, .str a4]] .leaf 0 K_r0 = F_184 N a0 a1 a2 a3 a4:=by kernel_rfl
def z9P (N : Nat) : List (PV D) -> Bt D -> Nat -> CallR D:=fun args _ _=>match args with
  | [.agg [.int .i64 a0, .int .i64 a1, .int .i64 a2, .bool a3, .str a4]]=> .opt (Int) (F_184 N a0 a1 a2 a3 a4) default O_r0
  | _=> .bad
theorem u6T (hkn : HkS hk) (N : Nat) : EOk hk V 184 (z9P N):=fun args B m=>by
  unfold z9P
  split
  . exact fun _ h=>eP hkn (x0H (tok1 (y9H hkn N) (tok0))) (sz:= 33) (by kernel_rfl) rfl rfl rfl rfl (FE_184 N _ _ _ _ _) x9S rfl h
  . trivial
theorem FE_156 (N : Nat) (a0 : Int) (a1 : Int) (a2 : Int) (a3 : Bool) (a4 : List UInt8) : fsem (D:=D) (x1R [(147,z1K N),(184,z9P N)]) N (ycOf Tryz.prog 156 []) [.t 2] [.agg [.int .i64 a0, .int .i64 a1, .int .i64 a2, .bool a3, .str a4]] .leaf 0 K_r0 = u8D N a0 a1 a2 a3 a4:=by kernel_rfl
def z9T (N : Nat) : List (PV D) -> Bt D -> Nat -> CallR D:=fun args _ _=>match args with
  | [.agg [.int .i64 a0, .int .i64 a1, .int .i64 a2, .bool a3, .str a4]]=> .opt (Int) (u8D N a0 a1 a2 a3 a4) default O_r0
  | _=> .bad
theorem y9L (hkn : HkS hk) (N : Nat) : EOk hk V 156 (z9T N):=fun args B m=>by
  unfold z9T
  split
  . exact fun _ h=>eP hkn (x0H (tok1 (y1N hkn N) (tok1 (u6T hkn N) (tok0)))) (sz:= 45) (by kernel_rfl) rfl rfl rfl rfl (FE_156 N _ _ _ _ _) x9S rfl h
  . trivial
theorem FE_157 (N : Nat) (a0 : Int) (a1 : Int) (a2 : Int) (a3 : Bool) (a4 : List UInt8) : fsem (D:=D) (x1R [(147,z1K N),(156,z9T N)]) N (ycOf Tryz.prog 157 []) [.t 2] [.agg [.int .i64 a0, .int .i64 a1, .int .i64 a2, .bool a3, .str a4]] .leaf 0 K_r0 = F_157 N a0 a1 a2 a3 a4:=by kernel_rfl
def v3D (N : Nat) : List (PV D) -> Bt D -> Nat -> CallR D:=fun args _ _=>match args with
  | [.agg [.int .i64 a0, .int .i64 a1, .int .i64 a2, .bool a3, .str a4]]=> .opt (Int) (F_157 N a0 a1 a2 a3 a4) default O_r0
  | _=> .bad
theorem u6X (hkn : HkS hk) (N : Nat) : EOk hk V 157 (v3D N):=fun args B m=>by
  unfold v3D
  split
  . exact fun _ h=>eP hkn (x0H (tok1 (y1N hkn N) (tok1 (y9L hkn N) (tok0)))) (sz:= 17) (by kernel_rfl) rfl rfl rfl rfl (FE_157 N _ _ _ _ _) x9S rfl h
  . trivial
end
end Go.Yec
