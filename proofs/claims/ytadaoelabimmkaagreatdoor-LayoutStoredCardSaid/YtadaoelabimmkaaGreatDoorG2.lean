/-
  G1
-/
import Derived.Test.YtadaoelabimmkaaGreatDoorY15
import Derived.Test.YtadaoelabimmkaaGreatDoorY16
import Derived.Test.YtadaoelabimmkaaGreatDoorG1
set_option linter.all false
namespace Go.Yec
open Go Go.Xec Go.Proofs
noncomputable section
variable {D : Type} {V : D -> List (PV D)} {hk : Hook}
def K_r0 : PV D -> Y D -> Option (Int):=fun v _=>match v with
  | .int .i64 q0=>some q0
  | _=>none
def O_r0 (r : Int) : PV D:= .int .i64 r
theorem x6P {r : Int} (v : PV D) (st : Y D) (h : K_r0 v st = some r) : v = O_r0 r:=by
  unfold K_r0 at h
  split at h <;> first | (cases h; rfl) | (cases h)
theorem FE_96 (N : Nat) (a0 : Int) : fsem (D:=D) (x0P []) N (ycOf Tryz.prog 96 []) [.t 2] [.int .i64 a0] .leaf 0 K_r0 = F_96 N a0:=by kernel_rfl
def v8Y (N : Nat) : List (PV D) -> Bt D -> Nat -> CallR D:=fun args _ _=>match args with
  | [.int .i64 a0]=> .opt (Int) (F_96 N a0) default O_r0
  | _=> .bad
theorem v8X (hkn : HkS hk) (N : Nat) : EOk hk V 96 (v8Y N):=fun args B m=>by
  unfold v8Y
  split
  . exact fun _ h=>eP hkn (x0E (tok0)) (sz:= 5) (by kernel_rfl) rfl rfl rfl rfl (FE_96 N _) x6P rfl h
  . trivial
theorem FE_59 (N : Nat) (a0 : Int) (a1 : Int) (a2 : Int) (a3 : Bool) (a4 : List UInt8) : fsem (D:=D) (x0P [(96,v8Y N)]) N (ycOf Tryz.prog 59 []) [.t 2] [.agg [.int .i64 a0, .int .i64 a1, .int .i64 a2, .bool a3, .str a4]] .leaf 0 K_r0 = F_59 N a0 a1 a2 a3 a4:=by kernel_rfl
def u9J (N : Nat) : List (PV D) -> Bt D -> Nat -> CallR D:=fun args _ _=>match args with
  | [.agg [.int .i64 a0, .int .i64 a1, .int .i64 a2, .bool a3, .str a4]]=> .opt (Int) (F_59 N a0 a1 a2 a3 a4) default O_r0
  | _=> .bad
theorem z8S (hkn : HkS hk) (N : Nat) : EOk hk V 59 (u9J N):=fun args B m=>by
  unfold u9J
  split
  . exact fun _ h=>eP hkn (x0E (tok1 (v8X hkn N) (tok0))) (sz:= 59) (by kernel_rfl) rfl rfl rfl rfl (FE_59 N _ _ _ _ _) x6P rfl h
  . trivial
theorem FE_144 (N : Nat) (a0 : List UInt8) (a1 : Int) : fsem (D:=D) (x0P []) N (ycOf Tryz.prog 144 [[((.tmp 5),(.int .i64)),((.tmp 6),(.int .i64))]]) [.t 4] [.str a0, .int .u8 a1] .leaf 0 K_r0 = x7T N a0 a1:=by kernel_rfl
def y0P (N : Nat) : List (PV D) -> Bt D -> Nat -> CallR D:=fun args _ _=>match args with
  | [.str a0, .int .u8 a1]=> .opt (Int) (x7T N a0 a1) default O_r0
  | _=> .bad
theorem x7A (hkn : HkS hk) (N : Nat) : EOk hk V 144 (y0P N):=fun args B m=>by
  unfold y0P
  split
  . exact fun _ h=>eP hkn (x0E (tok0)) (sz:= 21) (by kernel_rfl) rfl rfl rfl rfl (FE_144 N _ _) x6P rfl h
  . trivial
def K_r1 : PV D -> Y D -> Option (Bool):=fun v _=>match v with
  | .bool q0=>some q0
  | _=>none
def O_r1 (r : Bool) : PV D:= .bool r
theorem x9W {r : Bool} (v : PV D) (st : Y D) (h : K_r1 v st = some r) : v = O_r1 r:=by
  unfold K_r1 at h
  split at h <;> first | (cases h; rfl) | (cases h)
theorem FE_147 (N : Nat) (a0 : List UInt8) (a1 : Int) : fsem (D:=D) (x0P []) N (ycOf Tryz.prog 147 [[((.tmp 5),(.int .i64))]]) [.t 4] [.str a0, .int .u8 a1] .leaf 0 K_r1 = x1V N a0 a1:=by kernel_rfl
def x3H (N : Nat) : List (PV D) -> Bt D -> Nat -> CallR D:=fun args _ _=>match args with
  | [.str a0, .int .u8 a1]=> .opt (Bool) (x1V N a0 a1) default O_r1
  | _=> .bad
theorem x1T (hkn : HkS hk) (N : Nat) : EOk hk V 147 (x3H N):=fun args B m=>by
  unfold x3H
  split
  . exact fun _ h=>eP hkn (x0E (tok0)) (sz:= 17) (by kernel_rfl) rfl rfl rfl rfl (FE_147 N _ _) x9W rfl h
  . trivial
def K_r2 : PV D -> Y D -> Option (List UInt8):=fun v _=>match v with
  | .str q0=>some q0
  | _=>none
def O_r2 (r : List UInt8) : PV D:= .str r
theorem z5S {r : List UInt8} (v : PV D) (st : Y D) (h : K_r2 v st = some r) : v = O_r2 r:=by
  unfold K_r2 at h
  split at h <;> first | (cases h; rfl) | (cases h)
theorem FE_183 (N : Nat) (a0 : Int) (a1 : Int) : fsem (D:=D) (x0P []) N (ycOf Tryz.prog 183 [[((.tmp 5),(.rowI 5 .u8)),((.tmp 6),(.int .i64))]]) [.t 4] [.int .u8 a0, .int .i64 a1] .leaf 0 K_r2 = y3K N a0 a1:=by kernel_rfl
def y8A (N : Nat) : List (PV D) -> Bt D -> Nat -> CallR D:=fun args _ _=>match args with
  | [.int .u8 a0, .int .i64 a1]=> .opt (List UInt8) (y3K N a0 a1) default O_r2
  | _=> .bad
theorem y2W (hkn : HkS hk) (N : Nat) : EOk hk V 183 (y8A N):=fun args B m=>by
  unfold y8A
  split
  . exact fun _ h=>eP hkn (x0E (tok0)) (sz:= 19) (by kernel_rfl) rfl rfl rfl rfl (FE_183 N _ _) z5S rfl h
  . trivial
def K_r3 : PV D -> Y D -> Option (Int):=fun v _=>match v with
  | .int .u8 q0=>some q0
  | _=>none
def O_r3 (r : Int) : PV D:= .int .u8 r
theorem u6J {r : Int} (v : PV D) (st : Y D) (h : K_r3 v st = some r) : v = O_r3 r:=by
  unfold K_r3 at h
  split at h <;> first | (cases h; rfl) | (cases h)
theorem FE_181 (N : Nat) (a0 : Int) : fsem (D:=D) (x0P []) N (ycOf Tryz.prog 181 []) [.t 2] [.int .u8 a0] .leaf 0 K_r3 = y3L N a0:=by kernel_rfl
def z4B (N : Nat) : List (PV D) -> Bt D -> Nat -> CallR D:=fun args _ _=>match args with
  | [.int .u8 a0]=> .opt (Int) (y3L N a0) default O_r3
  | _=> .bad
theorem z1W (hkn : HkS hk) (N : Nat) : EOk hk V 181 (z4B N):=fun args B m=>by
  unfold z4B
  split
  . exact fun _ h=>eP hkn (x0E (tok0)) (sz:= 13) (by kernel_rfl) rfl rfl rfl rfl (FE_181 N _) u6J rfl h
  . trivial
theorem FE_184 (N : Nat) (a0 : List UInt8) : fsem (D:=D) (x0P []) N (ycOf Tryz.prog 184 []) [.t 2] [.str a0] .leaf 0 K_r1 = z0B N a0:=by kernel_rfl
def y7Z (N : Nat) : List (PV D) -> Bt D -> Nat -> CallR D:=fun args _ _=>match args with
  | [.str a0]=> .opt (Bool) (z0B N a0) default O_r1
  | _=> .bad
theorem y2V (hkn : HkS hk) (N : Nat) : EOk hk V 184 (y7Z N):=fun args B m=>by
  unfold y7Z
  split
  . exact fun _ h=>eP hkn (x0E (tok0)) (sz:= 22) (by kernel_rfl) rfl rfl rfl rfl (FE_184 N _) x9W rfl h
  . trivial
theorem FE_188 (N : Nat) (a0 : List UInt8) : fsem (D:=D) (x0P [(144,y0P N),(147,x3H N)]) N (ycOf Tryz.prog 188 [[((.tmp 3),(.int .i64))]]) [.t 2] [.str a0] .leaf 0 K_r3 = z0N N a0:=by kernel_rfl
def y0M (N : Nat) : List (PV D) -> Bt D -> Nat -> CallR D:=fun args _ _=>match args with
  | [.str a0]=> .opt (Int) (z0N N a0) default O_r3
  | _=> .bad
theorem x6Y (hkn : HkS hk) (N : Nat) : EOk hk V 188 (y0M N):=fun args B m=>by
  unfold y0M
  split
  . exact fun _ h=>eP hkn (x0E (tok1 (x7A hkn N) (tok1 (x1T hkn N) (tok0)))) (sz:= 25) (by kernel_rfl) rfl rfl rfl rfl (FE_188 N _) u6J rfl h
  . trivial
theorem FE_146 (N : Nat) (a0 : List UInt8) : fsem (D:=D) (x0P [(147,x3H N),(184,y7Z N),(188,y0M N)]) N (ycOf Tryz.prog 146 [[((.tmp 5),(.rowI 5 .u8)),((.tmp 6), .bool),((.tmp 7),(.int .i64))]]) [.t 2] [.str a0] .leaf 0 K_r2 = z0C N a0:=by kernel_rfl
def y0N (N : Nat) : List (PV D) -> Bt D -> Nat -> CallR D:=fun args _ _=>match args with
  | [.str a0]=> .opt (List UInt8) (z0C N a0) default O_r2
  | _=> .bad
theorem x6Z (hkn : HkS hk) (N : Nat) : EOk hk V 146 (y0N N):=fun args B m=>by
  unfold y0N
  split
  . exact fun _ h=>eP hkn (x0E (tok1 (x1T hkn N) (tok1 (y2V hkn N) (tok1 (x6Y hkn N) (tok0))))) (sz:= 73) (by kernel_rfl) rfl rfl rfl rfl (FE_146 N _) z5S rfl h
  . trivial
theorem FE_185 (N : Nat) (a0 : List UInt8) : fsem (D:=D) (x0P [(144,y0P N),(147,x3H N),(188,y0M N)]) N (ycOf Tryz.prog 185 [[((.tmp 4),(.int .i64)),((.tmp 5),(.int .i64)),((.tmp 6),(.int .i64))],[((.tmp 7),(.int .i64))]]) [.t 2] [.str a0] .leaf 0 K_r1 = u1E N a0:=by kernel_rfl
def u3R (N : Nat) : List (PV D) -> Bt D -> Nat -> CallR D:=fun args _ _=>match args with
  | [.str a0]=> .opt (Bool) (u1E N a0) default O_r1
  | _=> .bad
theorem v2N (hkn : HkS hk) (N : Nat) : EOk hk V 185 (u3R N):=fun args B m=>by
  unfold u3R
  split
  . exact fun _ h=>eP hkn (x0E (tok1 (x7A hkn N) (tok1 (x1T hkn N) (tok1 (x6Y hkn N) (tok0))))) (sz:= 70) (by kernel_rfl) rfl rfl rfl rfl (FE_185 N _) x9W rfl h
  . trivial
theorem FE_186 (N : Nat) (a0 : List UInt8) (a1 : List UInt8) : fsem (D:=D) (x0P [(147,x3H N),(188,y0M N)]) N (ycOf Tryz.prog 186 [[((.tmp 5), .bool),((.tmp 6), .bool),((.tmp 7), .bool),((.tmp 8),(.int .i64)),((.tmp 9),(.int .i64))]]) [.t 4] [.str a0, .str a1] .leaf 0 K_r1 = u6K N a0 a1:=by kernel_rfl
def u3Q (N : Nat) : List (PV D) -> Bt D -> Nat -> CallR D:=fun args _ _=>match args with
  | [.str a0, .str a1]=> .opt (Bool) (u6K N a0 a1) default O_r1
  | _=> .bad
theorem v2M (hkn : HkS hk) (N : Nat) : EOk hk V 186 (u3Q N):=fun args B m=>by
  unfold u3Q
  split
  . exact fun _ h=>eP hkn (x0E (tok1 (x1T hkn N) (tok1 (x6Y hkn N) (tok0)))) (sz:= 67) (by kernel_rfl) rfl rfl rfl rfl (FE_186 N _ _) x9W rfl h
  . trivial
theorem FE_145 (N : Nat) (a0 : List UInt8) : fsem (D:=D) (x0P [(144,y0P N),(147,x3H N),(184,y7Z N)]) N (ycOf Tryz.prog 145 [[((.tmp 4),(.int .i64)),((.tmp 5),(.int .i64))]]) [.t 2] [.str a0] .leaf 0 K_r0 = u1G N a0:=by kernel_rfl
def z4F (N : Nat) : List (PV D) -> Bt D -> Nat -> CallR D:=fun args _ _=>match args with
  | [.str a0]=> .opt (Int) (u1G N a0) default O_r0
  | _=> .bad
theorem z2A (hkn : HkS hk) (N : Nat) : EOk hk V 145 (z4F N):=fun args B m=>by
  unfold z4F
  split
  . exact fun _ h=>eP hkn (x0E (tok1 (x7A hkn N) (tok1 (x1T hkn N) (tok1 (y2V hkn N) (tok0))))) (sz:= 34) (by kernel_rfl) rfl rfl rfl rfl (FE_145 N _) x6P rfl h
  . trivial
theorem FE_187 (N : Nat) (a0 : List UInt8) (a1 : List UInt8) : fsem (D:=D) (x0P [(147,x3H N),(188,y0M N)]) N (ycOf Tryz.prog 187 [[((.tmp 6),(.int .i64))],[((.tmp 7), .bool),((.tmp 8), .bool),((.tmp 9),(.int .i64))]]) [.t 4] [.str a0, .str a1] .leaf 0 K_r1 = u1D N a0 a1:=by kernel_rfl
def u3P (N : Nat) : List (PV D) -> Bt D -> Nat -> CallR D:=fun args _ _=>match args with
  | [.str a0, .str a1]=> .opt (Bool) (u1D N a0 a1) default O_r1
  | _=> .bad
theorem v2L (hkn : HkS hk) (N : Nat) : EOk hk V 187 (u3P N):=fun args B m=>by
  unfold u3P
  split
  . exact fun _ h=>eP hkn (x0E (tok1 (x1T hkn N) (tok1 (x6Y hkn N) (tok0)))) (sz:= 69) (by kernel_rfl) rfl rfl rfl rfl (FE_187 N _ _) x9W rfl h
  . trivial
theorem FE_142 (N : Nat) (a0 : List UInt8) : fsem (D:=D) (x0P [(147,x3H N)]) N (ycOf Tryz.prog 142 [[((.tmp 3),(.int .i64))]]) [.t 2] [.str a0] .leaf 0 K_r1 = v4L N a0:=by kernel_rfl
def z4G (N : Nat) : List (PV D) -> Bt D -> Nat -> CallR D:=fun args _ _=>match args with
  | [.str a0]=> .opt (Bool) (v4L N a0) default O_r1
  | _=> .bad
theorem z2B (hkn : HkS hk) (N : Nat) : EOk hk V 142 (z4G N):=fun args B m=>by
  unfold z4G
  split
  . exact fun _ h=>eP hkn (x0E (tok1 (x1T hkn N) (tok0))) (sz:= 21) (by kernel_rfl) rfl rfl rfl rfl (FE_142 N _) x9W rfl h
  . trivial
theorem FE_143 (N : Nat) (a0 : List UInt8) : fsem (D:=D) (x0P [(142,z4G N),(144,y0P N),(145,z4F N),(146,y0N N),(147,x3H N),(184,y7Z N),(185,u3R N),(186,u3Q N),(187,u3P N)]) N (ycOf Tryz.prog 143 [[((.tmp 4),(.int .i64))]]) [.t 2] [.str a0] .leaf 0 K_r1 = v4K N a0:=by kernel_rfl
def u3Y (N : Nat) : List (PV D) -> Bt D -> Nat -> CallR D:=fun args _ _=>match args with
  | [.str a0]=> .opt (Bool) (v4K N a0) default O_r1
  | _=> .bad
theorem v2V (hkn : HkS hk) (N : Nat) : EOk hk V 143 (u3Y N):=fun args B m=>by
  unfold u3Y
  split
  . exact fun _ h=>eP hkn (x0E (tok1 (z2B hkn N) (tok1 (x7A hkn N) (tok1 (z2A hkn N) (tok1 (x6Z hkn N) (tok1 (x1T hkn N) (tok1 (y2V hkn N) (tok1 (v2N hkn N) (tok1 (v2M hkn N) (tok1 (v2L hkn N) (tok0))))))))))) (sz:= 50) (by kernel_rfl) rfl rfl rfl rfl (FE_143 N _) x9W rfl h
  . trivial
def K_r4 : PV D -> Y D -> Option (Int × Int):=fun v _=>match v with
  | .tup [.int .i64 q0, .int .i64 q1]=>some (q0,q1)
  | _=>none
def O_r4 (r : Int × Int) : PV D:= .tup [.int .i64 r.1, .int .i64 r.2]
theorem KO_r4 {r : Int × Int} (v : PV D) (st : Y D) (h : K_r4 v st = some r) : v = O_r4 r:=by
  unfold K_r4 at h
  split at h <;> first | (cases h; rfl) | (cases h)
theorem FE_182 (N : Nat) (a0 : List UInt8) (a1 : Int) : fsem (D:=D) (x0P []) N (ycOf Tryz.prog 182 [[((.tmp 6),(.int .i64)),((.tmp 7),(.int .i64))]]) [.t 4, .t 5] [.str a0, .int .i64 a1] .leaf 0 K_r4 = u6L N a0 a1:=by kernel_rfl
def u3S (N : Nat) : List (PV D) -> Bt D -> Nat -> CallR D:=fun args _ _=>match args with
  | [.str a0, .int .i64 a1]=> .opt (Int × Int) (u6L N a0 a1) default O_r4
  | _=> .bad
theorem v2P (hkn : HkS hk) (N : Nat) : EOk hk V 182 (u3S N):=fun args B m=>by
  unfold u3S
  split
  . exact fun _ h=>eP hkn (x0E (tok0)) (sz:= 58) (by kernel_rfl) rfl rfl rfl rfl (FE_182 N _ _) KO_r4 rfl h
  . trivial
def K_r5 : PV D -> Y D -> Option (List UInt8 × Int):=fun v _=>match v with
  | .tup [.str q0, .int .i64 q1]=>some (q0,q1)
  | _=>none
def O_r5 (r : List UInt8 × Int) : PV D:= .tup [.str r.1, .int .i64 r.2]
theorem KO_r5 {r : List UInt8 × Int} (v : PV D) (st : Y D) (h : K_r5 v st = some r) : v = O_r5 r:=by
  unfold K_r5 at h
  split at h <;> first | (cases h; rfl) | (cases h)
theorem FE_141 (N : Nat) (a0 : List UInt8) : fsem (D:=D) (x0P [(147,x3H N),(181,z4B N),(182,u3S N),(183,y8A N)]) N (ycOf Tryz.prog 141 [[((.tmp 4), .str),((.tmp 5),(.int .i64))]]) [.t 2, .t 3] [.str a0] .leaf 0 K_r5 = w2Z N a0:=by kernel_rfl
def u3Z (N : Nat) : List (PV D) -> Bt D -> Nat -> CallR D:=fun args _ _=>match args with
  | [.str a0]=> .opt (List UInt8 × Int) (w2Z N a0) default O_r5
  | _=> .bad
theorem v2W (hkn : HkS hk) (N : Nat) : EOk hk V 141 (u3Z N):=fun args B m=>by
  unfold u3Z
  split
  . exact fun _ h=>eP hkn (x0E (tok1 (x1T hkn N) (tok1 (z1W hkn N) (tok1 (v2P hkn N) (tok1 (y2W hkn N) (tok0)))))) (sz:= 55) (by kernel_rfl) rfl rfl rfl rfl (FE_141 N _) KO_r5 rfl h
  . trivial
theorem FE_58 (N : Nat) (a0 : Int) (a1 : Int) (a2 : Int) (a3 : Bool) (a4 : List UInt8) : fsem (D:=D) (x0P []) N (ycOf Tryz.prog 58 []) [.t 2] [.agg [.int .i64 a0, .int .i64 a1, .int .i64 a2, .bool a3, .str a4]] .leaf 0 K_r1 = F_58 N a0 a1 a2 a3 a4:=by kernel_rfl
def v9W (N : Nat) : List (PV D) -> Bt D -> Nat -> CallR D:=fun args _ _=>match args with
  | [.agg [.int .i64 a0, .int .i64 a1, .int .i64 a2, .bool a3, .str a4]]=> .opt (Bool) (F_58 N a0 a1 a2 a3 a4) default O_r1
  | _=> .bad
theorem v9V (hkn : HkS hk) (N : Nat) : EOk hk V 58 (v9W N):=fun args B m=>by
  unfold v9W
  split
  . exact fun _ h=>eP hkn (x0E (tok0)) (sz:= 11) (by kernel_rfl) rfl rfl rfl rfl (FE_58 N _ _ _ _ _) x9W rfl h
  . trivial
theorem FE_128 (N : Nat) (a0 : Int) (a1 : Int) (a2 : Int) (a3 : Bool) (a4 : List UInt8) : fsem (D:=D) (x0P []) N (ycOf Tryz.prog 128 []) [.t 2] [.agg [.int .i64 a0, .int .i64 a1, .int .i64 a2, .bool a3, .str a4]] .leaf 0 K_r0 = u6Q N a0 a1 a2 a3 a4:=by kernel_rfl
def z4H (N : Nat) : List (PV D) -> Bt D -> Nat -> CallR D:=fun args _ _=>match args with
  | [.agg [.int .i64 a0, .int .i64 a1, .int .i64 a2, .bool a3, .str a4]]=> .opt (Int) (u6Q N a0 a1 a2 a3 a4) default O_r0
  | _=> .bad
theorem z2C (hkn : HkS hk) (N : Nat) : EOk hk V 128 (z4H N):=fun args B m=>by
  unfold z4H
  split
  . exact fun _ h=>eP hkn (x0E (tok0)) (sz:= 53) (by kernel_rfl) rfl rfl rfl rfl (FE_128 N _ _ _ _ _) x6P rfl h
  . trivial
theorem FE_97 (N : Nat) (a0 : Int) (a1 : Int) (a2 : Int) (a3 : Bool) (a4 : List UInt8) : fsem (D:=D) (x0P [(128,z4H N)]) N (ycOf Tryz.prog 97 []) [.t 2] [.agg [.int .i64 a0, .int .i64 a1, .int .i64 a2, .bool a3, .str a4]] .leaf 0 K_r1 = F_97 N a0 a1 a2 a3 a4:=by kernel_rfl
def v8W (N : Nat) : List (PV D) -> Bt D -> Nat -> CallR D:=fun args _ _=>match args with
  | [.agg [.int .i64 a0, .int .i64 a1, .int .i64 a2, .bool a3, .str a4]]=> .opt (Bool) (F_97 N a0 a1 a2 a3 a4) default O_r1
  | _=> .bad
theorem v8V (hkn : HkS hk) (N : Nat) : EOk hk V 97 (v8W N):=fun args B m=>by
  unfold v8W
  split
  . exact fun _ h=>eP hkn (x0E (tok1 (z2C hkn N) (tok0))) (sz:= 6) (by kernel_rfl) rfl rfl rfl rfl (FE_97 N _ _ _ _ _) x9W rfl h
  . trivial
def K_r6 : PV D -> Y D -> Option ((List UInt8 × Bool × Int × Int × Int × Bool) × Int):=fun v _=>match v with
  | .tup [.agg [.str q0, .bool q1, .int .i64 q2, .int .i64 q3, .int .i64 q4, .bool q5], .int .i64 q6]=>some ((q0,q1,q2,q3,q4,q5),q6)
  | _=>none
def O_r6 (r : (List UInt8 × Bool × Int × Int × Int × Bool) × Int) : PV D:= .tup [.agg [.str r.1.1, .bool r.1.2.1, .int .i64 r.1.2.2.1, .int .i64 r.1.2.2.2.1, .int .i64 r.1.2.2.2.2.1, .bool r.1.2.2.2.2.2], .int .i64 r.2]
theorem KO_r6 {r : (List UInt8 × Bool × Int × Int × Int × Bool) × Int} (v : PV D) (st : Y D) (h : K_r6 v st = some r) : v = O_r6 r:=by
  unfold K_r6 at h
  split at h <;> first | (cases h; rfl) | (cases h)
theorem FE_105 (N : Nat) (a0 : List UInt8) : fsem (D:=D) (x0P [(141,u3Z N),(142,z4G N),(143,u3Y N),(144,y0P N),(145,z4F N),(146,y0N N),(147,x3H N)]) N (ycOf Tryz.prog 105 [[((.tmp 8),(.int .i64)),((.cell 1 0), .str),((.cell 1 1), .bool),((.cell 1 2),(.int .i64)),((.cell 1 3),(.int .i64)),((.cell 1 4),(.int .i64)),((.cell 1 5), .bool)]]) [.c 2 6 true, .t 3] [.str a0] .leaf 0 K_r6 = u6R N a0:=by kernel_rfl
def y8H (N : Nat) : List (PV D) -> Bt D -> Nat -> CallR D:=fun args _ _=>match args with
  | [.str a0]=> .opt ((List UInt8 × Bool × Int × Int × Int × Bool) × Int) (u6R N a0) default O_r6
  | _=> .bad
theorem y3A (hkn : HkS hk) (N : Nat) : EOk hk V 105 (y8H N):=fun args B m=>by
  unfold y8H
  split
  . exact fun _ h=>eP hkn (x0E (tok1 (v2W hkn N) (tok1 (z2B hkn N) (tok1 (v2V hkn N) (tok1 (x7A hkn N) (tok1 (z2A hkn N) (tok1 (x6Z hkn N) (tok1 (x1T hkn N) (tok0))))))))) (sz:= 69) (by kernel_rfl) rfl rfl rfl rfl (FE_105 N _) KO_r6 rfl h
  . trivial
theorem FE_98 (N : Nat) (a0 : List UInt8) : fsem (D:=D) (x0P [(105,y8H N)]) N (ycOf Tryz.prog 98 []) [.t 2] [.str a0] .leaf 0 K_r0 = F_98 N a0:=by kernel_rfl
def v8U (N : Nat) : List (PV D) -> Bt D -> Nat -> CallR D:=fun args _ _=>match args with
  | [.str a0]=> .opt (Int) (F_98 N a0) default O_r0
  | _=> .bad
theorem v8T (hkn : HkS hk) (N : Nat) : EOk hk V 98 (v8U N):=fun args B m=>by
  unfold v8U
  split
  . exact fun _ h=>eP hkn (x0E (tok1 (y3A hkn N) (tok0))) (sz:= 11) (by kernel_rfl) rfl rfl rfl rfl (FE_98 N _) x6P rfl h
  . trivial
theorem FE_61 (N : Nat) (a0 : Int) (a1 : Int) (a2 : Int) (a3 : Bool) (a4 : List UInt8) : fsem (D:=D) (x0P [(97,v8W N),(98,v8U N)]) N (ycOf Tryz.prog 61 []) [.t 2] [.agg [.int .i64 a0, .int .i64 a1, .int .i64 a2, .bool a3, .str a4]] .leaf 0 K_r0 = F_61 N a0 a1 a2 a3 a4:=by kernel_rfl
def u9H (N : Nat) : List (PV D) -> Bt D -> Nat -> CallR D:=fun args _ _=>match args with
  | [.agg [.int .i64 a0, .int .i64 a1, .int .i64 a2, .bool a3, .str a4]]=> .opt (Int) (F_61 N a0 a1 a2 a3 a4) default O_r0
  | _=> .bad
theorem z8R (hkn : HkS hk) (N : Nat) : EOk hk V 61 (u9H N):=fun args B m=>by
  unfold u9H
  split
  . exact fun _ h=>eP hkn (x0E (tok1 (v8V hkn N) (tok1 (v8T hkn N) (tok0)))) (sz:= 81) (by kernel_rfl) rfl rfl rfl rfl (FE_61 N _ _ _ _ _) x6P rfl h
  . trivial
theorem FE_16 (N : Nat) (a0 : Int) (a1 : Int) (a2 : Int) (a3 : Bool) (a4 : List UInt8) : fsem (D:=D) (x0P [(61,u9H N)]) N (ycOf Tryz.prog 16 []) [.t 2] [.agg [.int .i64 a0, .int .i64 a1, .int .i64 a2, .bool a3, .str a4]] .leaf 0 K_r0 = F_16 N a0 a1 a2 a3 a4:=by kernel_rfl
def ent_16 (N : Nat) : List (PV D) -> Bt D -> Nat -> CallR D:=fun args _ _=>match args with
  | [.agg [.int .i64 a0, .int .i64 a1, .int .i64 a2, .bool a3, .str a4]]=> .opt (Int) (F_16 N a0 a1 a2 a3 a4) default O_r0
  | _=> .bad
theorem w0C (hkn : HkS hk) (N : Nat) : EOk hk V 16 (ent_16 N):=fun args B m=>by
  unfold ent_16
  split
  . exact fun _ h=>eP hkn (x0E (tok1 (z8R hkn N) (tok0))) (sz:= 36) (by kernel_rfl) rfl rfl rfl rfl (FE_16 N _ _ _ _ _) x6P rfl h
  . trivial
def K_r7 : PV D -> Y D -> Option (Int × Bool):=fun v _=>match v with
  | .tup [.int .i64 q0, .bool q1]=>some (q0,q1)
  | _=>none
def O_r7 (r : Int × Bool) : PV D:= .tup [.int .i64 r.1, .bool r.2]
theorem KO_r7 {r : Int × Bool} (v : PV D) (st : Y D) (h : K_r7 v st = some r) : v = O_r7 r:=by
  unfold K_r7 at h
  split at h <;> first | (cases h; rfl) | (cases h)
theorem FE_152 (N : Nat) (a0 : Int) (a1 : Int) : fsem (D:=D) (x0P []) N (ycOf Tryz.prog 152 []) [.t 4, .t 5] [.int .i64 a0, .int .i32 a1] .leaf 0 K_r7 = u6M N a0 a1:=by kernel_rfl
def z4D (N : Nat) : List (PV D) -> Bt D -> Nat -> CallR D:=fun args _ _=>match args with
  | [.int .i64 a0, .int .i32 a1]=> .opt (Int × Bool) (u6M N a0 a1) default O_r7
  | _=> .bad
theorem z1Y (hkn : HkS hk) (N : Nat) : EOk hk V 152 (z4D N):=fun args B m=>by
  unfold z4D
  split
  . exact fun _ h=>eP hkn (x0E (tok0)) (sz:= 29) (by kernel_rfl) rfl rfl rfl rfl (FE_152 N _ _) KO_r7 rfl h
  . trivial
def ent_93 (N : Nat) : List (PV D) -> Bt D -> Nat -> CallR D:=fun args _ _=>match args with
  | [.int .i64 a0, .int .i64 a1]=> .opt (Int) (F_93 N a0 a1) default O_r0
  | _=> .bad
theorem FE_102 (N : Nat) (a0 : List UInt8) (a1 : List UInt8) : fsem (D:=D) (x0P []) N (ycOf Tryz.prog 102 [[((.tmp 17),(.int .i64))]]) [.t 4] [.str a0, .str a1] .leaf 0 K_r1 = v4R N a0 a1:=by kernel_rfl
def u4P (N : Nat) : List (PV D) -> Bt D -> Nat -> CallR D:=fun args _ _=>match args with
  | [.str a0, .str a1]=> .opt (Bool) (v4R N a0 a1) default O_r1
  | _=> .bad
theorem v3L (hkn : HkS hk) (N : Nat) : EOk hk V 102 (u4P N):=fun args B m=>by
  unfold u4P
  split
  . exact fun _ h=>eP hkn (x0E (tok0)) (sz:= 69) (by kernel_rfl) rfl rfl rfl rfl (FE_102 N _ _) x9W rfl h
  . trivial
def y8F (N : Nat) : List (PV D) -> Bt D -> Nat -> CallR D:=fun args B m=>inlC (x0P [(189,y0L N)]) N (ycOf Tryz.prog 153 [[((.tmp 0),(.rowI 5 .u8)),((.tmp 32),(.int .i64))]]) [.t 6, .t 7] 41 (.tup [.nils,(.bool false)]) args B m
theorem y4F (hkn : HkS hk) (N : Nat) : EOk hk V 153 (y8F N):=fun args B m=>inlE hkn (x0E (tok1 (x6X hkn N) (tok0))) (by kernel_rfl) rfl args B m
def u0A (N : Nat) : List (PV D) -> Bt D -> Nat -> CallR D:=fun args B m=>inlC (x0P [(152,z4D N),(153,y8F N)]) N (ycOf Tryz.prog 130 [[((.tmp 4),(.rowI 5 .u8)),((.tmp 5),(.int .i64)),((.tmp 6),(.int .i64)),((.tmp 7), .bool),((.row 1), .iter)]]) [.t 2, .t 3] 74 (.tup [(.str []),(.bool false)]) args B m
theorem z9Z (hkn : HkS hk) (N : Nat) : EOk hk V 130 (u0A N):=fun args B m=>inlE hkn (x0E (tok1 (z1Y hkn N) (tok1 (y4F hkn N) (tok0)))) (by kernel_rfl) rfl args B m
def z9N (N : Nat) : List (PV D) -> Bt D -> Nat -> CallR D:=fun args B m=>inlC (x0P [(164,y2X N),(189,y0L N),(197,z4A N),(198,z3Z N)]) N (ycOf Tryz.prog 163 [[((.tmp 16),(.int .i64)),((.cell 2 0), .str),((.cell 2 1), .bool),((.cell 2 2),(.int .i64)),((.cell 2 3),(.int .i64)),((.cell 2 4),(.int .i64)),((.cell 2 5), .bool),((.cell 2 7),(.int .u8)),((.cell 2 8),(.int .i64)),((.cell 2 9), .bool),((.cell 2 10),(.int .u8)),((.cell 2 11),(.int .i64))],[((.tmp 60),(.int .i64))]]) [.t 4] 74 (.bool false) args B m
theorem z9M (hkn : HkS hk) (N : Nat) : EOk hk V 163 (z9N N):=fun args B m=>inlE hkn (x0E (tok1 (x9K hkn N) (tok1 (x6X hkn N) (tok1 (z1V hkn N) (tok1 (z1U hkn N) (tok0)))))) (by kernel_rfl) rfl args B m
def y7X (N : Nat) : List (PV D) -> Bt D -> Nat -> CallR D:=fun args B m=>inlC (x0P [(189,y0L N)]) N (ycOf Tryz.prog 200 []) [.t 6] 51 (.int .i64 0) args B m
theorem y4C (hkn : HkS hk) (N : Nat) : EOk hk V 200 (y7X N):=fun args B m=>inlE hkn (x0E (tok1 (x6X hkn N) (tok0))) (by kernel_rfl) rfl args B m
def z9J (N : Nat) : List (PV D) -> Bt D -> Nat -> CallR D:=fun args B m=>inlC (x0P [(200,y7X N)]) N (ycOf Tryz.prog 165 [[((.tmp 5),(.int .i64)),((.tmp 6), .bool),((.tmp 13),(.int .i64)),((.cell 2 0), .str),((.cell 2 1), .bool),((.cell 2 2),(.int .i64)),((.cell 2 3),(.int .i64)),((.cell 2 4),(.int .i64)),((.cell 2 5), .bool),((.cell 2 6),(.rowI 208 .i64)),((.cell 2 7),(.int .u8)),((.cell 2 8),(.int .i64)),((.cell 2 9), .bool),((.cell 2 10),(.int .u8)),((.cell 2 11),(.int .i64))]]) [.t 4] 122 (.bool false) args B m
theorem z9H (hkn : HkS hk) (N : Nat) : EOk hk V 165 (z9J N):=fun args B m=>inlE hkn (x0E (tok1 (y4C hkn N) (tok0))) (by kernel_rfl) rfl args B m
def y8D (N : Nat) : List (PV D) -> Bt D -> Nat -> CallR D:=fun args B m=>inlC (x0P []) N (ycOf Tryz.prog 166 [[((.tmp 5),(.int .i64)),((.tmp 6),(.int .i64)),((.tmp 18),(.int .i64))],[((.tmp 49),(.int .i64))]]) [.t 4] 79 (.bool false) args B m
theorem y4E (hkn : HkS hk) (N : Nat) : EOk hk V 166 (y8D N):=fun args B m=>inlE hkn (x0E (tok0)) (by kernel_rfl) rfl args B m
def y8C (N : Nat) : List (PV D) -> Bt D -> Nat -> CallR D:=fun args B m=>inlC (x0P [(189,y0L N)]) N (ycOf Tryz.prog 167 [[((.tmp 5),(.int .i64)),((.tmp 11),(.int .i64))]]) [.t 4] 39 (.int .i64 0) args B m
theorem y4D (hkn : HkS hk) (N : Nat) : EOk hk V 167 (y8C N):=fun args B m=>inlE hkn (x0E (tok1 (x6X hkn N) (tok0))) (by kernel_rfl) rfl args B m
def z9W (N : Nat) : List (PV D) -> Bt D -> Nat -> CallR D:=fun args B m=>inlC (x0P [(132,y2Y N),(162,z4C N),(163,z9N N),(164,y2X N),(165,z9J N),(166,y8D N),(167,y8C N)]) N (ycOf Tryz.prog 133 []) [.t 2, .t 3] 114 (.tup [.nilp,(.bool false)]) args B m
theorem z9V (hkn : HkS hk) (N : Nat) : EOk hk V 133 (z9W N):=fun args B m=>inlE hkn (x0E (tok1 (x9L hkn N) (tok1 (z1X hkn N) (tok1 (z9M hkn N) (tok1 (x9K hkn N) (tok1 (z9H hkn N) (tok1 (y4E hkn N) (tok1 (y4D hkn N) (tok0))))))))) (by kernel_rfl) rfl args B m
def u0C (N : Nat) : List (PV D) -> Bt D -> Nat -> CallR D:=fun args B m=>inlC (x0P [(130,u0A N),(131,y8G N),(132,y2Y N),(133,z9W N)]) N (ycOf Tryz.prog 100 []) [.t 2, .t 3] 30 (.tup [.nilp,(.bool false)]) args B m
theorem u0B (hkn : HkS hk) (N : Nat) : EOk hk V 100 (u0C N):=fun args B m=>inlE hkn (x0E (tok1 (z9Z hkn N) (tok1 (y2Z hkn N) (tok1 (x9L hkn N) (tok1 (z9V hkn N) (tok0)))))) (by kernel_rfl) rfl args B m
theorem FE_67 (N : Nat) (a0 : List UInt8) : fsem (D:=D) (x0P [(100,u0C N)]) N (ycOf Tryz.prog 67 []) [.c 2 6 true, .t 3] [.str a0] .leaf 0 K_r6 = F_67 N a0:=by kernel_rfl
def u9E (N : Nat) : List (PV D) -> Bt D -> Nat -> CallR D:=fun args _ _=>match args with
  | [.str a0]=> .opt ((List UInt8 × Bool × Int × Int × Int × Bool) × Int) (F_67 N a0) default O_r6
  | _=> .bad
theorem z8P (hkn : HkS hk) (N : Nat) : EOk hk V 67 (u9E N):=fun args B m=>by
  unfold u9E
  split
  . exact fun _ h=>eP hkn (x0E (tok1 (u0B hkn N) (tok0))) (sz:= 18) (by kernel_rfl) rfl rfl rfl rfl (FE_67 N _) KO_r6 rfl h
  . trivial
theorem FE_60 (N : Nat) (a0 : List UInt8) : fsem (D:=D) (x0P [(67,u9E N)]) N (ycOf Tryz.prog 60 []) [.t 2] [.str a0] .leaf 0 K_r0 = F_60 N a0:=by kernel_rfl
def v9U (N : Nat) : List (PV D) -> Bt D -> Nat -> CallR D:=fun args _ _=>match args with
  | [.str a0]=> .opt (Int) (F_60 N a0) default O_r0
  | _=> .bad
theorem v9T (hkn : HkS hk) (N : Nat) : EOk hk V 60 (v9U N):=fun args B m=>by
  unfold v9U
  split
  . exact fun _ h=>eP hkn (x0E (tok1 (z8P hkn N) (tok0))) (sz:= 11) (by kernel_rfl) rfl rfl rfl rfl (FE_60 N _) x6P rfl h
  . trivial
theorem FE_15 (N : Nat) (a0 : Int) (a1 : Int) (a2 : Int) (a3 : Bool) (a4 : List UInt8) : fsem (D:=D) (x0P [(58,v9W N),(59,u9J N),(60,v9U N)]) N (ycOf Tryz.prog 15 []) [.t 2] [.agg [.int .i64 a0, .int .i64 a1, .int .i64 a2, .bool a3, .str a4]] .leaf 0 K_r0 = F_15 N a0 a1 a2 a3 a4:=by kernel_rfl
def u9M (N : Nat) : List (PV D) -> Bt D -> Nat -> CallR D:=fun args _ _=>match args with
  | [.agg [.int .i64 a0, .int .i64 a1, .int .i64 a2, .bool a3, .str a4]]=> .opt (Int) (F_15 N a0 a1 a2 a3 a4) default O_r0
  | _=> .bad
theorem y8E (hkn : HkS hk) (N : Nat) : EOk hk V 15 (u9M N):=fun args B m=>by
  unfold u9M
  split
  . exact fun _ h=>eP hkn (x0E (tok1 (v9V hkn N) (tok1 (z8S hkn N) (tok1 (v9T hkn N) (tok0))))) (sz:= 81) (by kernel_rfl) rfl rfl rfl rfl (FE_15 N _ _ _ _ _) x6P rfl h
  . trivial
theorem FE_62 (N : Nat) (a0 : Int) (a1 : Int) (a2 : Int) (a3 : Bool) (a4 : List UInt8) : fsem (D:=D) (x0P [(15,u9M N)]) N (ycOf Tryz.prog 62 []) [.t 2] [.agg [.int .i64 a0, .int .i64 a1, .int .i64 a2, .bool a3, .str a4]] .leaf 0 K_r1 = F_62 N a0 a1 a2 a3 a4:=by kernel_rfl
def u9G (N : Nat) : List (PV D) -> Bt D -> Nat -> CallR D:=fun args _ _=>match args with
  | [.agg [.int .i64 a0, .int .i64 a1, .int .i64 a2, .bool a3, .str a4]]=> .opt (Bool) (F_62 N a0 a1 a2 a3 a4) default O_r1
  | _=> .bad
theorem y7V (hkn : HkS hk) (N : Nat) : EOk hk V 62 (u9G N):=fun args B m=>by
  unfold u9G
  split
  . exact fun _ h=>eP hkn (x0E (tok1 (y8E hkn N) (tok0))) (sz:= 11) (by kernel_rfl) rfl rfl rfl rfl (FE_62 N _ _ _ _ _) x9W rfl h
  . trivial
theorem FE_99 (N : Nat) (a0 : Int) (a1 : Int) (a2 : Int) (a3 : Bool) (a4 : List UInt8) : fsem (D:=D) (x0P [(129,u4F N)]) N (ycOf Tryz.prog 99 []) [.t 2] [.agg [.int .i64 a0, .int .i64 a1, .int .i64 a2, .bool a3, .str a4]] .leaf 0 K_r0 = F_99 N a0 a1 a2 a3 a4:=by kernel_rfl
def v8S (N : Nat) : List (PV D) -> Bt D -> Nat -> CallR D:=fun args _ _=>match args with
  | [.agg [.int .i64 a0, .int .i64 a1, .int .i64 a2, .bool a3, .str a4]]=> .opt (Int) (F_99 N a0 a1 a2 a3 a4) default O_r0
  | _=> .bad
theorem v8R (hkn : HkS hk) (N : Nat) : EOk hk V 99 (v8S N):=fun args B m=>by
  unfold v8S
  split
  . exact fun _ h=>eP hkn (x0E (tok1 (v3C hkn N) (tok0))) (sz:= 13) (by kernel_rfl) rfl rfl rfl rfl (FE_99 N _ _ _ _ _) x6P rfl h
  . trivial
theorem FE_63 (N : Nat) (a0 : Int) (a1 : List UInt8) (a2 : Int) (a3 : Int) (a4 : Int) (a5 : Bool) (a6 : List UInt8) : fsem (D:=D) (x0P [(59,u9J N),(99,v8S N)]) N (ycOf Tryz.prog 63 []) [.t 4] [.agg [.int .i64 a0, .str a1], .agg [.int .i64 a2, .int .i64 a3, .int .i64 a4, .bool a5, .str a6]] .leaf 0 K_r0 = F_63 N a0 a1 a2 a3 a4 a5 a6:=by kernel_rfl
def v9S (N : Nat) : List (PV D) -> Bt D -> Nat -> CallR D:=fun args _ _=>match args with
  | [.agg [.int .i64 a0, .str a1], .agg [.int .i64 a2, .int .i64 a3, .int .i64 a4, .bool a5, .str a6]]=> .opt (Int) (F_63 N a0 a1 a2 a3 a4 a5 a6) default O_r0
  | _=> .bad
theorem v9R (hkn : HkS hk) (N : Nat) : EOk hk V 63 (v9S N):=fun args B m=>by
  unfold v9S
  split
  . exact fun _ h=>eP hkn (x0E (tok1 (z8S hkn N) (tok1 (v8R hkn N) (tok0)))) (sz:= 30) (by kernel_rfl) rfl rfl rfl rfl (FE_63 N _ _ _ _ _ _ _) x6P rfl h
  . trivial
theorem FE_64 (N : Nat) (a0 : List UInt8) : fsem (D:=D) (x0P []) N (ycOf Tryz.prog 64 [[((.tmp 6),(.int .i64))]]) [.t 2] [.str a0] .leaf 0 K_r1 = F_64 N a0:=by kernel_rfl
def u9F (N : Nat) : List (PV D) -> Bt D -> Nat -> CallR D:=fun args _ _=>match args with
  | [.str a0]=> .opt (Bool) (F_64 N a0) default O_r1
  | _=> .bad
theorem z8Q (hkn : HkS hk) (N : Nat) : EOk hk V 64 (u9F N):=fun args B m=>by
  unfold u9F
  split
  . exact fun _ h=>eP hkn (x0E (tok0)) (sz:= 20) (by kernel_rfl) rfl rfl rfl rfl (FE_64 N _) x9W rfl h
  . trivial
def K_r9 : PV D -> Y D -> Option (Int):=fun v _=>match v with
  | .int .u64 q0=>some q0
  | _=>none
def O_r9 (r : Int) : PV D:= .int .u64 r
theorem KO_r9 {r : Int} (v : PV D) (st : Y D) (h : K_r9 v st = some r) : v = O_r9 r:=by
  unfold K_r9 at h
  split at h <;> first | (cases h; rfl) | (cases h)
theorem FE_228 (N : Nat) (a0 : Int) : fsem (D:=D) (x0P []) N (ycOf Tryz.prog 228 []) [.t 2] [.int .i64 a0] .leaf 0 K_r9 = w2T N a0:=by kernel_rfl
def u3G (N : Nat) : List (PV D) -> Bt D -> Nat -> CallR D:=fun args _ _=>match args with
  | [.int .i64 a0]=> .opt (Int) (w2T N a0) default O_r9
  | _=> .bad
theorem v2D (hkn : HkS hk) (N : Nat) : EOk hk V 228 (u3G N):=fun args B m=>by
  unfold u3G
  split
  . exact fun _ h=>eP hkn (x0E (tok0)) (sz:= 12) (by kernel_rfl) rfl rfl rfl rfl (FE_228 N _) KO_r9 rfl h
  . trivial
theorem FE_208 (N : Nat) (a0 : Int) (a1 : Int) : fsem (D:=D) (x0P [(228,u3G N)]) N (ycOf Tryz.prog 208 [[((.tmp 5),(.int .u64)),((.tmp 7),(.int .i64)),((.row 0),(.rowI 5 .u8))]]) [.t 4] [.int .i64 a0, .int .i64 a1] .leaf 0 K_r2 = w2W N a0 a1:=by kernel_rfl
def u3M (N : Nat) : List (PV D) -> Bt D -> Nat -> CallR D:=fun args _ _=>match args with
  | [.int .i64 a0, .int .i64 a1]=> .opt (List UInt8) (w2W N a0 a1) default O_r2
  | _=> .bad
theorem v2J (hkn : HkS hk) (N : Nat) : EOk hk V 208 (u3M N):=fun args B m=>by
  unfold u3M
  split
  . exact fun _ h=>eP hkn (x0E (tok1 (v2D hkn N) (tok0))) (sz:= 29) (by kernel_rfl) rfl rfl rfl rfl (FE_208 N _ _) z5S rfl h
  . trivial
theorem FE_213 (N : Nat) (a0 : Int) (a1 : Bool) : fsem (D:=D) (x0P []) N (ycOf Tryz.prog 213 []) [.t 4] [.int .u8 a0, .bool a1] .leaf 0 K_r3 = z5U N a0 a1:=by kernel_rfl
def z3Y (N : Nat) : List (PV D) -> Bt D -> Nat -> CallR D:=fun args _ _=>match args with
  | [.int .u8 a0, .bool a1]=> .opt (Int) (z5U N a0 a1) default O_r3
  | _=> .bad
theorem z1T (hkn : HkS hk) (N : Nat) : EOk hk V 213 (z3Y N):=fun args B m=>by
  unfold z3Y
  split
  . exact fun _ h=>eP hkn (x0E (tok0)) (sz:= 12) (by kernel_rfl) rfl rfl rfl rfl (FE_213 N _ _) u6J rfl h
  . trivial
theorem FE_212 (N : Nat) (a0 : Int) (a1 : Int) (a2 : Bool) : fsem (D:=D) (x0P [(147,x3H N),(213,z3Y N)]) N (ycOf Tryz.prog 212 []) [.t 6] [.int .u8 a0, .int .u8 a1, .bool a2] .leaf 0 K_r3 = v4H N a0 a1 a2:=by kernel_rfl
def u3H (N : Nat) : List (PV D) -> Bt D -> Nat -> CallR D:=fun args _ _=>match args with
  | [.int .u8 a0, .int .u8 a1, .bool a2]=> .opt (Int) (v4H N a0 a1 a2) default O_r3
  | _=> .bad
theorem v2E (hkn : HkS hk) (N : Nat) : EOk hk V 212 (u3H N):=fun args B m=>by
  unfold u3H
  split
  . exact fun _ h=>eP hkn (x0E (tok1 (x1T hkn N) (tok1 (z1T hkn N) (tok0)))) (sz:= 21) (by kernel_rfl) rfl rfl rfl rfl (FE_212 N _ _ _) u6J rfl h
  . trivial
def K_r10 : PV D -> Y D -> Option (Int × Bool):=fun v _=>match v with
  | .tup [.int .u8 q0, .bool q1]=>some (q0,q1)
  | _=>none
def O_r10 (r : Int × Bool) : PV D:= .tup [.int .u8 r.1, .bool r.2]
theorem KO_r10 {r : Int × Bool} (v : PV D) (st : Y D) (h : K_r10 v st = some r) : v = O_r10 r:=by
  unfold K_r10 at h
  split at h <;> first | (cases h; rfl) | (cases h)
theorem FE_229 (N : Nat) (a0 : Int) (a1 : Bool) : fsem (D:=D) (x0P []) N (ycOf Tryz.prog 229 []) [.t 4, .t 5] [.int .i64 a0, .bool a1] .leaf 0 K_r10 = w2S N a0 a1:=by kernel_rfl
def u3F (N : Nat) : List (PV D) -> Bt D -> Nat -> CallR D:=fun args _ _=>match args with
  | [.int .i64 a0, .bool a1]=> .opt (Int × Bool) (w2S N a0 a1) default O_r10
  | _=> .bad
theorem v2C (hkn : HkS hk) (N : Nat) : EOk hk V 229 (u3F N):=fun args B m=>by
  unfold u3F
  split
  . exact fun _ h=>eP hkn (x0E (tok0)) (sz:= 17) (by kernel_rfl) rfl rfl rfl rfl (FE_229 N _ _) KO_r10 rfl h
  . trivial
theorem FE_211 (N : Nat) (a0 : Int) (a1 : Int) (a2 : Bool) : fsem (D:=D) (x0P [(229,u3F N)]) N (ycOf Tryz.prog 211 []) [.t 6] [.int .u8 a0, .int .u8 a1, .bool a2] .leaf 0 K_r3 = v4J N a0 a1 a2:=by kernel_rfl
def u3J (N : Nat) : List (PV D) -> Bt D -> Nat -> CallR D:=fun args _ _=>match args with
  | [.int .u8 a0, .int .u8 a1, .bool a2]=> .opt (Int) (v4J N a0 a1 a2) default O_r3
  | _=> .bad
theorem v2F (hkn : HkS hk) (N : Nat) : EOk hk V 211 (u3J N):=fun args B m=>by
  unfold u3J
  split
  . exact fun _ h=>eP hkn (x0E (tok1 (v2C hkn N) (tok0))) (sz:= 42) (by kernel_rfl) rfl rfl rfl rfl (FE_211 N _ _ _) u6J rfl h
  . trivial
theorem FE_210 (N : Nat) (a0 : List UInt8) : fsem (D:=D) (x0P [(147,x3H N)]) N (ycOf Tryz.prog 210 []) [.t 2] [.str a0] .leaf 0 K_r3 = w2U N a0:=by kernel_rfl
def u3K (N : Nat) : List (PV D) -> Bt D -> Nat -> CallR D:=fun args _ _=>match args with
  | [.str a0]=> .opt (Int) (w2U N a0) default O_r3
  | _=> .bad
theorem v2G (hkn : HkS hk) (N : Nat) : EOk hk V 210 (u3K N):=fun args B m=>by
  unfold u3K
  split
  . exact fun _ h=>eP hkn (x0E (tok1 (x1T hkn N) (tok0))) (sz:= 5) (by kernel_rfl) rfl rfl rfl rfl (FE_210 N _) u6J rfl h
  . trivial
theorem FE_209 (N : Nat) (a0 : List UInt8) (a1 : Bool) (a2 : Int) (a3 : Int) (a4 : Int) (a5 : Bool) (a6 : List UInt8) : fsem (D:=D) (x0P [(146,y0N N),(147,x3H N),(183,y8A N)]) N (ycOf Tryz.prog 209 [[((.tmp 6),(.int .i64)),((.tmp 7),(.int .i64)),((.tmp 8),(.int .i64))]]) [.t 4] [.agg [.str a0, .bool a1, .int .i64 a2, .int .i64 a3, .int .i64 a4, .bool a5], .str a6] .leaf 0 K_r0 = w2V N a0 a1 a2 a3 a4 a5 a6:=by kernel_rfl
def u3L (N : Nat) : List (PV D) -> Bt D -> Nat -> CallR D:=fun args _ _=>match args with
  | [.agg [.str a0, .bool a1, .int .i64 a2, .int .i64 a3, .int .i64 a4, .bool a5], .str a6]=> .opt (Int) (w2V N a0 a1 a2 a3 a4 a5 a6) default O_r0
  | _=> .bad
theorem v2H (hkn : HkS hk) (N : Nat) : EOk hk V 209 (u3L N):=fun args B m=>by
  unfold u3L
  split
  . exact fun _ h=>eP hkn (x0E (tok1 (x6Z hkn N) (tok1 (x1T hkn N) (tok1 (y2W hkn N) (tok0))))) (sz:= 65) (by kernel_rfl) rfl rfl rfl rfl (FE_209 N _ _ _ _ _ _ _) x6P rfl h
  . trivial
theorem FE_180 (N : Nat) (a0 : List UInt8) (a1 : Bool) (a2 : Int) (a3 : Int) (a4 : Int) (a5 : Bool) (a6 : Int) : fsem (D:=D) (x0P [(146,y0N N),(147,x3H N),(183,y8A N),(188,y0M N),(208,u3M N),(209,u3L N),(210,u3K N),(211,u3J N),(212,u3H N),(213,z3Y N)]) N (ycOf Tryz.prog 180 [[((.tmp 10),(.rowI 5 .u8)),((.tmp 11),(.int .i64)),((.tmp 12),(.int .i64))]]) [.t 4] [.agg [.str a0, .bool a1, .int .i64 a2, .int .i64 a3, .int .i64 a4, .bool a5], .int .i64 a6] .leaf 0 K_r2 = u1F N a0 a1 a2 a3 a4 a5 a6:=by kernel_rfl
def u3T (N : Nat) : List (PV D) -> Bt D -> Nat -> CallR D:=fun args _ _=>match args with
  | [.agg [.str a0, .bool a1, .int .i64 a2, .int .i64 a3, .int .i64 a4, .bool a5], .int .i64 a6]=> .opt (List UInt8) (u1F N a0 a1 a2 a3 a4 a5 a6) default O_r2
  | _=> .bad
theorem v2Q (hkn : HkS hk) (N : Nat) : EOk hk V 180 (u3T N):=fun args B m=>by
  unfold u3T
  split
  . exact fun _ h=>eP hkn (x0E (tok1 (x6Z hkn N) (tok1 (x1T hkn N) (tok1 (y2W hkn N) (tok1 (x6Y hkn N) (tok1 (v2J hkn N) (tok1 (v2H hkn N) (tok1 (v2G hkn N) (tok1 (v2F hkn N) (tok1 (v2E hkn N) (tok1 (z1T hkn N) (tok0)))))))))))) (sz:= 156) (by kernel_rfl) rfl rfl rfl rfl (FE_180 N _ _ _ _ _ _ _) z5S rfl h
  . trivial
def K_r11 : PV D -> Y D -> Option (Int × Bool × Bool):=fun v _=>match v with
  | .tup [.int .i64 q0, .bool q1, .bool q2]=>some (q0,q1,q2)
  | _=>none
def O_r11 (r : Int × Bool × Bool) : PV D:= .tup [.int .i64 r.1, .bool r.2.1, .bool r.2.2]
theorem KO_r11 {r : Int × Bool × Bool} (v : PV D) (st : Y D) (h : K_r11 v st = some r) : v = O_r11 r:=by
  unfold K_r11 at h
  split at h <;> first | (cases h; rfl) | (cases h)
theorem FE_179 (N : Nat) (a0 : Int) : fsem (D:=D) (x0P []) N (ycOf Tryz.prog 179 [[((.tmp 5),(.int .i64))]]) [.t 2, .t 3, .t 4] [.int .u8 a0] .leaf 0 K_r11 = w2X N a0:=by kernel_rfl
def u3U (N : Nat) : List (PV D) -> Bt D -> Nat -> CallR D:=fun args _ _=>match args with
  | [.int .u8 a0]=> .opt (Int × Bool × Bool) (w2X N a0) default O_r11
  | _=> .bad
theorem v2R (hkn : HkS hk) (N : Nat) : EOk hk V 179 (u3U N):=fun args B m=>by
  unfold u3U
  split
  . exact fun _ h=>eP hkn (x0E (tok0)) (sz:= 20) (by kernel_rfl) rfl rfl rfl rfl (FE_179 N _) KO_r11 rfl h
  . trivial
theorem FE_139 (N : Nat) (a0 : List UInt8) (a1 : List UInt8) : fsem (D:=D) (x0P [(105,y8H N),(146,y0N N),(179,u3U N),(180,u3T N)]) N (ycOf Tryz.prog 139 [[((.tmp 8),(.int .i64)),((.tmp 10),(.int .i64)),((.tmp 11),(.int .i64))]]) [.t 4, .t 5] [.str a0, .str a1] .leaf 0 K_r4 = w3B N a0 a1:=by kernel_rfl
def u4B (N : Nat) : List (PV D) -> Bt D -> Nat -> CallR D:=fun args _ _=>match args with
  | [.str a0, .str a1]=> .opt (Int × Int) (w3B N a0 a1) default O_r4
  | _=> .bad
theorem v2Y (hkn : HkS hk) (N : Nat) : EOk hk V 139 (u4B N):=fun args B m=>by
  unfold u4B
  split
  . exact fun _ h=>eP hkn (x0E (tok1 (y3A hkn N) (tok1 (x6Z hkn N) (tok1 (v2R hkn N) (tok1 (v2Q hkn N) (tok0)))))) (sz:= 110) (by kernel_rfl) rfl rfl rfl rfl (FE_139 N _ _) KO_r4 rfl h
  . trivial
theorem FE_140 (N : Nat) (a0 : Int) (a1 : Int) : fsem (D:=D) (x0P [(181,z4B N)]) N (ycOf Tryz.prog 140 []) [.t 4] [.int .u8 a0, .int .u8 a1] .leaf 0 K_r1 = w3A N a0 a1:=by kernel_rfl
def u4A (N : Nat) : List (PV D) -> Bt D -> Nat -> CallR D:=fun args _ _=>match args with
  | [.int .u8 a0, .int .u8 a1]=> .opt (Bool) (w3A N a0 a1) default O_r1
  | _=> .bad
theorem v2X (hkn : HkS hk) (N : Nat) : EOk hk V 140 (u4A N):=fun args B m=>by
  unfold u4A
  split
  . exact fun _ h=>eP hkn (x0E (tok1 (z1W hkn N) (tok0))) (sz:= 27) (by kernel_rfl) rfl rfl rfl rfl (FE_140 N _ _) x9W rfl h
  . trivial
theorem FE_104 (N : Nat) (a0 : List UInt8) (a1 : List UInt8) : fsem (D:=D) (x0P [(105,y8H N),(139,u4B N),(140,u4A N)]) N (ycOf Tryz.prog 104 [[((.tmp 7),(.int .i64))]]) [.t 4] [.str a0, .str a1] .leaf 0 K_r1 = v4P N a0 a1:=by kernel_rfl
def u4M (N : Nat) : List (PV D) -> Bt D -> Nat -> CallR D:=fun args _ _=>match args with
  | [.str a0, .str a1]=> .opt (Bool) (v4P N a0 a1) default O_r1
  | _=> .bad
theorem v3J (hkn : HkS hk) (N : Nat) : EOk hk V 104 (u4M N):=fun args B m=>by
  unfold u4M
  split
  . exact fun _ h=>eP hkn (x0E (tok1 (y3A hkn N) (tok1 (v2Y hkn N) (tok1 (v2X hkn N) (tok0))))) (sz:= 45) (by kernel_rfl) rfl rfl rfl rfl (FE_104 N _ _) x9W rfl h
  . trivial
theorem FE_106 (N : Nat) (a0 : Int) (a1 : Int) : fsem (D:=D) (x0P []) N (ycOf Tryz.prog 106 [[((.tmp 0),(.int .u8)),((.tmp 6),(.int .i64)),((.row 0),(.rowI 5 .u8))]]) [.t 4] [.int .u8 a0, .int .i64 a1] .leaf 0 K_r2 = z5W N a0 a1:=by kernel_rfl
def u4L (N : Nat) : List (PV D) -> Bt D -> Nat -> CallR D:=fun args _ _=>match args with
  | [.int .u8 a0, .int .i64 a1]=> .opt (List UInt8) (z5W N a0 a1) default O_r2
  | _=> .bad
theorem v3H (hkn : HkS hk) (N : Nat) : EOk hk V 106 (u4L N):=fun args B m=>by
  unfold u4L
  split
  . exact fun _ h=>eP hkn (x0E (tok0)) (sz:= 25) (by kernel_rfl) rfl rfl rfl rfl (FE_106 N _ _) z5S rfl h
  . trivial
theorem FE_70 (N : Nat) (a0 : Int) (a1 : Int) : fsem (D:=D) (x0P []) N (ycOf Tryz.prog 70 [[((.tmp 0),(.int .u64)),((.tmp 6),(.int .i64)),((.row 0),(.rowI 5 .u8))]]) [.t 4] [.int .u64 a0, .int .i64 a1] .leaf 0 K_r2 = F_70 N a0 a1:=by kernel_rfl
def v9J (N : Nat) : List (PV D) -> Bt D -> Nat -> CallR D:=fun args _ _=>match args with
  | [.int .u64 a0, .int .i64 a1]=> .opt (List UInt8) (F_70 N a0 a1) default O_r2
  | _=> .bad
theorem v9H (hkn : HkS hk) (N : Nat) : EOk hk V 70 (v9J N):=fun args B m=>by
  unfold v9J
  split
  . exact fun _ h=>eP hkn (x0E (tok0)) (sz:= 26) (by kernel_rfl) rfl rfl rfl rfl (FE_70 N _ _) z5S rfl h
  . trivial
theorem FE_71 (N : Nat) (a0 : Int) (a1 : Int) : fsem (D:=D) (x0P []) N (ycOf Tryz.prog 71 [[((.tmp 0),(.int .u16)),((.tmp 6),(.int .i64)),((.row 0),(.rowI 5 .u8))]]) [.t 4] [.int .u16 a0, .int .i64 a1] .leaf 0 K_r2 = F_71 N a0 a1:=by kernel_rfl
def v9G (N : Nat) : List (PV D) -> Bt D -> Nat -> CallR D:=fun args _ _=>match args with
  | [.int .u16 a0, .int .i64 a1]=> .opt (List UInt8) (F_71 N a0 a1) default O_r2
  | _=> .bad
theorem v9F (hkn : HkS hk) (N : Nat) : EOk hk V 71 (v9G N):=fun args B m=>by
  unfold v9G
  split
  . exact fun _ h=>eP hkn (x0E (tok0)) (sz:= 26) (by kernel_rfl) rfl rfl rfl rfl (FE_71 N _ _) z5S rfl h
  . trivial
def z9E (N : Nat) : List (PV D) -> Bt D -> Nat -> CallR D:=fun args B m=>inlC (x0P [(131,y8G N)]) N (ycOf Tryz.prog 171 [[((.tmp 6), .bool),((.tmp 25),(.int .i64))],[((.tmp 3),(.int .i64)),((.tmp 4),(.int .i64)),((.tmp 48),(.int .i64))]]) [.t 2] 86 (.int .i64 0) args B m
theorem z9D (hkn : HkS hk) (N : Nat) : EOk hk V 171 (z9E N):=fun args B m=>inlE hkn (x0E (tok1 (y2Z hkn N) (tok0))) (by kernel_rfl) rfl args B m
def y7W (N : Nat) : List (PV D) -> Bt D -> Nat -> CallR D:=fun args B m=>inlC (x0P []) N (ycOf Tryz.prog 206 []) [.t 2] 20 (.int .u8 0) args B m
theorem y4B (hkn : HkS hk) (N : Nat) : EOk hk V 206 (y7W N):=fun args B m=>inlE hkn (x0E (tok0)) (by kernel_rfl) rfl args B m
def z9C (N : Nat) : List (PV D) -> Bt D -> Nat -> CallR D:=fun args B m=>inlC (x0P [(206,y7W N),(207,u3N N)]) N (ycOf Tryz.prog 172 []) [.t 4] 54 (.int .u8 0) args B m
theorem z9B (hkn : HkS hk) (N : Nat) : EOk hk V 172 (z9C N):=fun args B m=>inlE hkn (x0E (tok1 (y4B hkn N) (tok1 (v2K hkn N) (tok0)))) (by kernel_rfl) rfl args B m
def z9A (N : Nat) : List (PV D) -> Bt D -> Nat -> CallR D:=fun args B m=>inlC (x0P [(206,y7W N)]) N (ycOf Tryz.prog 173 []) [.t 4] 25 (.int .u8 0) args B m
theorem z8Z (hkn : HkS hk) (N : Nat) : EOk hk V 173 (z9A N):=fun args B m=>inlE hkn (x0E (tok1 (y4B hkn N) (tok0))) (by kernel_rfl) rfl args B m
def z8Y (N : Nat) : List (PV D) -> Bt D -> Nat -> CallR D:=fun args B m=>inlC (x0P []) N (ycOf Tryz.prog 174 []) [.t 4] 26 (.int .u8 0) args B m
theorem z8X (hkn : HkS hk) (N : Nat) : EOk hk V 174 (z8Y N):=fun args B m=>inlE hkn (x0E (tok0)) (by kernel_rfl) rfl args B m
def z8W (N : Nat) : List (PV D) -> Bt D -> Nat -> CallR D:=fun args B m=>inlC (x0P []) N (ycOf Tryz.prog 175 []) [.t 4] 26 (.int .u8 0) args B m
theorem z8V (hkn : HkS hk) (N : Nat) : EOk hk V 175 (z8W N):=fun args B m=>inlE hkn (x0E (tok0)) (by kernel_rfl) rfl args B m
def z8U (N : Nat) : List (PV D) -> Bt D -> Nat -> CallR D:=fun args B m=>inlC (x0P []) N (ycOf Tryz.prog 176 []) [.t 4] 6 (.int .u8 0) args B m
theorem z8T (hkn : HkS hk) (N : Nat) : EOk hk V 176 (z8U N):=fun args B m=>inlE hkn (x0E (tok0)) (by kernel_rfl) rfl args B m
def yc_137 : YC:=ycOf Tryz.prog 137 [[((.tmp 10),(.rowI 5 .u8)),((.tmp 51),(.int .i64)),((.cell 2 1), .str),((.cell 2 2), .bool),((.cell 2 3),(.int .i64)),((.cell 2 4),(.int .i64)),((.cell 2 5),(.int .i64))]]
def rs_137 : List RV:=[.t 6, .t 7]
theorem cf_137 : u0F Tryz.prog 137 [[((.tmp 10),(.rowI 5 .u8)),((.tmp 51),(.int .i64)),((.cell 2 1), .str),((.cell 2 2), .bool),((.cell 2 3),(.int .i64)),((.cell 2 4),(.int .i64)),((.cell 2 5),(.int .i64))]] = some (yc_137,rs_137, 171):=by kernel_rfl
def v1D (a0 : List UInt8) (a1 : Bool) (a2 : Int) (a3 : Int) (a4 : Int) (a5 : Bool) (a6 : List Int) (a7 : Int) (a8 : Int) (a9 : Bool) (a10 : Int) (a11 : Int) (a12 : List UInt8) (a13 : Bool) : Bt D:=bset (bset .leaf 0 (some (0, .cells [.str a0, .bool a1, .int .i64 a2, .int .i64 a3, .int .i64 a4, .bool a5, .lsl 1, .int .u8 a7, .int .i64 a8, .bool a9, .int .u8 a10, .int .i64 a11]))) 1 (some (1, .rowI 208 .i64 a6))
def K_137 (a0 : List UInt8) (a1 : Bool) (a2 : Int) (a3 : Int) (a4 : Int) (a5 : Bool) (a6 : List Int) (a7 : Int) (a8 : Int) (a9 : Bool) (a10 : Int) (a11 : Int) (a12 : List UInt8) (a13 : Bool) : PV D -> Y D -> Option (List UInt8 × Int):=fun v st=>match v with
  | .tup [.str q0, .int .i64 q1]=>cond (roB (v1D a0 a1 a2 a3 a4 a5 a6 a7 a8 a9 a10 a11 a12 a13) st.B 2) (some (q0,q1)) none
  | _=>none
def O_137 (r : List UInt8 × Int) : PV D:= .tup [.str r.1, .int .i64 r.2]
theorem KO_137 (a0 : List UInt8) (a1 : Bool) (a2 : Int) (a3 : Int) (a4 : Int) (a5 : Bool) (a6 : List Int) (a7 : Int) (a8 : Int) (a9 : Bool) (a10 : Int) (a11 : Int) (a12 : List UInt8) (a13 : Bool) (r : List UInt8 × Int) (v : PV D) (st : Y D) (h : K_137 a0 a1 a2 a3 a4 a5 a6 a7 a8 a9 a10 a11 a12 a13 v st = some r) : v = O_137 r /\ roB (v1D a0 a1 a2 a3 a4 a5 a6 a7 a8 a9 a10 a11 a12 a13) st.B 2 = true:=by
  unfold K_137 at h
  split at h
  . obtain ⟨h1, h2⟩ := x0C h
    cases h2
    exact ⟨rfl,h1⟩
  . cases h
def T_137 (N : Nat) : Tbl D:=x0P [(28,v9Y N),(171,z9E N),(172,z9C N),(173,z9A N),(174,z8Y N),(175,z8W N),(176,z8U N)]
theorem FE_137 (N : Nat) (a0 : List UInt8) (a1 : Bool) (a2 : Int) (a3 : Int) (a4 : Int) (a5 : Bool) (a6 : List Int) (a7 : Int) (a8 : Int) (a9 : Bool) (a10 : Int) (a11 : Int) (a12 : List UInt8) (a13 : Bool) : fsem (D:=D) (T_137 N) N yc_137 rs_137 [.lptr 0 0, .str a12, .bool a13] (v1D a0 a1 a2 a3 a4 a5 a6 a7 a8 a9 a10 a11 a12 a13) 2 (K_137 a0 a1 a2 a3 a4 a5 a6 a7 a8 a9 a10 a11 a12 a13) = u6P N a0 a1 a2 a3 a4 a5 a6 a7 a8 a9 a10 a11 a12 a13:=by kernel_rfl
theorem TO_137 (hkn : HkS hk) (N : Nat) : x9V Tryz.prog hk V (T_137 N):=x0E (tok1 (v9X hkn N) (tok1 (z9D hkn N) (tok1 (z9B hkn N) (tok1 (z8Z hkn N) (tok1 (z8X hkn N) (tok1 (z8V hkn N) (tok1 (z8T hkn N) (tok0))))))))
theorem law_137 (hkn : HkS hk) {N : Nat} {a0 : List UInt8} {a1 : Bool} {a2 : Int} {a3 : Int} {a4 : Int} {a5 : Bool} {a6 : List Int} {a7 : Int} {a8 : Int} {a9 : Bool} {a10 : Int} {a11 : Int} {a12 : List UInt8} {a13 : Bool} (i s : Nat) (sl : PV D) (o : Option Nat) (B : Bt D) (m : Nat) (hb : bget B i = some (s, .cells [.str a0, .bool a1, .int .i64 a2, .int .i64 a3, .int .i64 a4, .bool a5,sl, .int .u8 a7, .int .i64 a8, .bool a9, .int .u8 a10, .int .i64 a11])) (hrow : u1Z 208 .i64 B sl = some (a6,o)) {r : List UInt8 × Int} (h : u6P N a0 a1 a2 a3 a4 a5 a6 a7 a8 a9 a10 a11 a12 a13 = some r) : FunS Tryz.prog hk V 137 [.lptr i 0, .str a12, .bool a13] B m [] (O_137 r) B m :=
  fun_ro (TO_137 hkn N) cf_137 (hkn.no 137 rfl) (args0:=[.lptr 0 0, .str a12, .bool a13]) (Nat.le_of_ble_eq_true rfl) (noO rfl) (ins:=[some i,o]) (B0:=v1D a0 a1 a2 a3 a4 a5 a6 a7 a8 a9 a10 a11 a12 a13) (ro_nd hb hrow) (ro_B0 hb hrow (.cons _ _ _ _ (.flat _ (.str _)) (.cons _ _ _ _ (.flat _ (.bool _)) (.cons _ _ _ _ (.flat _ (.int _ _)) (.cons _ _ _ _ (.flat _ (.int _ _)) (.cons _ _ _ _ (.flat _ (.int _ _)) (.cons _ _ _ _ (.flat _ (.bool _)) (.cons _ _ _ _ (ro_row hrow) (.cons _ _ _ _ (.flat _ (.int _ _)) (.cons _ _ _ _ (.flat _ (.int _ _)) (.cons _ _ _ _ (.flat _ (.bool _)) (.cons _ _ _ _ (.flat _ (.int _ _)) (.cons _ _ _ _ (.flat _ (.int _ _)) .nil))))))))))))) (.cons _ _ _ _ (.lptr 0 i 0 rfl) (.cons _ _ _ _ (.flat _ (.str _)) (.cons _ _ _ _ (.flat _ (.bool _)) .nil))) (K:=K_137 a0 a1 a2 a3 a4 a5 a6 a7 a8 a9 a10 a11 a12 a13) (r:=r) ((FE_137 N a0 a1 a2 a3 a4 a5 a6 a7 a8 a9 a10 a11 a12 a13).trans h) (KO_137 a0 a1 a2 a3 a4 a5 a6 a7 a8 a9 a10 a11 a12 a13 r) (.tup _ (.cons _ _ (.str _) (.cons _ _ (.int _ _) .nil)))
def u4D (N : Nat) : List (PV D) -> Bt D -> Nat -> CallR D := fun args B _ => match args with
  | [.lptr i 0, .str a12, .bool a13] => match bget B i with
    | some (_, .cells [.str a0, .bool a1, .int .i64 a2, .int .i64 a3, .int .i64 a4, .bool a5, sl, .int .u8 a7, .int .i64 a8, .bool a9, .int .u8 a10, .int .i64 a11]) => match u1Z 208 .i64 B sl with
      | some (a6,_)=> .opt (List UInt8 × Int) (u6P N a0 a1 a2 a3 a4 a5 a6 a7 a8 a9 a10 a11 a12 a13) default (fun r=>O_137 r)
      | none=> .bad
    | _=> .bad
  | _=> .bad
theorem v3A (hkn : HkS hk) (N : Nat) (args : List (PV D)) (B : Bt D) (m : Nat) : x2U Tryz.prog hk V 137 args B m (u4D N args B m):=by
  unfold u4D
  split
  . split
    . split
      . intro r hr; exact law_137 hkn _ _ _ _ B m (by assumption) (by assumption) hr
      . trivial
    . trivial
  . trivial
def z9Y (N : Nat) : List (PV D) -> Bt D -> Nat -> CallR D:=fun args B m=>inlC (x0P [(152,z4D N),(153,y8F N)]) N (ycOf Tryz.prog 130 [[((.tmp 4),(.rowI 5 .u8)),((.tmp 5),(.int .i64)),((.tmp 6),(.int .i64)),((.tmp 7), .bool),((.row 0), .iter)]]) [.t 2, .t 3] 74 (.tup [(.str []),(.bool false)]) args B m
theorem z9X (hkn : HkS hk) (N : Nat) : EOk hk V 130 (z9Y N):=fun args B m=>inlE hkn (x0E (tok1 (z1Y hkn N) (tok1 (y4F hkn N) (tok0)))) (by kernel_rfl) rfl args B m
def z9L (N : Nat) : List (PV D) -> Bt D -> Nat -> CallR D:=fun args B m=>inlC (x0P [(164,y2X N),(189,y0L N),(197,z4A N),(198,z3Z N)]) N (ycOf Tryz.prog 163 [[((.tmp 16),(.int .i64)),((.cell 1 0), .str),((.cell 1 1), .bool),((.cell 1 2),(.int .i64)),((.cell 1 3),(.int .i64)),((.cell 1 4),(.int .i64)),((.cell 1 5), .bool),((.cell 1 7),(.int .u8)),((.cell 1 8),(.int .i64)),((.cell 1 9), .bool),((.cell 1 10),(.int .u8)),((.cell 1 11),(.int .i64))],[((.tmp 60),(.int .i64))]]) [.t 4] 74 (.bool false) args B m
theorem z9K (hkn : HkS hk) (N : Nat) : EOk hk V 163 (z9L N):=fun args B m=>inlE hkn (x0E (tok1 (x9K hkn N) (tok1 (x6X hkn N) (tok1 (z1V hkn N) (tok1 (z1U hkn N) (tok0)))))) (by kernel_rfl) rfl args B m
def z9G (N : Nat) : List (PV D) -> Bt D -> Nat -> CallR D:=fun args B m=>inlC (x0P [(200,y7X N)]) N (ycOf Tryz.prog 165 [[((.tmp 5),(.int .i64)),((.tmp 6), .bool),((.tmp 13),(.int .i64)),((.cell 1 0), .str),((.cell 1 1), .bool),((.cell 1 2),(.int .i64)),((.cell 1 3),(.int .i64)),((.cell 1 4),(.int .i64)),((.cell 1 5), .bool),((.cell 1 6),(.rowI 208 .i64)),((.cell 1 7),(.int .u8)),((.cell 1 8),(.int .i64)),((.cell 1 9), .bool),((.cell 1 10),(.int .u8)),((.cell 1 11),(.int .i64))]]) [.t 4] 122 (.bool false) args B m
theorem z9F (hkn : HkS hk) (N : Nat) : EOk hk V 165 (z9G N):=fun args B m=>inlE hkn (x0E (tok1 (y4C hkn N) (tok0))) (by kernel_rfl) rfl args B m
def z9U (N : Nat) : List (PV D) -> Bt D -> Nat -> CallR D:=fun args B m=>inlC (x0P [(132,y2Y N),(162,z4C N),(163,z9L N),(164,y2X N),(165,z9G N),(166,y8D N),(167,y8C N)]) N (ycOf Tryz.prog 133 []) [.t 2, .t 3] 114 (.tup [.nilp,(.bool false)]) args B m
theorem z9T (hkn : HkS hk) (N : Nat) : EOk hk V 133 (z9U N):=fun args B m=>inlE hkn (x0E (tok1 (x9L hkn N) (tok1 (z1X hkn N) (tok1 (z9K hkn N) (tok1 (x9K hkn N) (tok1 (z9F hkn N) (tok1 (y4E hkn N) (tok1 (y4D hkn N) (tok0))))))))) (by kernel_rfl) rfl args B m
def y8J (N : Nat) : List (PV D) -> Bt D -> Nat -> CallR D:=fun args B m=>inlC (x0P [(130,z9Y N),(131,y8G N),(132,y2Y N),(133,z9U N)]) N (ycOf Tryz.prog 100 []) [.t 2, .t 3] 30 (.tup [.nilp,(.bool false)]) args B m
theorem y4G (hkn : HkS hk) (N : Nat) : EOk hk V 100 (y8J N):=fun args B m=>inlE hkn (x0E (tok1 (z9X hkn N) (tok1 (y2Z hkn N) (tok1 (x9L hkn N) (tok1 (z9T hkn N) (tok0)))))) (by kernel_rfl) rfl args B m
def z9S (N : Nat) : List (PV D) -> Bt D -> Nat -> CallR D:=fun args B m=>inlC (x0P [(100,y8J N)]) N (ycOf Tryz.prog 134 []) [.t 2, .t 3] 22 (.tup [.nilp,(.bool false)]) args B m
theorem z9R (hkn : HkS hk) (N : Nat) : EOk hk V 134 (z9S N):=fun args B m=>inlE hkn (x0E (tok1 (y4G hkn N) (tok0))) (by kernel_rfl) rfl args B m
def z9Q (N : Nat) : List (PV D) -> Bt D -> Nat -> CallR D:=fun args B m=>inlC (x0P [(168,u3X N)]) N (ycOf Tryz.prog 135 [[((.tmp 5),(.rowI 5 .u8)),((.tmp 6),(.int .i64)),((.tmp 18),(.int .i64))]]) [.t 4] 66 (.str []) args B m
theorem z9P (hkn : HkS hk) (N : Nat) : EOk hk V 135 (z9Q N):=fun args B m=>inlE hkn (x0E (tok1 (v2U hkn N) (tok0))) (by kernel_rfl) rfl args B m
theorem FE_101 (N : Nat) (a0 : List UInt8) (a1 : List UInt8) : fsem (D:=D) (x0P [(134,z9S N),(135,z9Q N),(136,u4E N),(137,u4D N)]) N (ycOf Tryz.prog 101 []) [.t 4, .t 5] [.str a0, .str a1] .leaf 0 K_r4 = w3C N a0 a1:=by kernel_rfl
def u4Q (N : Nat) : List (PV D) -> Bt D -> Nat -> CallR D:=fun args _ _=>match args with
  | [.str a0, .str a1]=> .opt (Int × Int) (w3C N a0 a1) default O_r4
  | _=> .bad
theorem v3M (hkn : HkS hk) (N : Nat) : EOk hk V 101 (u4Q N):=fun args B m=>by
  unfold u4Q
  split
  . exact fun _ h=>eP hkn (x0E (tok1 (z9R hkn N) (tok1 (z9P hkn N) (tok1 (v3B hkn N) (tok1 (v3A hkn N) (tok0)))))) (sz:= 70) (by kernel_rfl) rfl rfl rfl rfl (FE_101 N _ _) KO_r4 rfl h
  . trivial
theorem FE_65 (N : Nat) (a0 : List UInt8) (a1 : List UInt8) : fsem (D:=D) (x0P [(100,y8J N),(101,u4Q N),(102,u4P N)]) N (ycOf Tryz.prog 65 []) [.t 4] [.str a0, .str a1] .leaf 0 K_r1 = F_65 N a0 a1:=by kernel_rfl
def v9Q (N : Nat) : List (PV D) -> Bt D -> Nat -> CallR D:=fun args _ _=>match args with
  | [.str a0, .str a1]=> .opt (Bool) (F_65 N a0 a1) default O_r1
  | _=> .bad
theorem v9P (hkn : HkS hk) (N : Nat) : EOk hk V 65 (v9Q N):=fun args B m=>by
  unfold v9Q
  split
  . exact fun _ h=>eP hkn (x0E (tok1 (y4G hkn N) (tok1 (v3M hkn N) (tok1 (v3L hkn N) (tok0))))) (sz:= 36) (by kernel_rfl) rfl rfl rfl rfl (FE_65 N _ _) x9W rfl h
  . trivial
theorem FE_17 (N : Nat) (a0 : Int) (a1 : Int) (a2 : Int) (a3 : Bool) (a4 : List UInt8) (a5 : Int) (a6 : List UInt8) : fsem (D:=D) (x0P [(62,u9G N),(63,v9S N),(64,u9F N),(65,v9Q N)]) N (ycOf Tryz.prog 17 []) [.t 4] [.agg [.int .i64 a0, .int .i64 a1, .int .i64 a2, .bool a3, .str a4], .agg [.int .i64 a5, .str a6]] .leaf 0 K_r0 = F_17 N a0 a1 a2 a3 a4 a5 a6:=by kernel_rfl
def u9L (N : Nat) : List (PV D) -> Bt D -> Nat -> CallR D:=fun args _ _=>match args with
  | [.agg [.int .i64 a0, .int .i64 a1, .int .i64 a2, .bool a3, .str a4], .agg [.int .i64 a5, .str a6]]=> .opt (Int) (F_17 N a0 a1 a2 a3 a4 a5 a6) default O_r0
  | _=> .bad
theorem y8B (hkn : HkS hk) (N : Nat) : EOk hk V 17 (u9L N):=fun args B m=>by
  unfold u9L
  split
  . exact fun _ h=>eP hkn (x0E (tok1 (y7V hkn N) (tok1 (v9R hkn N) (tok1 (z8Q hkn N) (tok1 (v9P hkn N) (tok0)))))) (sz:= 86) (by kernel_rfl) rfl rfl rfl rfl (FE_17 N _ _ _ _ _ _ _) x6P rfl h
  . trivial
theorem FE_19 (N : Nat) (a0 : Int) (a1 : Int) (a2 : Int) (a3 : Bool) (a4 : List UInt8) : fsem (D:=D) (x0P [(15,u9M N),(67,u9E N)]) N (ycOf Tryz.prog 19 []) [.t 2] [.agg [.int .i64 a0, .int .i64 a1, .int .i64 a2, .bool a3, .str a4]] .leaf 0 K_r0 = F_19 N a0 a1 a2 a3 a4:=by kernel_rfl
def u9K (N : Nat) : List (PV D) -> Bt D -> Nat -> CallR D:=fun args _ _=>match args with
  | [.agg [.int .i64 a0, .int .i64 a1, .int .i64 a2, .bool a3, .str a4]]=> .opt (Int) (F_19 N a0 a1 a2 a3 a4) default O_r0
  | _=> .bad
theorem y7Y (hkn : HkS hk) (N : Nat) : EOk hk V 19 (u9K N):=fun args B m=>by
  unfold u9K
  split
  . exact fun _ h=>eP hkn (x0E (tok1 (y8E hkn N) (tok1 (z8P hkn N) (tok0)))) (sz:= 53) (by kernel_rfl) rfl rfl rfl rfl (FE_19 N _ _ _ _ _) x6P rfl h
  . trivial
theorem FE_178 (N : Nat) (a0 : Int) : fsem (D:=D) (x0P []) N (ycOf Tryz.prog 178 []) [.t 2] [.int .i64 a0] .leaf 0 K_r0 = F_178 N a0:=by kernel_rfl
def u3V (N : Nat) : List (PV D) -> Bt D -> Nat -> CallR D:=fun args _ _=>match args with
  | [.int .i64 a0]=> .opt (Int) (F_178 N a0) default O_r0
  | _=> .bad
theorem v2S (hkn : HkS hk) (N : Nat) : EOk hk V 178 (u3V N):=fun args B m=>by
  unfold u3V
  split
  . exact fun _ h=>eP hkn (x0E (tok0)) (sz:= 5) (by kernel_rfl) rfl rfl rfl rfl (FE_178 N _) x6P rfl h
  . trivial
theorem FE_177 (N : Nat) (a0 : Int) (a1 : Int) : fsem (D:=D) (x0P []) N (ycOf Tryz.prog 177 [[((.tmp 5),(.int .i64)),((.tmp 6),(.int .i64))]]) [.t 4] [.int .i64 a0, .int .i64 a1] .leaf 0 K_r0 = w2Y N a0 a1:=by kernel_rfl
def u3W (N : Nat) : List (PV D) -> Bt D -> Nat -> CallR D:=fun args _ _=>match args with
  | [.int .i64 a0, .int .i64 a1]=> .opt (Int) (w2Y N a0 a1) default O_r0
  | _=> .bad
theorem v2T (hkn : HkS hk) (N : Nat) : EOk hk V 177 (u3W N):=fun args B m=>by
  unfold u3W
  split
  . exact fun _ h=>eP hkn (x0E (tok0)) (sz:= 16) (by kernel_rfl) rfl rfl rfl rfl (FE_177 N _ _) x6P rfl h
  . trivial
theorem FE_138 (N : Nat) (a0 : Int) (a1 : Int) (a2 : Int) (a3 : Bool) (a4 : List UInt8) : fsem (D:=D) (x0P [(177,u3W N),(178,u3V N)]) N (ycOf Tryz.prog 138 []) [.t 2] [.agg [.int .i64 a0, .int .i64 a1, .int .i64 a2, .bool a3, .str a4]] .leaf 0 K_r0 = v4M N a0 a1 a2 a3 a4:=by kernel_rfl
def u4C (N : Nat) : List (PV D) -> Bt D -> Nat -> CallR D:=fun args _ _=>match args with
  | [.agg [.int .i64 a0, .int .i64 a1, .int .i64 a2, .bool a3, .str a4]]=> .opt (Int) (v4M N a0 a1 a2 a3 a4) default O_r0
  | _=> .bad
theorem v2Z (hkn : HkS hk) (N : Nat) : EOk hk V 138 (u4C N):=fun args B m=>by
  unfold u4C
  split
  . exact fun _ h=>eP hkn (x0E (tok1 (v2T hkn N) (tok1 (v2S hkn N) (tok0)))) (sz:= 9) (by kernel_rfl) rfl rfl rfl rfl (FE_138 N _ _ _ _ _) x6P rfl h
  . trivial
theorem FE_103 (N : Nat) (a0 : Int) (a1 : List UInt8) (a2 : Int) (a3 : Int) (a4 : Int) (a5 : Bool) (a6 : List UInt8) : fsem (D:=D) (x0P [(128,z4H N),(138,u4C N)]) N (ycOf Tryz.prog 103 []) [.t 4] [.agg [.int .i64 a0, .str a1], .agg [.int .i64 a2, .int .i64 a3, .int .i64 a4, .bool a5, .str a6]] .leaf 0 K_r0 = v4Q N a0 a1 a2 a3 a4 a5 a6:=by kernel_rfl
def u4N (N : Nat) : List (PV D) -> Bt D -> Nat -> CallR D:=fun args _ _=>match args with
  | [.agg [.int .i64 a0, .str a1], .agg [.int .i64 a2, .int .i64 a3, .int .i64 a4, .bool a5, .str a6]]=> .opt (Int) (v4Q N a0 a1 a2 a3 a4 a5 a6) default O_r0
  | _=> .bad
theorem v3K (hkn : HkS hk) (N : Nat) : EOk hk V 103 (u4N N):=fun args B m=>by
  unfold u4N
  split
  . exact fun _ h=>eP hkn (x0E (tok1 (z2C hkn N) (tok1 (v2Z hkn N) (tok0)))) (sz:= 29) (by kernel_rfl) rfl rfl rfl rfl (FE_103 N _ _ _ _ _ _ _) x6P rfl h
  . trivial
theorem FE_75 (N : Nat) (a0 : List UInt8) : fsem (D:=D) (x0P []) N (ycOf Tryz.prog 75 [[((.tmp 3),(.int .i64))]]) [.t 2] [.str a0] .leaf 0 K_r1 = F_75 N a0:=by kernel_rfl
def v9A (N : Nat) : List (PV D) -> Bt D -> Nat -> CallR D:=fun args _ _=>match args with
  | [.str a0]=> .opt (Bool) (F_75 N a0) default O_r1
  | _=> .bad
theorem v8Z (hkn : HkS hk) (N : Nat) : EOk hk V 75 (v9A N):=fun args B m=>by
  unfold v9A
  split
  . exact fun _ h=>eP hkn (x0E (tok0)) (sz:= 20) (by kernel_rfl) rfl rfl rfl rfl (FE_75 N _) x9W rfl h
  . trivial
theorem FE_66 (N : Nat) (a0 : Int) (a1 : List UInt8) (a2 : Int) (a3 : Int) (a4 : Int) (a5 : Bool) (a6 : List UInt8) : fsem (D:=D) (x0P [(61,u9H N),(75,v9A N),(103,u4N N),(104,u4M N)]) N (ycOf Tryz.prog 66 []) [.t 4] [.agg [.int .i64 a0, .str a1], .agg [.int .i64 a2, .int .i64 a3, .int .i64 a4, .bool a5, .str a6]] .leaf 0 K_r0 = F_66 N a0 a1 a2 a3 a4 a5 a6:=by kernel_rfl
def v9N (N : Nat) : List (PV D) -> Bt D -> Nat -> CallR D:=fun args _ _=>match args with
  | [.agg [.int .i64 a0, .str a1], .agg [.int .i64 a2, .int .i64 a3, .int .i64 a4, .bool a5, .str a6]]=> .opt (Int) (F_66 N a0 a1 a2 a3 a4 a5 a6) default O_r0
  | _=> .bad
theorem v9M (hkn : HkS hk) (N : Nat) : EOk hk V 66 (v9N N):=fun args B m=>by
  unfold v9N
  split
  . exact fun _ h=>eP hkn (x0E (tok1 (z8R hkn N) (tok1 (v8Z hkn N) (tok1 (v3K hkn N) (tok1 (v3J hkn N) (tok0)))))) (sz:= 93) (by kernel_rfl) rfl rfl rfl rfl (FE_66 N _ _ _ _ _ _ _) x6P rfl h
  . trivial
theorem FE_18 (N : Nat) (a0 : Int) (a1 : Int) (a2 : Int) (a3 : Bool) (a4 : List UInt8) (a5 : Int) (a6 : List UInt8) : fsem (D:=D) (x0P [(66,v9N N)]) N (ycOf Tryz.prog 18 []) [.t 4] [.agg [.int .i64 a0, .int .i64 a1, .int .i64 a2, .bool a3, .str a4], .agg [.int .i64 a5, .str a6]] .leaf 0 K_r0 = F_18 N a0 a1 a2 a3 a4 a5 a6:=by kernel_rfl
def ent_18 (N : Nat) : List (PV D) -> Bt D -> Nat -> CallR D:=fun args _ _=>match args with
  | [.agg [.int .i64 a0, .int .i64 a1, .int .i64 a2, .bool a3, .str a4], .agg [.int .i64 a5, .str a6]]=> .opt (Int) (F_18 N a0 a1 a2 a3 a4 a5 a6) default O_r0
  | _=> .bad
theorem w0B (hkn : HkS hk) (N : Nat) : EOk hk V 18 (ent_18 N):=fun args B m=>by
  unfold ent_18
  split
  . exact fun _ h=>eP hkn (x0E (tok1 (v9M hkn N) (tok0))) (sz:= 8) (by kernel_rfl) rfl rfl rfl rfl (FE_18 N _ _ _ _ _ _ _) x6P rfl h
  . trivial
end
end Go.Yec
