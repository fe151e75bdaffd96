/-
  G1
-/
import Derived.Test.YtadaoelabimmkaaGreatDoorY14
import Derived.Test.YtadaoelabimmkaaGreatDoorY15
import Derived.Test.YtadaoelabimmkaaGreatDoorG1
set_option linter.all false
namespace Go.Yec
open Go Go.Xec Go.Proofs
noncomputable section
variable {D : Type} {V : D -> List (PV D)} {hk : Hook}
def K_r0 : PV D -> Y D -> Option (Int) := fun v _ => match v with
  | .int .i64 q0 => some q0
  | _ => none
def O_r0 (r : Int) : PV D := .int .i64 r
theorem x6N {r : Int} (v : PV D) (st : Y D) (h : K_r0 v st = some r) : v = O_r0 r := by
  unfold K_r0 at h
  split at h <;> first | (cases h; rfl) | (cases h)
theorem FE_96 (N : Nat) (a0 : Int) : fsem (D := D) (x0N []) N (ycOf Tryz.prog 96 []) [.t 2] [.int .i64 a0] .leaf 0 K_r0 = F_96 N a0 := by kernel_rfl
def v8G (N : Nat) : List (PV D) -> Bt D -> Nat -> CallR D := fun args _ _ => match args with
  | [.int .i64 a0] => .opt (Int) (F_96 N a0) default O_r0
  | _ => .bad
theorem v8F (hkn : HkS hk) (N : Nat) : EOk hk V 96 (v8G N) := fun args B m => by
  unfold v8G
  split
  . exact fun _ h => eP hkn (x0E (tok0)) (sz := 5) (by kernel_rfl) rfl rfl rfl rfl (FE_96 N _) x6N rfl h
  . trivial
theorem FE_59 (N : Nat) (a0 : Int) (a1 : Int) (a2 : Int) (a3 : Bool) (a4 : List UInt8) : fsem (D := D) (x0N [(96, v8G N)]) N (ycOf Tryz.prog 59 []) [.t 2] [.agg [.int .i64 a0, .int .i64 a1, .int .i64 a2, .bool a3, .str a4]] .leaf 0 K_r0 = F_59 N a0 a1 a2 a3 a4 := by kernel_rfl
def u8Y (N : Nat) : List (PV D) -> Bt D -> Nat -> CallR D := fun args _ _ => match args with
  | [.agg [.int .i64 a0, .int .i64 a1, .int .i64 a2, .bool a3, .str a4]] => .opt (Int) (F_59 N a0 a1 a2 a3 a4) default O_r0
  | _ => .bad
theorem z8F (hkn : HkS hk) (N : Nat) : EOk hk V 59 (u8Y N) := fun args B m => by
  unfold u8Y
  split
  . exact fun _ h => eP hkn (x0E (tok1 (v8F hkn N) (tok0))) (sz := 59) (by kernel_rfl) rfl rfl rfl rfl (FE_59 N _ _ _ _ _) x6N rfl h
  . trivial
theorem FE_144 (N : Nat) (a0 : List UInt8) (a1 : Int) : fsem (D := D) (x0N []) N (ycOf Tryz.prog 144 [[((.tmp 5), (.int .i64)), ((.tmp 6), (.int .i64))]]) [.t 4] [.str a0, .int .u8 a1] .leaf 0 K_r0 = x7U N a0 a1 := by kernel_rfl
def y0Q (N : Nat) : List (PV D) -> Bt D -> Nat -> CallR D := fun args _ _ => match args with
  | [.str a0, .int .u8 a1] => .opt (Int) (x7U N a0 a1) default O_r0
  | _ => .bad
theorem x7A (hkn : HkS hk) (N : Nat) : EOk hk V 144 (y0Q N) := fun args B m => by
  unfold y0Q
  split
  . exact fun _ h => eP hkn (x0E (tok0)) (sz := 21) (by kernel_rfl) rfl rfl rfl rfl (FE_144 N _ _) x6N rfl h
  . trivial
def K_r1 : PV D -> Y D -> Option (Bool) := fun v _ => match v with
  | .bool q0 => some q0
  | _ => none
def O_r1 (r : Bool) : PV D := .bool r
theorem x9W {r : Bool} (v : PV D) (st : Y D) (h : K_r1 v st = some r) : v = O_r1 r := by
  unfold K_r1 at h
  split at h <;> first | (cases h; rfl) | (cases h)
theorem FE_147 (N : Nat) (a0 : List UInt8) (a1 : Int) : fsem (D := D) (x0N []) N (ycOf Tryz.prog 147 [[((.tmp 5), (.int .i64))]]) [.t 4] [.str a0, .int .u8 a1] .leaf 0 K_r1 = x1U N a0 a1 := by kernel_rfl
def x3H (N : Nat) : List (PV D) -> Bt D -> Nat -> CallR D := fun args _ _ => match args with
  | [.str a0, .int .u8 a1] => .opt (Bool) (x1U N a0 a1) default O_r1
  | _ => .bad
theorem x1S (hkn : HkS hk) (N : Nat) : EOk hk V 147 (x3H N) := fun args B m => by
  unfold x3H
  split
  . exact fun _ h => eP hkn (x0E (tok0)) (sz := 17) (by kernel_rfl) rfl rfl rfl rfl (FE_147 N _ _) x9W rfl h
  . trivial
def K_r2 : PV D -> Y D -> Option (List UInt8) := fun v _ => match v with
  | .str q0 => some q0
  | _ => none
def O_r2 (r : List UInt8) : PV D := .str r
theorem z5K {r : List UInt8} (v : PV D) (st : Y D) (h : K_r2 v st = some r) : v = O_r2 r := by
  unfold K_r2 at h
  split at h <;> first | (cases h; rfl) | (cases h)
theorem FE_183 (N : Nat) (a0 : Int) (a1 : Int) : fsem (D := D) (x0N []) N (ycOf Tryz.prog 183 [[((.tmp 5), (.rowI 5 .u8)), ((.tmp 6), (.int .i64))]]) [.t 4] [.int .u8 a0, .int .i64 a1] .leaf 0 K_r2 = y3J N a0 a1 := by kernel_rfl
def y7V (N : Nat) : List (PV D) -> Bt D -> Nat -> CallR D := fun args _ _ => match args with
  | [.int .u8 a0, .int .i64 a1] => .opt (List UInt8) (y3J N a0 a1) default O_r2
  | _ => .bad
theorem y2V (hkn : HkS hk) (N : Nat) : EOk hk V 183 (y7V N) := fun args B m => by
  unfold y7V
  split
  . exact fun _ h => eP hkn (x0E (tok0)) (sz := 19) (by kernel_rfl) rfl rfl rfl rfl (FE_183 N _ _) z5K rfl h
  . trivial
def K_r3 : PV D -> Y D -> Option (Int) := fun v _ => match v with
  | .int .u8 q0 => some q0
  | _ => none
def O_r3 (r : Int) : PV D := .int .u8 r
theorem u5Y {r : Int} (v : PV D) (st : Y D) (h : K_r3 v st = some r) : v = O_r3 r := by
  unfold K_r3 at h
  split at h <;> first | (cases h; rfl) | (cases h)
theorem FE_181 (N : Nat) (a0 : Int) : fsem (D := D) (x0N []) N (ycOf Tryz.prog 181 []) [.t 2] [.int .u8 a0] .leaf 0 K_r3 = y3K N a0 := by kernel_rfl
def z3V (N : Nat) : List (PV D) -> Bt D -> Nat -> CallR D := fun args _ _ => match args with
  | [.int .u8 a0] => .opt (Int) (y3K N a0) default O_r3
  | _ => .bad
theorem z1S (hkn : HkS hk) (N : Nat) : EOk hk V 181 (z3V N) := fun args B m => by
  unfold z3V
  split
  . exact fun _ h => eP hkn (x0E (tok0)) (sz := 13) (by kernel_rfl) rfl rfl rfl rfl (FE_181 N _) u5Y rfl h
  . trivial
theorem FE_184 (N : Nat) (a0 : List UInt8) : fsem (D := D) (x0N []) N (ycOf Tryz.prog 184 []) [.t 2] [.str a0] .leaf 0 K_r1 = y9X N a0 := by kernel_rfl
def y7U (N : Nat) : List (PV D) -> Bt D -> Nat -> CallR D := fun args _ _ => match args with
  | [.str a0] => .opt (Bool) (y9X N a0) default O_r1
  | _ => .bad
theorem y2U (hkn : HkS hk) (N : Nat) : EOk hk V 184 (y7U N) := fun args B m => by
  unfold y7U
  split
  . exact fun _ h => eP hkn (x0E (tok0)) (sz := 22) (by kernel_rfl) rfl rfl rfl rfl (FE_184 N _) x9W rfl h
  . trivial
theorem FE_188 (N : Nat) (a0 : List UInt8) : fsem (D := D) (x0N [(144, y0Q N), (147, x3H N)]) N (ycOf Tryz.prog 188 [[((.tmp 3), (.int .i64))]]) [.t 2] [.str a0] .leaf 0 K_r3 = z0J N a0 := by kernel_rfl
def y0N (N : Nat) : List (PV D) -> Bt D -> Nat -> CallR D := fun args _ _ => match args with
  | [.str a0] => .opt (Int) (z0J N a0) default O_r3
  | _ => .bad
theorem x6Y (hkn : HkS hk) (N : Nat) : EOk hk V 188 (y0N N) := fun args B m => by
  unfold y0N
  split
  . exact fun _ h => eP hkn (x0E (tok1 (x7A hkn N) (tok1 (x1S hkn N) (tok0)))) (sz := 25) (by kernel_rfl) rfl rfl rfl rfl (FE_188 N _) u5Y rfl h
  . trivial
theorem FE_146 (N : Nat) (a0 : List UInt8) : fsem (D := D) (x0N [(147, x3H N), (184, y7U N), (188, y0N N)]) N (ycOf Tryz.prog 146 [[((.tmp 5), (.rowI 5 .u8)), ((.tmp 6), .bool), ((.tmp 7), (.int .i64))]]) [.t 2] [.str a0] .leaf 0 K_r2 = y9Y N a0 := by kernel_rfl
def y0P (N : Nat) : List (PV D) -> Bt D -> Nat -> CallR D := fun args _ _ => match args with
  | [.str a0] => .opt (List UInt8) (y9Y N a0) default O_r2
  | _ => .bad
theorem x6Z (hkn : HkS hk) (N : Nat) : EOk hk V 146 (y0P N) := fun args B m => by
  unfold y0P
  split
  . exact fun _ h => eP hkn (x0E (tok1 (x1S hkn N) (tok1 (y2U hkn N) (tok1 (x6Y hkn N) (tok0))))) (sz := 73) (by kernel_rfl) rfl rfl rfl rfl (FE_146 N _) z5K rfl h
  . trivial
theorem FE_185 (N : Nat) (a0 : List UInt8) : fsem (D := D) (x0N [(144, y0Q N), (147, x3H N), (188, y0N N)]) N (ycOf Tryz.prog 185 [[((.tmp 4), (.int .i64)), ((.tmp 5), (.int .i64)), ((.tmp 6), (.int .i64))], [((.tmp 7), (.int .i64))]]) [.t 2] [.str a0] .leaf 0 K_r1 = u0T N a0 := by kernel_rfl
def u3G (N : Nat) : List (PV D) -> Bt D -> Nat -> CallR D := fun args _ _ => match args with
  | [.str a0] => .opt (Bool) (u0T N a0) default O_r1
  | _ => .bad
theorem v1X (hkn : HkS hk) (N : Nat) : EOk hk V 185 (u3G N) := fun args B m => by
  unfold u3G
  split
  . exact fun _ h => eP hkn (x0E (tok1 (x7A hkn N) (tok1 (x1S hkn N) (tok1 (x6Y hkn N) (tok0))))) (sz := 70) (by kernel_rfl) rfl rfl rfl rfl (FE_185 N _) x9W rfl h
  . trivial
theorem FE_186 (N : Nat) (a0 : List UInt8) (a1 : List UInt8) : fsem (D := D) (x0N [(147, x3H N), (188, y0N N)]) N (ycOf Tryz.prog 186 [[((.tmp 5), .bool), ((.tmp 6), .bool), ((.tmp 7), .bool), ((.tmp 8), (.int .i64)), ((.tmp 9), (.int .i64))]]) [.t 4] [.str a0, .str a1] .leaf 0 K_r1 = u5Z N a0 a1 := by kernel_rfl
def u3F (N : Nat) : List (PV D) -> Bt D -> Nat -> CallR D := fun args _ _ => match args with
  | [.str a0, .str a1] => .opt (Bool) (u5Z N a0 a1) default O_r1
  | _ => .bad
theorem v1W (hkn : HkS hk) (N : Nat) : EOk hk V 186 (u3F N) := fun args B m => by
  unfold u3F
  split
  . exact fun _ h => eP hkn (x0E (tok1 (x1S hkn N) (tok1 (x6Y hkn N) (tok0)))) (sz := 67) (by kernel_rfl) rfl rfl rfl rfl (FE_186 N _ _) x9W rfl h
  . trivial
theorem FE_145 (N : Nat) (a0 : List UInt8) : fsem (D := D) (x0N [(144, y0Q N), (147, x3H N), (184, y7U N)]) N (ycOf Tryz.prog 145 [[((.tmp 4), (.int .i64)), ((.tmp 5), (.int .i64))]]) [.t 2] [.str a0] .leaf 0 K_r0 = u0V N a0 := by kernel_rfl
def z3Z (N : Nat) : List (PV D) -> Bt D -> Nat -> CallR D := fun args _ _ => match args with
  | [.str a0] => .opt (Int) (u0V N a0) default O_r0
  | _ => .bad
theorem z1W (hkn : HkS hk) (N : Nat) : EOk hk V 145 (z3Z N) := fun args B m => by
  unfold z3Z
  split
  . exact fun _ h => eP hkn (x0E (tok1 (x7A hkn N) (tok1 (x1S hkn N) (tok1 (y2U hkn N) (tok0))))) (sz := 34) (by kernel_rfl) rfl rfl rfl rfl (FE_145 N _) x6N rfl h
  . trivial
theorem FE_187 (N : Nat) (a0 : List UInt8) (a1 : List UInt8) : fsem (D := D) (x0N [(147, x3H N), (188, y0N N)]) N (ycOf Tryz.prog 187 [[((.tmp 6), (.int .i64))], [((.tmp 7), .bool), ((.tmp 8), .bool), ((.tmp 9), (.int .i64))]]) [.t 4] [.str a0, .str a1] .leaf 0 K_r1 = u0S N a0 a1 := by kernel_rfl
def u3E (N : Nat) : List (PV D) -> Bt D -> Nat -> CallR D := fun args _ _ => match args with
  | [.str a0, .str a1] => .opt (Bool) (u0S N a0 a1) default O_r1
  | _ => .bad
theorem v1V (hkn : HkS hk) (N : Nat) : EOk hk V 187 (u3E N) := fun args B m => by
  unfold u3E
  split
  . exact fun _ h => eP hkn (x0E (tok1 (x1S hkn N) (tok1 (x6Y hkn N) (tok0)))) (sz := 69) (by kernel_rfl) rfl rfl rfl rfl (FE_187 N _ _) x9W rfl h
  . trivial
theorem FE_142 (N : Nat) (a0 : List UInt8) : fsem (D := D) (x0N [(147, x3H N)]) N (ycOf Tryz.prog 142 [[((.tmp 3), (.int .i64))]]) [.t 2] [.str a0] .leaf 0 K_r1 = v3V N a0 := by kernel_rfl
def z4A (N : Nat) : List (PV D) -> Bt D -> Nat -> CallR D := fun args _ _ => match args with
  | [.str a0] => .opt (Bool) (v3V N a0) default O_r1
  | _ => .bad
theorem z1X (hkn : HkS hk) (N : Nat) : EOk hk V 142 (z4A N) := fun args B m => by
  unfold z4A
  split
  . exact fun _ h => eP hkn (x0E (tok1 (x1S hkn N) (tok0))) (sz := 21) (by kernel_rfl) rfl rfl rfl rfl (FE_142 N _) x9W rfl h
  . trivial
theorem FE_143 (N : Nat) (a0 : List UInt8) : fsem (D := D) (x0N [(142, z4A N), (144, y0Q N), (145, z3Z N), (146, y0P N), (147, x3H N), (184, y7U N), (185, u3G N), (186, u3F N), (187, u3E N)]) N (ycOf Tryz.prog 143 [[((.tmp 4), (.int .i64))]]) [.t 2] [.str a0] .leaf 0 K_r1 = v3U N a0 := by kernel_rfl
def u3P (N : Nat) : List (PV D) -> Bt D -> Nat -> CallR D := fun args _ _ => match args with
  | [.str a0] => .opt (Bool) (v3U N a0) default O_r1
  | _ => .bad
theorem v2E (hkn : HkS hk) (N : Nat) : EOk hk V 143 (u3P N) := fun args B m => by
  unfold u3P
  split
  . exact fun _ h => eP hkn (x0E (tok1 (z1X hkn N) (tok1 (x7A hkn N) (tok1 (z1W hkn N) (tok1 (x6Z hkn N) (tok1 (x1S hkn N) (tok1 (y2U hkn N) (tok1 (v1X hkn N) (tok1 (v1W hkn N) (tok1 (v1V hkn N) (tok0))))))))))) (sz := 50) (by kernel_rfl) rfl rfl rfl rfl (FE_143 N _) x9W rfl h
  . trivial
def K_r4 : PV D -> Y D -> Option (Int × Int) := fun v _ => match v with
  | .tup [.int .i64 q0, .int .i64 q1] => some (q0, q1)
  | _ => none
def O_r4 (r : Int × Int) : PV D := .tup [.int .i64 r.1, .int .i64 r.2]
theorem KO_r4 {r : Int × Int} (v : PV D) (st : Y D) (h : K_r4 v st = some r) : v = O_r4 r := by
  unfold K_r4 at h
  split at h <;> first | (cases h; rfl) | (cases h)
theorem FE_182 (N : Nat) (a0 : List UInt8) (a1 : Int) : fsem (D := D) (x0N []) N (ycOf Tryz.prog 182 [[((.tmp 6), (.int .i64)), ((.tmp 7), (.int .i64))]]) [.t 4, .t 5] [.str a0, .int .i64 a1] .leaf 0 K_r4 = u6A N a0 a1 := by kernel_rfl
def u3H (N : Nat) : List (PV D) -> Bt D -> Nat -> CallR D := fun args _ _ => match args with
  | [.str a0, .int .i64 a1] => .opt (Int × Int) (u6A N a0 a1) default O_r4
  | _ => .bad
theorem v1Y (hkn : HkS hk) (N : Nat) : EOk hk V 182 (u3H N) := fun args B m => by
  unfold u3H
  split
  . exact fun _ h => eP hkn (x0E (tok0)) (sz := 58) (by kernel_rfl) rfl rfl rfl rfl (FE_182 N _ _) KO_r4 rfl h
  . trivial
def K_r5 : PV D -> Y D -> Option (List UInt8 × Int) := fun v _ => match v with
  | .tup [.str q0, .int .i64 q1] => some (q0, q1)
  | _ => none
def O_r5 (r : List UInt8 × Int) : PV D := .tup [.str r.1, .int .i64 r.2]
theorem KO_r5 {r : List UInt8 × Int} (v : PV D) (st : Y D) (h : K_r5 v st = some r) : v = O_r5 r := by
  unfold K_r5 at h
  split at h <;> first | (cases h; rfl) | (cases h)
theorem FE_141 (N : Nat) (a0 : List UInt8) : fsem (D := D) (x0N [(147, x3H N), (181, z3V N), (182, u3H N), (183, y7V N)]) N (ycOf Tryz.prog 141 [[((.tmp 4), .str), ((.tmp 5), (.int .i64))]]) [.t 2, .t 3] [.str a0] .leaf 0 K_r5 = w2B N a0 := by kernel_rfl
def u3Q (N : Nat) : List (PV D) -> Bt D -> Nat -> CallR D := fun args _ _ => match args with
  | [.str a0] => .opt (List UInt8 × Int) (w2B N a0) default O_r5
  | _ => .bad
theorem v2F (hkn : HkS hk) (N : Nat) : EOk hk V 141 (u3Q N) := fun args B m => by
  unfold u3Q
  split
  . exact fun _ h => eP hkn (x0E (tok1 (x1S hkn N) (tok1 (z1S hkn N) (tok1 (v1Y hkn N) (tok1 (y2V hkn N) (tok0)))))) (sz := 55) (by kernel_rfl) rfl rfl rfl rfl (FE_141 N _) KO_r5 rfl h
  . trivial
theorem FE_58 (N : Nat) (a0 : Int) (a1 : Int) (a2 : Int) (a3 : Bool) (a4 : List UInt8) : fsem (D := D) (x0N []) N (ycOf Tryz.prog 58 []) [.t 2] [.agg [.int .i64 a0, .int .i64 a1, .int .i64 a2, .bool a3, .str a4]] .leaf 0 K_r1 = F_58 N a0 a1 a2 a3 a4 := by kernel_rfl
def v9E (N : Nat) : List (PV D) -> Bt D -> Nat -> CallR D := fun args _ _ => match args with
  | [.agg [.int .i64 a0, .int .i64 a1, .int .i64 a2, .bool a3, .str a4]] => .opt (Bool) (F_58 N a0 a1 a2 a3 a4) default O_r1
  | _ => .bad
theorem v9D (hkn : HkS hk) (N : Nat) : EOk hk V 58 (v9E N) := fun args B m => by
  unfold v9E
  split
  . exact fun _ h => eP hkn (x0E (tok0)) (sz := 11) (by kernel_rfl) rfl rfl rfl rfl (FE_58 N _ _ _ _ _) x9W rfl h
  . trivial
theorem FE_128 (N : Nat) (a0 : Int) (a1 : Int) (a2 : Int) (a3 : Bool) (a4 : List UInt8) : fsem (D := D) (x0N []) N (ycOf Tryz.prog 128 []) [.t 2] [.agg [.int .i64 a0, .int .i64 a1, .int .i64 a2, .bool a3, .str a4]] .leaf 0 K_r0 = u6E N a0 a1 a2 a3 a4 := by kernel_rfl
def z4B (N : Nat) : List (PV D) -> Bt D -> Nat -> CallR D := fun args _ _ => match args with
  | [.agg [.int .i64 a0, .int .i64 a1, .int .i64 a2, .bool a3, .str a4]] => .opt (Int) (u6E N a0 a1 a2 a3 a4) default O_r0
  | _ => .bad
theorem z1Y (hkn : HkS hk) (N : Nat) : EOk hk V 128 (z4B N) := fun args B m => by
  unfold z4B
  split
  . exact fun _ h => eP hkn (x0E (tok0)) (sz := 53) (by kernel_rfl) rfl rfl rfl rfl (FE_128 N _ _ _ _ _) x6N rfl h
  . trivial
theorem FE_97 (N : Nat) (a0 : Int) (a1 : Int) (a2 : Int) (a3 : Bool) (a4 : List UInt8) : fsem (D := D) (x0N [(128, z4B N)]) N (ycOf Tryz.prog 97 []) [.t 2] [.agg [.int .i64 a0, .int .i64 a1, .int .i64 a2, .bool a3, .str a4]] .leaf 0 K_r1 = F_97 N a0 a1 a2 a3 a4 := by kernel_rfl
def v8E (N : Nat) : List (PV D) -> Bt D -> Nat -> CallR D := fun args _ _ => match args with
  | [.agg [.int .i64 a0, .int .i64 a1, .int .i64 a2, .bool a3, .str a4]] => .opt (Bool) (F_97 N a0 a1 a2 a3 a4) default O_r1
  | _ => .bad
theorem v8D (hkn : HkS hk) (N : Nat) : EOk hk V 97 (v8E N) := fun args B m => by
  unfold v8E
  split
  . exact fun _ h => eP hkn (x0E (tok1 (z1Y hkn N) (tok0))) (sz := 6) (by kernel_rfl) rfl rfl rfl rfl (FE_97 N _ _ _ _ _) x9W rfl h
  . trivial
def K_r6 : PV D -> Y D -> Option ((List UInt8 × Bool × Int × Int × Int × Bool) × Int) := fun v _ => match v with
  | .tup [.agg [.str q0, .bool q1, .int .i64 q2, .int .i64 q3, .int .i64 q4, .bool q5], .int .i64 q6] => some ((q0, q1, q2, q3, q4, q5), q6)
  | _ => none
def O_r6 (r : (List UInt8 × Bool × Int × Int × Int × Bool) × Int) : PV D := .tup [.agg [.str r.1.1, .bool r.1.2.1, .int .i64 r.1.2.2.1, .int .i64 r.1.2.2.2.1, .int .i64 r.1.2.2.2.2.1, .bool r.1.2.2.2.2.2], .int .i64 r.2]
theorem KO_r6 {r : (List UInt8 × Bool × Int × Int × Int × Bool) × Int} (v : PV D) (st : Y D) (h : K_r6 v st = some r) : v = O_r6 r := by
  unfold K_r6 at h
  split at h <;> first | (cases h; rfl) | (cases h)
theorem FE_105 (N : Nat) (a0 : List UInt8) : fsem (D := D) (x0N [(141, u3Q N), (142, z4A N), (143, u3P N), (144, y0Q N), (145, z3Z N), (146, y0P N), (147, x3H N)]) N (ycOf Tryz.prog 105 [[((.tmp 8), (.int .i64)), ((.cell 1 0), .str), ((.cell 1 1), .bool), ((.cell 1 2), (.int .i64)), ((.cell 1 3), (.int .i64)), ((.cell 1 4), (.int .i64)), ((.cell 1 5), .bool)]]) [.c 2 6 true, .t 3] [.str a0] .leaf 0 K_r6 = u6F N a0 := by kernel_rfl
def y8C (N : Nat) : List (PV D) -> Bt D -> Nat -> CallR D := fun args _ _ => match args with
  | [.str a0] => .opt ((List UInt8 × Bool × Int × Int × Int × Bool) × Int) (u6F N a0) default O_r6
  | _ => .bad
theorem y2Z (hkn : HkS hk) (N : Nat) : EOk hk V 105 (y8C N) := fun args B m => by
  unfold y8C
  split
  . exact fun _ h => eP hkn (x0E (tok1 (v2F hkn N) (tok1 (z1X hkn N) (tok1 (v2E hkn N) (tok1 (x7A hkn N) (tok1 (z1W hkn N) (tok1 (x6Z hkn N) (tok1 (x1S hkn N) (tok0))))))))) (sz := 69) (by kernel_rfl) rfl rfl rfl rfl (FE_105 N _) KO_r6 rfl h
  . trivial
theorem FE_98 (N : Nat) (a0 : List UInt8) : fsem (D := D) (x0N [(105, y8C N)]) N (ycOf Tryz.prog 98 []) [.t 2] [.str a0] .leaf 0 K_r0 = F_98 N a0 := by kernel_rfl
def v8C (N : Nat) : List (PV D) -> Bt D -> Nat -> CallR D := fun args _ _ => match args with
  | [.str a0] => .opt (Int) (F_98 N a0) default O_r0
  | _ => .bad
theorem v8B (hkn : HkS hk) (N : Nat) : EOk hk V 98 (v8C N) := fun args B m => by
  unfold v8C
  split
  . exact fun _ h => eP hkn (x0E (tok1 (y2Z hkn N) (tok0))) (sz := 11) (by kernel_rfl) rfl rfl rfl rfl (FE_98 N _) x6N rfl h
  . trivial
theorem FE_61 (N : Nat) (a0 : Int) (a1 : Int) (a2 : Int) (a3 : Bool) (a4 : List UInt8) : fsem (D := D) (x0N [(97, v8E N), (98, v8C N)]) N (ycOf Tryz.prog 61 []) [.t 2] [.agg [.int .i64 a0, .int .i64 a1, .int .i64 a2, .bool a3, .str a4]] .leaf 0 K_r0 = F_61 N a0 a1 a2 a3 a4 := by kernel_rfl
def u8X (N : Nat) : List (PV D) -> Bt D -> Nat -> CallR D := fun args _ _ => match args with
  | [.agg [.int .i64 a0, .int .i64 a1, .int .i64 a2, .bool a3, .str a4]] => .opt (Int) (F_61 N a0 a1 a2 a3 a4) default O_r0
  | _ => .bad
theorem z8E (hkn : HkS hk) (N : Nat) : EOk hk V 61 (u8X N) := fun args B m => by
  unfold u8X
  split
  . exact fun _ h => eP hkn (x0E (tok1 (v8D hkn N) (tok1 (v8B hkn N) (tok0)))) (sz := 81) (by kernel_rfl) rfl rfl rfl rfl (FE_61 N _ _ _ _ _) x6N rfl h
  . trivial
theorem FE_16 (N : Nat) (a0 : Int) (a1 : Int) (a2 : Int) (a3 : Bool) (a4 : List UInt8) : fsem (D := D) (x0N [(61, u8X N)]) N (ycOf Tryz.prog 16 []) [.t 2] [.agg [.int .i64 a0, .int .i64 a1, .int .i64 a2, .bool a3, .str a4]] .leaf 0 K_r0 = F_16 N a0 a1 a2 a3 a4 := by kernel_rfl
def ent_16 (N : Nat) : List (PV D) -> Bt D -> Nat -> CallR D := fun args _ _ => match args with
  | [.agg [.int .i64 a0, .int .i64 a1, .int .i64 a2, .bool a3, .str a4]] => .opt (Int) (F_16 N a0 a1 a2 a3 a4) default O_r0
  | _ => .bad
theorem v9L (hkn : HkS hk) (N : Nat) : EOk hk V 16 (ent_16 N) := fun args B m => by
  unfold ent_16
  split
  . exact fun _ h => eP hkn (x0E (tok1 (z8E hkn N) (tok0))) (sz := 36) (by kernel_rfl) rfl rfl rfl rfl (FE_16 N _ _ _ _ _) x6N rfl h
  . trivial
def K_r7 : PV D -> Y D -> Option (Int × Bool) := fun v _ => match v with
  | .tup [.int .i64 q0, .bool q1] => some (q0, q1)
  | _ => none
def O_r7 (r : Int × Bool) : PV D := .tup [.int .i64 r.1, .bool r.2]
theorem KO_r7 {r : Int × Bool} (v : PV D) (st : Y D) (h : K_r7 v st = some r) : v = O_r7 r := by
  unfold K_r7 at h
  split at h <;> first | (cases h; rfl) | (cases h)
theorem FE_152 (N : Nat) (a0 : Int) (a1 : Int) : fsem (D := D) (x0N []) N (ycOf Tryz.prog 152 []) [.t 4, .t 5] [.int .i64 a0, .int .i32 a1] .leaf 0 K_r7 = u6B N a0 a1 := by kernel_rfl
def z3X (N : Nat) : List (PV D) -> Bt D -> Nat -> CallR D := fun args _ _ => match args with
  | [.int .i64 a0, .int .i32 a1] => .opt (Int × Bool) (u6B N a0 a1) default O_r7
  | _ => .bad
theorem z1U (hkn : HkS hk) (N : Nat) : EOk hk V 152 (z3X N) := fun args B m => by
  unfold z3X
  split
  . exact fun _ h => eP hkn (x0E (tok0)) (sz := 29) (by kernel_rfl) rfl rfl rfl rfl (FE_152 N _ _) KO_r7 rfl h
  . trivial
def ent_93 (N : Nat) : List (PV D) -> Bt D -> Nat -> CallR D := fun args _ _ => match args with
  | [.int .i64 a0, .int .i64 a1] => .opt (Int) (F_93 N a0 a1) default O_r0
  | _ => .bad
theorem FE_102 (N : Nat) (a0 : List UInt8) (a1 : List UInt8) : fsem (D := D) (x0N []) N (ycOf Tryz.prog 102 [[((.tmp 17), (.int .i64))]]) [.t 4] [.str a0, .str a1] .leaf 0 K_r1 = v4A N a0 a1 := by kernel_rfl
def u4E (N : Nat) : List (PV D) -> Bt D -> Nat -> CallR D := fun args _ _ => match args with
  | [.str a0, .str a1] => .opt (Bool) (v4A N a0 a1) default O_r1
  | _ => .bad
theorem v2V (hkn : HkS hk) (N : Nat) : EOk hk V 102 (u4E N) := fun args B m => by
  unfold u4E
  split
  . exact fun _ h => eP hkn (x0E (tok0)) (sz := 69) (by kernel_rfl) rfl rfl rfl rfl (FE_102 N _ _) x9W rfl h
  . trivial
def y8A (N : Nat) : List (PV D) -> Bt D -> Nat -> CallR D := fun args B m => inlC (x0N [(189, y0M N)]) N (ycOf Tryz.prog 153 [[((.tmp 0), (.rowI 5 .u8)), ((.tmp 32), (.int .i64))]]) [.t 6, .t 7] 41 (.tup [.nils, (.bool false)]) args B m
theorem y4D (hkn : HkS hk) (N : Nat) : EOk hk V 153 (y8A N) := fun args B m => inlE hkn (x0E (tok1 (x6X hkn N) (tok0))) (by kernel_rfl) rfl args B m
def z9P (N : Nat) : List (PV D) -> Bt D -> Nat -> CallR D := fun args B m => inlC (x0N [(152, z3X N), (153, y8A N)]) N (ycOf Tryz.prog 130 [[((.tmp 4), (.rowI 5 .u8)), ((.tmp 5), (.int .i64)), ((.tmp 6), (.int .i64)), ((.tmp 7), .bool), ((.row 1), .iter)]]) [.t 2, .t 3] 74 (.tup [(.str []), (.bool false)]) args B m
theorem z9N (hkn : HkS hk) (N : Nat) : EOk hk V 130 (z9P N) := fun args B m => inlE hkn (x0E (tok1 (z1U hkn N) (tok1 (y4D hkn N) (tok0)))) (by kernel_rfl) rfl args B m
def z9B (N : Nat) : List (PV D) -> Bt D -> Nat -> CallR D := fun args B m => inlC (x0N [(164, y2W N), (189, y0M N), (197, z3U N), (198, z3T N)]) N (ycOf Tryz.prog 163 [[((.tmp 16), (.int .i64)), ((.cell 2 0), .str), ((.cell 2 1), .bool), ((.cell 2 2), (.int .i64)), ((.cell 2 3), (.int .i64)), ((.cell 2 4), (.int .i64)), ((.cell 2 5), .bool), ((.cell 2 7), (.int .u8)), ((.cell 2 8), (.int .i64)), ((.cell 2 9), .bool), ((.cell 2 10), (.int .u8)), ((.cell 2 11), (.int .i64))], [((.tmp 60), (.int .i64))]]) [.t 4] 74 (.bool false) args B m
theorem z9A (hkn : HkS hk) (N : Nat) : EOk hk V 163 (z9B N) := fun args B m => inlE hkn (x0E (tok1 (x9J hkn N) (tok1 (x6X hkn N) (tok1 (z1R hkn N) (tok1 (z1Q hkn N) (tok0)))))) (by kernel_rfl) rfl args B m
def y7S (N : Nat) : List (PV D) -> Bt D -> Nat -> CallR D := fun args B m => inlC (x0N [(189, y0M N)]) N (ycOf Tryz.prog 200 []) [.t 6] 51 (.int .i64 0) args B m
theorem y4A (hkn : HkS hk) (N : Nat) : EOk hk V 200 (y7S N) := fun args B m => inlE hkn (x0E (tok1 (x6X hkn N) (tok0))) (by kernel_rfl) rfl args B m
def z8X (N : Nat) : List (PV D) -> Bt D -> Nat -> CallR D := fun args B m => inlC (x0N [(200, y7S N)]) N (ycOf Tryz.prog 165 [[((.tmp 5), (.int .i64)), ((.tmp 6), .bool), ((.tmp 13), (.int .i64)), ((.cell 2 0), .str), ((.cell 2 1), .bool), ((.cell 2 2), (.int .i64)), ((.cell 2 3), (.int .i64)), ((.cell 2 4), (.int .i64)), ((.cell 2 5), .bool), ((.cell 2 6), (.rowI 208 .i64)), ((.cell 2 7), (.int .u8)), ((.cell 2 8), (.int .i64)), ((.cell 2 9), .bool), ((.cell 2 10), (.int .u8)), ((.cell 2 11), (.int .i64))]]) [.t 4] 122 (.bool false) args B m
theorem z8W (hkn : HkS hk) (N : Nat) : EOk hk V 165 (z8X N) := fun args B m => inlE hkn (x0E (tok1 (y4A hkn N) (tok0))) (by kernel_rfl) rfl args B m
def y7Y (N : Nat) : List (PV D) -> Bt D -> Nat -> CallR D := fun args B m => inlC (x0N []) N (ycOf Tryz.prog 166 [[((.tmp 5), (.int .i64)), ((.tmp 6), (.int .i64)), ((.tmp 18), (.int .i64))], [((.tmp 49), (.int .i64))]]) [.t 4] 79 (.bool false) args B m
theorem y4C (hkn : HkS hk) (N : Nat) : EOk hk V 166 (y7Y N) := fun args B m => inlE hkn (x0E (tok0)) (by kernel_rfl) rfl args B m
def y7X (N : Nat) : List (PV D) -> Bt D -> Nat -> CallR D := fun args B m => inlC (x0N [(189, y0M N)]) N (ycOf Tryz.prog 167 [[((.tmp 5), (.int .i64)), ((.tmp 11), (.int .i64))]]) [.t 4] 39 (.int .i64 0) args B m
theorem y4B (hkn : HkS hk) (N : Nat) : EOk hk V 167 (y7X N) := fun args B m => inlE hkn (x0E (tok1 (x6X hkn N) (tok0))) (by kernel_rfl) rfl args B m
def z9K (N : Nat) : List (PV D) -> Bt D -> Nat -> CallR D := fun args B m => inlC (x0N [(132, y2X N), (162, z3W N), (163, z9B N), (164, y2W N), (165, z8X N), (166, y7Y N), (167, y7X N)]) N (ycOf Tryz.prog 133 []) [.t 2, .t 3] 114 (.tup [.nilp, (.bool false)]) args B m
theorem z9J (hkn : HkS hk) (N : Nat) : EOk hk V 133 (z9K N) := fun args B m => inlE hkn (x0E (tok1 (x9K hkn N) (tok1 (z1T hkn N) (tok1 (z9A hkn N) (tok1 (x9J hkn N) (tok1 (z8W hkn N) (tok1 (y4C hkn N) (tok1 (y4B hkn N) (tok0))))))))) (by kernel_rfl) rfl args B m
def z9R (N : Nat) : List (PV D) -> Bt D -> Nat -> CallR D := fun args B m => inlC (x0N [(130, z9P N), (131, y8B N), (132, y2X N), (133, z9K N)]) N (ycOf Tryz.prog 100 []) [.t 2, .t 3] 30 (.tup [.nilp, (.bool false)]) args B m
theorem z9Q (hkn : HkS hk) (N : Nat) : EOk hk V 100 (z9R N) := fun args B m => inlE hkn (x0E (tok1 (z9N hkn N) (tok1 (y2Y hkn N) (tok1 (x9K hkn N) (tok1 (z9J hkn N) (tok0)))))) (by kernel_rfl) rfl args B m
theorem FE_67 (N : Nat) (a0 : List UInt8) : fsem (D := D) (x0N [(100, z9R N)]) N (ycOf Tryz.prog 67 []) [.c 2 6 true, .t 3] [.str a0] .leaf 0 K_r6 = F_67 N a0 := by kernel_rfl
def u8U (N : Nat) : List (PV D) -> Bt D -> Nat -> CallR D := fun args _ _ => match args with
  | [.str a0] => .opt ((List UInt8 × Bool × Int × Int × Int × Bool) × Int) (F_67 N a0) default O_r6
  | _ => .bad
theorem z8B (hkn : HkS hk) (N : Nat) : EOk hk V 67 (u8U N) := fun args B m => by
  unfold u8U
  split
  . exact fun _ h => eP hkn (x0E (tok1 (z9Q hkn N) (tok0))) (sz := 18) (by kernel_rfl) rfl rfl rfl rfl (FE_67 N _) KO_r6 rfl h
  . trivial
theorem FE_60 (N : Nat) (a0 : List UInt8) : fsem (D := D) (x0N [(67, u8U N)]) N (ycOf Tryz.prog 60 []) [.t 2] [.str a0] .leaf 0 K_r0 = F_60 N a0 := by kernel_rfl
def v9C (N : Nat) : List (PV D) -> Bt D -> Nat -> CallR D := fun args _ _ => match args with
  | [.str a0] => .opt (Int) (F_60 N a0) default O_r0
  | _ => .bad
theorem v9B (hkn : HkS hk) (N : Nat) : EOk hk V 60 (v9C N) := fun args B m => by
  unfold v9C
  split
  . exact fun _ h => eP hkn (x0E (tok1 (z8B hkn N) (tok0))) (sz := 11) (by kernel_rfl) rfl rfl rfl rfl (FE_60 N _) x6N rfl h
  . trivial
theorem FE_15 (N : Nat) (a0 : Int) (a1 : Int) (a2 : Int) (a3 : Bool) (a4 : List UInt8) : fsem (D := D) (x0N [(58, v9E N), (59, u8Y N), (60, v9C N)]) N (ycOf Tryz.prog 15 []) [.t 2] [.agg [.int .i64 a0, .int .i64 a1, .int .i64 a2, .bool a3, .str a4]] .leaf 0 K_r0 = F_15 N a0 a1 a2 a3 a4 := by kernel_rfl
def u9B (N : Nat) : List (PV D) -> Bt D -> Nat -> CallR D := fun args _ _ => match args with
  | [.agg [.int .i64 a0, .int .i64 a1, .int .i64 a2, .bool a3, .str a4]] => .opt (Int) (F_15 N a0 a1 a2 a3 a4) default O_r0
  | _ => .bad
theorem y7Z (hkn : HkS hk) (N : Nat) : EOk hk V 15 (u9B N) := fun args B m => by
  unfold u9B
  split
  . exact fun _ h => eP hkn (x0E (tok1 (v9D hkn N) (tok1 (z8F hkn N) (tok1 (v9B hkn N) (tok0))))) (sz := 81) (by kernel_rfl) rfl rfl rfl rfl (FE_15 N _ _ _ _ _) x6N rfl h
  . trivial
theorem FE_62 (N : Nat) (a0 : Int) (a1 : Int) (a2 : Int) (a3 : Bool) (a4 : List UInt8) : fsem (D := D) (x0N [(15, u9B N)]) N (ycOf Tryz.prog 62 []) [.t 2] [.agg [.int .i64 a0, .int .i64 a1, .int .i64 a2, .bool a3, .str a4]] .leaf 0 K_r1 = F_62 N a0 a1 a2 a3 a4 := by kernel_rfl
def u8W (N : Nat) : List (PV D) -> Bt D -> Nat -> CallR D := fun args _ _ => match args with
  | [.agg [.int .i64 a0, .int .i64 a1, .int .i64 a2, .bool a3, .str a4]] => .opt (Bool) (F_62 N a0 a1 a2 a3 a4) default O_r1
  | _ => .bad
theorem z8D (hkn : HkS hk) (N : Nat) : EOk hk V 62 (u8W N) := fun args B m => by
  unfold u8W
  split
  . exact fun _ h => eP hkn (x0E (tok1 (y7Z hkn N) (tok0))) (sz := 11) (by kernel_rfl) rfl rfl rfl rfl (FE_62 N _ _ _ _ _) x9W rfl h
  . trivial
theorem FE_99 (N : Nat) (a0 : Int) (a1 : Int) (a2 : Int) (a3 : Bool) (a4 : List UInt8) : fsem (D := D) (x0N [(129, u3W N)]) N (ycOf Tryz.prog 99 []) [.t 2] [.agg [.int .i64 a0, .int .i64 a1, .int .i64 a2, .bool a3, .str a4]] .leaf 0 K_r0 = F_99 N a0 a1 a2 a3 a4 := by kernel_rfl
def v8A (N : Nat) : List (PV D) -> Bt D -> Nat -> CallR D := fun args _ _ => match args with
  | [.agg [.int .i64 a0, .int .i64 a1, .int .i64 a2, .bool a3, .str a4]] => .opt (Int) (F_99 N a0 a1 a2 a3 a4) default O_r0
  | _ => .bad
theorem v7Z (hkn : HkS hk) (N : Nat) : EOk hk V 99 (v8A N) := fun args B m => by
  unfold v8A
  split
  . exact fun _ h => eP hkn (x0E (tok1 (v2M hkn N) (tok0))) (sz := 13) (by kernel_rfl) rfl rfl rfl rfl (FE_99 N _ _ _ _ _) x6N rfl h
  . trivial
theorem FE_63 (N : Nat) (a0 : Int) (a1 : List UInt8) (a2 : Int) (a3 : Int) (a4 : Int) (a5 : Bool) (a6 : List UInt8) : fsem (D := D) (x0N [(59, u8Y N), (99, v8A N)]) N (ycOf Tryz.prog 63 []) [.t 4] [.agg [.int .i64 a0, .str a1], .agg [.int .i64 a2, .int .i64 a3, .int .i64 a4, .bool a5, .str a6]] .leaf 0 K_r0 = F_63 N a0 a1 a2 a3 a4 a5 a6 := by kernel_rfl
def v9A (N : Nat) : List (PV D) -> Bt D -> Nat -> CallR D := fun args _ _ => match args with
  | [.agg [.int .i64 a0, .str a1], .agg [.int .i64 a2, .int .i64 a3, .int .i64 a4, .bool a5, .str a6]] => .opt (Int) (F_63 N a0 a1 a2 a3 a4 a5 a6) default O_r0
  | _ => .bad
theorem v8Z (hkn : HkS hk) (N : Nat) : EOk hk V 63 (v9A N) := fun args B m => by
  unfold v9A
  split
  . exact fun _ h => eP hkn (x0E (tok1 (z8F hkn N) (tok1 (v7Z hkn N) (tok0)))) (sz := 30) (by kernel_rfl) rfl rfl rfl rfl (FE_63 N _ _ _ _ _ _ _) x6N rfl h
  . trivial
theorem FE_64 (N : Nat) (a0 : List UInt8) : fsem (D := D) (x0N []) N (ycOf Tryz.prog 64 [[((.tmp 6), (.int .i64))]]) [.t 2] [.str a0] .leaf 0 K_r1 = F_64 N a0 := by kernel_rfl
def u8V (N : Nat) : List (PV D) -> Bt D -> Nat -> CallR D := fun args _ _ => match args with
  | [.str a0] => .opt (Bool) (F_64 N a0) default O_r1
  | _ => .bad
theorem z8C (hkn : HkS hk) (N : Nat) : EOk hk V 64 (u8V N) := fun args B m => by
  unfold u8V
  split
  . exact fun _ h => eP hkn (x0E (tok0)) (sz := 20) (by kernel_rfl) rfl rfl rfl rfl (FE_64 N _) x9W rfl h
  . trivial
def K_r9 : PV D -> Y D -> Option (Int) := fun v _ => match v with
  | .int .u64 q0 => some q0
  | _ => none
def O_r9 (r : Int) : PV D := .int .u64 r
theorem KO_r9 {r : Int} (v : PV D) (st : Y D) (h : K_r9 v st = some r) : v = O_r9 r := by
  unfold K_r9 at h
  split at h <;> first | (cases h; rfl) | (cases h)
theorem FE_228 (N : Nat) (a0 : Int) : fsem (D := D) (x0N []) N (ycOf Tryz.prog 228 []) [.t 2] [.int .i64 a0] .leaf 0 K_r9 = w1V N a0 := by kernel_rfl
def u2X (N : Nat) : List (PV D) -> Bt D -> Nat -> CallR D := fun args _ _ => match args with
  | [.int .i64 a0] => .opt (Int) (w1V N a0) default O_r9
  | _ => .bad
theorem v1N (hkn : HkS hk) (N : Nat) : EOk hk V 228 (u2X N) := fun args B m => by
  unfold u2X
  split
  . exact fun _ h => eP hkn (x0E (tok0)) (sz := 12) (by kernel_rfl) rfl rfl rfl rfl (FE_228 N _) KO_r9 rfl h
  . trivial
theorem FE_208 (N : Nat) (a0 : Int) (a1 : Int) : fsem (D := D) (x0N [(228, u2X N)]) N (ycOf Tryz.prog 208 [[((.tmp 5), (.int .u64)), ((.tmp 7), (.int .i64)), ((.row 0), (.rowI 5 .u8))]]) [.t 4] [.int .i64 a0, .int .i64 a1] .leaf 0 K_r2 = w1Y N a0 a1 := by kernel_rfl
def u3C (N : Nat) : List (PV D) -> Bt D -> Nat -> CallR D := fun args _ _ => match args with
  | [.int .i64 a0, .int .i64 a1] => .opt (List UInt8) (w1Y N a0 a1) default O_r2
  | _ => .bad
theorem v1T (hkn : HkS hk) (N : Nat) : EOk hk V 208 (u3C N) := fun args B m => by
  unfold u3C
  split
  . exact fun _ h => eP hkn (x0E (tok1 (v1N hkn N) (tok0))) (sz := 29) (by kernel_rfl) rfl rfl rfl rfl (FE_208 N _ _) z5K rfl h
  . trivial
theorem FE_213 (N : Nat) (a0 : Int) (a1 : Bool) : fsem (D := D) (x0N []) N (ycOf Tryz.prog 213 []) [.t 4] [.int .u8 a0, .bool a1] .leaf 0 K_r3 = z5M N a0 a1 := by kernel_rfl
def z3S (N : Nat) : List (PV D) -> Bt D -> Nat -> CallR D := fun args _ _ => match args with
  | [.int .u8 a0, .bool a1] => .opt (Int) (z5M N a0 a1) default O_r3
  | _ => .bad
theorem z1P (hkn : HkS hk) (N : Nat) : EOk hk V 213 (z3S N) := fun args B m => by
  unfold z3S
  split
  . exact fun _ h => eP hkn (x0E (tok0)) (sz := 12) (by kernel_rfl) rfl rfl rfl rfl (FE_213 N _ _) u5Y rfl h
  . trivial
theorem FE_212 (N : Nat) (a0 : Int) (a1 : Int) (a2 : Bool) : fsem (D := D) (x0N [(147, x3H N), (213, z3S N)]) N (ycOf Tryz.prog 212 []) [.t 6] [.int .u8 a0, .int .u8 a1, .bool a2] .leaf 0 K_r3 = v3S N a0 a1 a2 := by kernel_rfl
def u2Y (N : Nat) : List (PV D) -> Bt D -> Nat -> CallR D := fun args _ _ => match args with
  | [.int .u8 a0, .int .u8 a1, .bool a2] => .opt (Int) (v3S N a0 a1 a2) default O_r3
  | _ => .bad
theorem v1P (hkn : HkS hk) (N : Nat) : EOk hk V 212 (u2Y N) := fun args B m => by
  unfold u2Y
  split
  . exact fun _ h => eP hkn (x0E (tok1 (x1S hkn N) (tok1 (z1P hkn N) (tok0)))) (sz := 21) (by kernel_rfl) rfl rfl rfl rfl (FE_212 N _ _ _) u5Y rfl h
  . trivial
def K_r10 : PV D -> Y D -> Option (Int × Bool) := fun v _ => match v with
  | .tup [.int .u8 q0, .bool q1] => some (q0, q1)
  | _ => none
def O_r10 (r : Int × Bool) : PV D := .tup [.int .u8 r.1, .bool r.2]
theorem KO_r10 {r : Int × Bool} (v : PV D) (st : Y D) (h : K_r10 v st = some r) : v = O_r10 r := by
  unfold K_r10 at h
  split at h <;> first | (cases h; rfl) | (cases h)
theorem FE_229 (N : Nat) (a0 : Int) (a1 : Bool) : fsem (D := D) (x0N []) N (ycOf Tryz.prog 229 []) [.t 4, .t 5] [.int .i64 a0, .bool a1] .leaf 0 K_r10 = w1U N a0 a1 := by kernel_rfl
def u2W (N : Nat) : List (PV D) -> Bt D -> Nat -> CallR D := fun args _ _ => match args with
  | [.int .i64 a0, .bool a1] => .opt (Int × Bool) (w1U N a0 a1) default O_r10
  | _ => .bad
theorem v1M (hkn : HkS hk) (N : Nat) : EOk hk V 229 (u2W N) := fun args B m => by
  unfold u2W
  split
  . exact fun _ h => eP hkn (x0E (tok0)) (sz := 17) (by kernel_rfl) rfl rfl rfl rfl (FE_229 N _ _) KO_r10 rfl h
  . trivial
theorem FE_211 (N : Nat) (a0 : Int) (a1 : Int) (a2 : Bool) : fsem (D := D) (x0N [(229, u2W N)]) N (ycOf Tryz.prog 211 []) [.t 6] [.int .u8 a0, .int .u8 a1, .bool a2] .leaf 0 K_r3 = v3T N a0 a1 a2 := by kernel_rfl
def u2Z (N : Nat) : List (PV D) -> Bt D -> Nat -> CallR D := fun args _ _ => match args with
  | [.int .u8 a0, .int .u8 a1, .bool a2] => .opt (Int) (v3T N a0 a1 a2) default O_r3
  | _ => .bad
theorem v1Q (hkn : HkS hk) (N : Nat) : EOk hk V 211 (u2Z N) := fun args B m => by
  unfold u2Z
  split
  . exact fun _ h => eP hkn (x0E (tok1 (v1M hkn N) (tok0))) (sz := 42) (by kernel_rfl) rfl rfl rfl rfl (FE_211 N _ _ _) u5Y rfl h
  . trivial
theorem FE_210 (N : Nat) (a0 : List UInt8) : fsem (D := D) (x0N [(147, x3H N)]) N (ycOf Tryz.prog 210 []) [.t 2] [.str a0] .leaf 0 K_r3 = w1W N a0 := by kernel_rfl
def u3A (N : Nat) : List (PV D) -> Bt D -> Nat -> CallR D := fun args _ _ => match args with
  | [.str a0] => .opt (Int) (w1W N a0) default O_r3
  | _ => .bad
theorem v1R (hkn : HkS hk) (N : Nat) : EOk hk V 210 (u3A N) := fun args B m => by
  unfold u3A
  split
  . exact fun _ h => eP hkn (x0E (tok1 (x1S hkn N) (tok0))) (sz := 5) (by kernel_rfl) rfl rfl rfl rfl (FE_210 N _) u5Y rfl h
  . trivial
theorem FE_209 (N : Nat) (a0 : List UInt8) (a1 : Bool) (a2 : Int) (a3 : Int) (a4 : Int) (a5 : Bool) (a6 : List UInt8) : fsem (D := D) (x0N [(146, y0P N), (147, x3H N), (183, y7V N)]) N (ycOf Tryz.prog 209 [[((.tmp 6), (.int .i64)), ((.tmp 7), (.int .i64)), ((.tmp 8), (.int .i64))]]) [.t 4] [.agg [.str a0, .bool a1, .int .i64 a2, .int .i64 a3, .int .i64 a4, .bool a5], .str a6] .leaf 0 K_r0 = w1X N a0 a1 a2 a3 a4 a5 a6 := by kernel_rfl
def u3B (N : Nat) : List (PV D) -> Bt D -> Nat -> CallR D := fun args _ _ => match args with
  | [.agg [.str a0, .bool a1, .int .i64 a2, .int .i64 a3, .int .i64 a4, .bool a5], .str a6] => .opt (Int) (w1X N a0 a1 a2 a3 a4 a5 a6) default O_r0
  | _ => .bad
theorem v1S (hkn : HkS hk) (N : Nat) : EOk hk V 209 (u3B N) := fun args B m => by
  unfold u3B
  split
  . exact fun _ h => eP hkn (x0E (tok1 (x6Z hkn N) (tok1 (x1S hkn N) (tok1 (y2V hkn N) (tok0))))) (sz := 65) (by kernel_rfl) rfl rfl rfl rfl (FE_209 N _ _ _ _ _ _ _) x6N rfl h
  . trivial
theorem FE_180 (N : Nat) (a0 : List UInt8) (a1 : Bool) (a2 : Int) (a3 : Int) (a4 : Int) (a5 : Bool) (a6 : Int) : fsem (D := D) (x0N [(146, y0P N), (147, x3H N), (183, y7V N), (188, y0N N), (208, u3C N), (209, u3B N), (210, u3A N), (211, u2Z N), (212, u2Y N), (213, z3S N)]) N (ycOf Tryz.prog 180 [[((.tmp 10), (.rowI 5 .u8)), ((.tmp 11), (.int .i64)), ((.tmp 12), (.int .i64))]]) [.t 4] [.agg [.str a0, .bool a1, .int .i64 a2, .int .i64 a3, .int .i64 a4, .bool a5], .int .i64 a6] .leaf 0 K_r2 = u0U N a0 a1 a2 a3 a4 a5 a6 := by kernel_rfl
def u3J (N : Nat) : List (PV D) -> Bt D -> Nat -> CallR D := fun args _ _ => match args with
  | [.agg [.str a0, .bool a1, .int .i64 a2, .int .i64 a3, .int .i64 a4, .bool a5], .int .i64 a6] => .opt (List UInt8) (u0U N a0 a1 a2 a3 a4 a5 a6) default O_r2
  | _ => .bad
theorem v1Z (hkn : HkS hk) (N : Nat) : EOk hk V 180 (u3J N) := fun args B m => by
  unfold u3J
  split
  . exact fun _ h => eP hkn (x0E (tok1 (x6Z hkn N) (tok1 (x1S hkn N) (tok1 (y2V hkn N) (tok1 (x6Y hkn N) (tok1 (v1T hkn N) (tok1 (v1S hkn N) (tok1 (v1R hkn N) (tok1 (v1Q hkn N) (tok1 (v1P hkn N) (tok1 (z1P hkn N) (tok0)))))))))))) (sz := 156) (by kernel_rfl) rfl rfl rfl rfl (FE_180 N _ _ _ _ _ _ _) z5K rfl h
  . trivial
def K_r11 : PV D -> Y D -> Option (Int × Bool × Bool) := fun v _ => match v with
  | .tup [.int .i64 q0, .bool q1, .bool q2] => some (q0, q1, q2)
  | _ => none
def O_r11 (r : Int × Bool × Bool) : PV D := .tup [.int .i64 r.1, .bool r.2.1, .bool r.2.2]
theorem KO_r11 {r : Int × Bool × Bool} (v : PV D) (st : Y D) (h : K_r11 v st = some r) : v = O_r11 r := by
  unfold K_r11 at h
  split at h <;> first | (cases h; rfl) | (cases h)
theorem FE_179 (N : Nat) (a0 : Int) : fsem (D := D) (x0N []) N (ycOf Tryz.prog 179 [[((.tmp 5), (.int .i64))]]) [.t 2, .t 3, .t 4] [.int .u8 a0] .leaf 0 K_r11 = w1Z N a0 := by kernel_rfl
def u3K (N : Nat) : List (PV D) -> Bt D -> Nat -> CallR D := fun args _ _ => match args with
  | [.int .u8 a0] => .opt (Int × Bool × Bool) (w1Z N a0) default O_r11
  | _ => .bad
theorem v2A (hkn : HkS hk) (N : Nat) : EOk hk V 179 (u3K N) := fun args B m => by
  unfold u3K
  split
  . exact fun _ h => eP hkn (x0E (tok0)) (sz := 20) (by kernel_rfl) rfl rfl rfl rfl (FE_179 N _) KO_r11 rfl h
  . trivial
theorem FE_139 (N : Nat) (a0 : List UInt8) (a1 : List UInt8) : fsem (D := D) (x0N [(105, y8C N), (146, y0P N), (179, u3K N), (180, u3J N)]) N (ycOf Tryz.prog 139 [[((.tmp 8), (.int .i64)), ((.tmp 10), (.int .i64)), ((.tmp 11), (.int .i64))]]) [.t 4, .t 5] [.str a0, .str a1] .leaf 0 K_r4 = w2D N a0 a1 := by kernel_rfl
def u3S (N : Nat) : List (PV D) -> Bt D -> Nat -> CallR D := fun args _ _ => match args with
  | [.str a0, .str a1] => .opt (Int × Int) (w2D N a0 a1) default O_r4
  | _ => .bad
theorem v2H (hkn : HkS hk) (N : Nat) : EOk hk V 139 (u3S N) := fun args B m => by
  unfold u3S
  split
  . exact fun _ h => eP hkn (x0E (tok1 (y2Z hkn N) (tok1 (x6Z hkn N) (tok1 (v2A hkn N) (tok1 (v1Z hkn N) (tok0)))))) (sz := 110) (by kernel_rfl) rfl rfl rfl rfl (FE_139 N _ _) KO_r4 rfl h
  . trivial
theorem FE_140 (N : Nat) (a0 : Int) (a1 : Int) : fsem (D := D) (x0N [(181, z3V N)]) N (ycOf Tryz.prog 140 []) [.t 4] [.int .u8 a0, .int .u8 a1] .leaf 0 K_r1 = w2C N a0 a1 := by kernel_rfl
def u3R (N : Nat) : List (PV D) -> Bt D -> Nat -> CallR D := fun args _ _ => match args with
  | [.int .u8 a0, .int .u8 a1] => .opt (Bool) (w2C N a0 a1) default O_r1
  | _ => .bad
theorem v2G (hkn : HkS hk) (N : Nat) : EOk hk V 140 (u3R N) := fun args B m => by
  unfold u3R
  split
  . exact fun _ h => eP hkn (x0E (tok1 (z1S hkn N) (tok0))) (sz := 27) (by kernel_rfl) rfl rfl rfl rfl (FE_140 N _ _) x9W rfl h
  . trivial
theorem FE_104 (N : Nat) (a0 : List UInt8) (a1 : List UInt8) : fsem (D := D) (x0N [(105, y8C N), (139, u3S N), (140, u3R N)]) N (ycOf Tryz.prog 104 [[((.tmp 7), (.int .i64))]]) [.t 4] [.str a0, .str a1] .leaf 0 K_r1 = v3Y N a0 a1 := by kernel_rfl
def u4C (N : Nat) : List (PV D) -> Bt D -> Nat -> CallR D := fun args _ _ => match args with
  | [.str a0, .str a1] => .opt (Bool) (v3Y N a0 a1) default O_r1
  | _ => .bad
theorem v2T (hkn : HkS hk) (N : Nat) : EOk hk V 104 (u4C N) := fun args B m => by
  unfold u4C
  split
  . exact fun _ h => eP hkn (x0E (tok1 (y2Z hkn N) (tok1 (v2H hkn N) (tok1 (v2G hkn N) (tok0))))) (sz := 45) (by kernel_rfl) rfl rfl rfl rfl (FE_104 N _ _) x9W rfl h
  . trivial
theorem FE_106 (N : Nat) (a0 : Int) (a1 : Int) : fsem (D := D) (x0N []) N (ycOf Tryz.prog 106 [[((.tmp 0), (.int .u8)), ((.tmp 6), (.int .i64)), ((.row 0), (.rowI 5 .u8))]]) [.t 4] [.int .u8 a0, .int .i64 a1] .leaf 0 K_r2 = z5N N a0 a1 := by kernel_rfl
def u4B (N : Nat) : List (PV D) -> Bt D -> Nat -> CallR D := fun args _ _ => match args with
  | [.int .u8 a0, .int .i64 a1] => .opt (List UInt8) (z5N N a0 a1) default O_r2
  | _ => .bad
theorem v2S (hkn : HkS hk) (N : Nat) : EOk hk V 106 (u4B N) := fun args B m => by
  unfold u4B
  split
  . exact fun _ h => eP hkn (x0E (tok0)) (sz := 25) (by kernel_rfl) rfl rfl rfl rfl (FE_106 N _ _) z5K rfl h
  . trivial
theorem FE_70 (N : Nat) (a0 : Int) (a1 : Int) : fsem (D := D) (x0N []) N (ycOf Tryz.prog 70 [[((.tmp 0), (.int .u64)), ((.tmp 6), (.int .i64)), ((.row 0), (.rowI 5 .u8))]]) [.t 4] [.int .u64 a0, .int .i64 a1] .leaf 0 K_r2 = F_70 N a0 a1 := by kernel_rfl
def v8S (N : Nat) : List (PV D) -> Bt D -> Nat -> CallR D := fun args _ _ => match args with
  | [.int .u64 a0, .int .i64 a1] => .opt (List UInt8) (F_70 N a0 a1) default O_r2
  | _ => .bad
theorem v8R (hkn : HkS hk) (N : Nat) : EOk hk V 70 (v8S N) := fun args B m => by
  unfold v8S
  split
  . exact fun _ h => eP hkn (x0E (tok0)) (sz := 26) (by kernel_rfl) rfl rfl rfl rfl (FE_70 N _ _) z5K rfl h
  . trivial
theorem FE_71 (N : Nat) (a0 : Int) (a1 : Int) : fsem (D := D) (x0N []) N (ycOf Tryz.prog 71 [[((.tmp 0), (.int .u16)), ((.tmp 6), (.int .i64)), ((.row 0), (.rowI 5 .u8))]]) [.t 4] [.int .u16 a0, .int .i64 a1] .leaf 0 K_r2 = F_71 N a0 a1 := by kernel_rfl
def v8Q (N : Nat) : List (PV D) -> Bt D -> Nat -> CallR D := fun args _ _ => match args with
  | [.int .u16 a0, .int .i64 a1] => .opt (List UInt8) (F_71 N a0 a1) default O_r2
  | _ => .bad
theorem v8P (hkn : HkS hk) (N : Nat) : EOk hk V 71 (v8Q N) := fun args B m => by
  unfold v8Q
  split
  . exact fun _ h => eP hkn (x0E (tok0)) (sz := 26) (by kernel_rfl) rfl rfl rfl rfl (FE_71 N _ _) z5K rfl h
  . trivial
def z8T (N : Nat) : List (PV D) -> Bt D -> Nat -> CallR D := fun args B m => inlC (x0N [(131, y8B N)]) N (ycOf Tryz.prog 171 [[((.tmp 6), .bool), ((.tmp 25), (.int .i64))], [((.tmp 3), (.int .i64)), ((.tmp 4), (.int .i64)), ((.tmp 48), (.int .i64))]]) [.t 2] 86 (.int .i64 0) args B m
theorem z8S (hkn : HkS hk) (N : Nat) : EOk hk V 171 (z8T N) := fun args B m => inlE hkn (x0E (tok1 (y2Y hkn N) (tok0))) (by kernel_rfl) rfl args B m
def y7R (N : Nat) : List (PV D) -> Bt D -> Nat -> CallR D := fun args B m => inlC (x0N []) N (ycOf Tryz.prog 206 []) [.t 2] 20 (.int .u8 0) args B m
theorem y3Z (hkn : HkS hk) (N : Nat) : EOk hk V 206 (y7R N) := fun args B m => inlE hkn (x0E (tok0)) (by kernel_rfl) rfl args B m
def z8R (N : Nat) : List (PV D) -> Bt D -> Nat -> CallR D := fun args B m => inlC (x0N [(206, y7R N), (207, u3D N)]) N (ycOf Tryz.prog 172 []) [.t 4] 54 (.int .u8 0) args B m
theorem z8Q (hkn : HkS hk) (N : Nat) : EOk hk V 172 (z8R N) := fun args B m => inlE hkn (x0E (tok1 (y3Z hkn N) (tok1 (v1U hkn N) (tok0)))) (by kernel_rfl) rfl args B m
def z8P (N : Nat) : List (PV D) -> Bt D -> Nat -> CallR D := fun args B m => inlC (x0N [(206, y7R N)]) N (ycOf Tryz.prog 173 []) [.t 4] 25 (.int .u8 0) args B m
theorem z8N (hkn : HkS hk) (N : Nat) : EOk hk V 173 (z8P N) := fun args B m => inlE hkn (x0E (tok1 (y3Z hkn N) (tok0))) (by kernel_rfl) rfl args B m
def z8M (N : Nat) : List (PV D) -> Bt D -> Nat -> CallR D := fun args B m => inlC (x0N []) N (ycOf Tryz.prog 174 []) [.t 4] 26 (.int .u8 0) args B m
theorem z8L (hkn : HkS hk) (N : Nat) : EOk hk V 174 (z8M N) := fun args B m => inlE hkn (x0E (tok0)) (by kernel_rfl) rfl args B m
def z8K (N : Nat) : List (PV D) -> Bt D -> Nat -> CallR D := fun args B m => inlC (x0N []) N (ycOf Tryz.prog 175 []) [.t 4] 26 (.int .u8 0) args B m
theorem z8J (hkn : HkS hk) (N : Nat) : EOk hk V 175 (z8K N) := fun args B m => inlE hkn (x0E (tok0)) (by kernel_rfl) rfl args B m
def z8H (N : Nat) : List (PV D) -> Bt D -> Nat -> CallR D := fun args B m => inlC (x0N []) N (ycOf Tryz.prog 176 []) [.t 4] 6 (.int .u8 0) args B m
theorem z8G (hkn : HkS hk) (N : Nat) : EOk hk V 176 (z8H N) := fun args B m => inlE hkn (x0E (tok0)) (by kernel_rfl) rfl args B m
def yc_137 : YC := ycOf Tryz.prog 137 [[((.tmp 10), (.rowI 5 .u8)), ((.tmp 51), (.int .i64)), ((.cell 2 1), .str), ((.cell 2 2), .bool), ((.cell 2 3), (.int .i64)), ((.cell 2 4), (.int .i64)), ((.cell 2 5), (.int .i64))]]
def rs_137 : List RV := [.t 6, .t 7]
theorem cf_137 : z9V Tryz.prog 137 [[((.tmp 10), (.rowI 5 .u8)), ((.tmp 51), (.int .i64)), ((.cell 2 1), .str), ((.cell 2 2), .bool), ((.cell 2 3), (.int .i64)), ((.cell 2 4), (.int .i64)), ((.cell 2 5), (.int .i64))]] = some (yc_137, rs_137, 171) := by kernel_rfl
def v0S (a0 : List UInt8) (a1 : Bool) (a2 : Int) (a3 : Int) (a4 : Int) (a5 : Bool) (a6 : List Int) (a7 : Int) (a8 : Int) (a9 : Bool) (a10 : Int) (a11 : Int) (a12 : List UInt8) (a13 : Bool) : Bt D := bset (bset .leaf 0 (some (0, .cells [.str a0, .bool a1, .int .i64 a2, .int .i64 a3, .int .i64 a4, .bool a5, .lsl 1, .int .u8 a7, .int .i64 a8, .bool a9, .int .u8 a10, .int .i64 a11]))) 1 (some (1, .rowI 208 .i64 a6))
def K_137 (a0 : List UInt8) (a1 : Bool) (a2 : Int) (a3 : Int) (a4 : Int) (a5 : Bool) (a6 : List Int) (a7 : Int) (a8 : Int) (a9 : Bool) (a10 : Int) (a11 : Int) (a12 : List UInt8) (a13 : Bool) : PV D -> Y D -> Option (List UInt8 × Int) := fun v st => match v with
  | .tup [.str q0, .int .i64 q1] => cond (roB (v0S a0 a1 a2 a3 a4 a5 a6 a7 a8 a9 a10 a11 a12 a13) st.B 2) (some (q0, q1)) none
  | _ => none
def O_137 (r : List UInt8 × Int) : PV D := .tup [.str r.1, .int .i64 r.2]
theorem KO_137 (a0 : List UInt8) (a1 : Bool) (a2 : Int) (a3 : Int) (a4 : Int) (a5 : Bool) (a6 : List Int) (a7 : Int) (a8 : Int) (a9 : Bool) (a10 : Int) (a11 : Int) (a12 : List UInt8) (a13 : Bool) (r : List UInt8 × Int) (v : PV D) (st : Y D) (h : K_137 a0 a1 a2 a3 a4 a5 a6 a7 a8 a9 a10 a11 a12 a13 v st = some r) : v = O_137 r /\ roB (v0S a0 a1 a2 a3 a4 a5 a6 a7 a8 a9 a10 a11 a12 a13) st.B 2 = true := by
  unfold K_137 at h
  split at h
  . obtain ⟨h1, h2⟩ := x0C h
    cases h2
    exact ⟨rfl, h1⟩
  . cases h
def T_137 (N : Nat) : Tbl D := x0N [(28, v9G N), (171, z8T N), (172, z8R N), (173, z8P N), (174, z8M N), (175, z8K N), (176, z8H N)]
theorem FE_137 (N : Nat) (a0 : List UInt8) (a1 : Bool) (a2 : Int) (a3 : Int) (a4 : Int) (a5 : Bool) (a6 : List Int) (a7 : Int) (a8 : Int) (a9 : Bool) (a10 : Int) (a11 : Int) (a12 : List UInt8) (a13 : Bool) : fsem (D := D) (T_137 N) N yc_137 rs_137 [.lptr 0 0, .str a12, .bool a13] (v0S a0 a1 a2 a3 a4 a5 a6 a7 a8 a9 a10 a11 a12 a13) 2 (K_137 a0 a1 a2 a3 a4 a5 a6 a7 a8 a9 a10 a11 a12 a13) = u6D N a0 a1 a2 a3 a4 a5 a6 a7 a8 a9 a10 a11 a12 a13 := by kernel_rfl
theorem TO_137 (hkn : HkS hk) (N : Nat) : x9V Tryz.prog hk V (T_137 N) := x0E (tok1 (v9F hkn N) (tok1 (z8S hkn N) (tok1 (z8Q hkn N) (tok1 (z8N hkn N) (tok1 (z8L hkn N) (tok1 (z8J hkn N) (tok1 (z8G hkn N) (tok0))))))))
theorem law_137 (hkn : HkS hk) {N : Nat} {a0 : List UInt8} {a1 : Bool} {a2 : Int} {a3 : Int} {a4 : Int} {a5 : Bool} {a6 : List Int} {a7 : Int} {a8 : Int} {a9 : Bool} {a10 : Int} {a11 : Int} {a12 : List UInt8} {a13 : Bool} (i s : Nat) (sl : PV D) (o : Option Nat) (B : Bt D) (m : Nat) (hb : bget B i = some (s, .cells [.str a0, .bool a1, .int .i64 a2, .int .i64 a3, .int .i64 a4, .bool a5, sl, .int .u8 a7, .int .i64 a8, .bool a9, .int .u8 a10, .int .i64 a11])) (hrow : u1N 208 .i64 B sl = some (a6, o)) {r : List UInt8 × Int} (h : u6D N a0 a1 a2 a3 a4 a5 a6 a7 a8 a9 a10 a11 a12 a13 = some r) : FunS Tryz.prog hk V 137 [.lptr i 0, .str a12, .bool a13] B m [] (O_137 r) B m :=
  fun_ro (TO_137 hkn N) cf_137 (hkn.no 137 rfl) (args0 := [.lptr 0 0, .str a12, .bool a13]) (Nat.le_of_ble_eq_true rfl) (noO rfl) (ins := [some i, o]) (B0 := v0S a0 a1 a2 a3 a4 a5 a6 a7 a8 a9 a10 a11 a12 a13) (ro_nd hb hrow) (ro_B0 hb hrow (.cons _ _ _ _ (.flat _ (.str _)) (.cons _ _ _ _ (.flat _ (.bool _)) (.cons _ _ _ _ (.flat _ (.int _ _)) (.cons _ _ _ _ (.flat _ (.int _ _)) (.cons _ _ _ _ (.flat _ (.int _ _)) (.cons _ _ _ _ (.flat _ (.bool _)) (.cons _ _ _ _ (ro_row hrow) (.cons _ _ _ _ (.flat _ (.int _ _)) (.cons _ _ _ _ (.flat _ (.int _ _)) (.cons _ _ _ _ (.flat _ (.bool _)) (.cons _ _ _ _ (.flat _ (.int _ _)) (.cons _ _ _ _ (.flat _ (.int _ _)) .nil))))))))))))) (.cons _ _ _ _ (.lptr 0 i 0 rfl) (.cons _ _ _ _ (.flat _ (.str _)) (.cons _ _ _ _ (.flat _ (.bool _)) .nil))) (K := K_137 a0 a1 a2 a3 a4 a5 a6 a7 a8 a9 a10 a11 a12 a13) (r := r) ((FE_137 N a0 a1 a2 a3 a4 a5 a6 a7 a8 a9 a10 a11 a12 a13).trans h) (KO_137 a0 a1 a2 a3 a4 a5 a6 a7 a8 a9 a10 a11 a12 a13 r) (.tup _ (.cons _ _ (.str _) (.cons _ _ (.int _ _) .nil)))
def u3U (N : Nat) : List (PV D) -> Bt D -> Nat -> CallR D := fun args B _ => match args with
  | [.lptr i 0, .str a12, .bool a13] => match bget B i with
    | some (_, .cells [.str a0, .bool a1, .int .i64 a2, .int .i64 a3, .int .i64 a4, .bool a5, sl, .int .u8 a7, .int .i64 a8, .bool a9, .int .u8 a10, .int .i64 a11]) => match u1N 208 .i64 B sl with
      | some (a6, _) => .opt (List UInt8 × Int) (u6D N a0 a1 a2 a3 a4 a5 a6 a7 a8 a9 a10 a11 a12 a13) default (fun r => O_137 r)
      | none => .bad
    | _ => .bad
  | _ => .bad
theorem v2K (hkn : HkS hk) (N : Nat) (args : List (PV D)) (B : Bt D) (m : Nat) : x2U Tryz.prog hk V 137 args B m (u3U N args B m) := by
  unfold u3U
  split
  . split
    . split
      . intro r hr; exact law_137 hkn _ _ _ _ B m (by assumption) (by assumption) hr
      . trivial
    . trivial
  . trivial
def z9M (N : Nat) : List (PV D) -> Bt D -> Nat -> CallR D := fun args B m => inlC (x0N [(152, z3X N), (153, y8A N)]) N (ycOf Tryz.prog 130 [[((.tmp 4), (.rowI 5 .u8)), ((.tmp 5), (.int .i64)), ((.tmp 6), (.int .i64)), ((.tmp 7), .bool), ((.row 0), .iter)]]) [.t 2, .t 3] 74 (.tup [(.str []), (.bool false)]) args B m
theorem z9L (hkn : HkS hk) (N : Nat) : EOk hk V 130 (z9M N) := fun args B m => inlE hkn (x0E (tok1 (z1U hkn N) (tok1 (y4D hkn N) (tok0)))) (by kernel_rfl) rfl args B m
def z8Z (N : Nat) : List (PV D) -> Bt D -> Nat -> CallR D := fun args B m => inlC (x0N [(164, y2W N), (189, y0M N), (197, z3U N), (198, z3T N)]) N (ycOf Tryz.prog 163 [[((.tmp 16), (.int .i64)), ((.cell 1 0), .str), ((.cell 1 1), .bool), ((.cell 1 2), (.int .i64)), ((.cell 1 3), (.int .i64)), ((.cell 1 4), (.int .i64)), ((.cell 1 5), .bool), ((.cell 1 7), (.int .u8)), ((.cell 1 8), (.int .i64)), ((.cell 1 9), .bool), ((.cell 1 10), (.int .u8)), ((.cell 1 11), (.int .i64))], [((.tmp 60), (.int .i64))]]) [.t 4] 74 (.bool false) args B m
theorem z8Y (hkn : HkS hk) (N : Nat) : EOk hk V 163 (z8Z N) := fun args B m => inlE hkn (x0E (tok1 (x9J hkn N) (tok1 (x6X hkn N) (tok1 (z1R hkn N) (tok1 (z1Q hkn N) (tok0)))))) (by kernel_rfl) rfl args B m
def z8V (N : Nat) : List (PV D) -> Bt D -> Nat -> CallR D := fun args B m => inlC (x0N [(200, y7S N)]) N (ycOf Tryz.prog 165 [[((.tmp 5), (.int .i64)), ((.tmp 6), .bool), ((.tmp 13), (.int .i64)), ((.cell 1 0), .str), ((.cell 1 1), .bool), ((.cell 1 2), (.int .i64)), ((.cell 1 3), (.int .i64)), ((.cell 1 4), (.int .i64)), ((.cell 1 5), .bool), ((.cell 1 6), (.rowI 208 .i64)), ((.cell 1 7), (.int .u8)), ((.cell 1 8), (.int .i64)), ((.cell 1 9), .bool), ((.cell 1 10), (.int .u8)), ((.cell 1 11), (.int .i64))]]) [.t 4] 122 (.bool false) args B m
theorem z8U (hkn : HkS hk) (N : Nat) : EOk hk V 165 (z8V N) := fun args B m => inlE hkn (x0E (tok1 (y4A hkn N) (tok0))) (by kernel_rfl) rfl args B m
def z9H (N : Nat) : List (PV D) -> Bt D -> Nat -> CallR D := fun args B m => inlC (x0N [(132, y2X N), (162, z3W N), (163, z8Z N), (164, y2W N), (165, z8V N), (166, y7Y N), (167, y7X N)]) N (ycOf Tryz.prog 133 []) [.t 2, .t 3] 114 (.tup [.nilp, (.bool false)]) args B m
theorem z9G (hkn : HkS hk) (N : Nat) : EOk hk V 133 (z9H N) := fun args B m => inlE hkn (x0E (tok1 (x9K hkn N) (tok1 (z1T hkn N) (tok1 (z8Y hkn N) (tok1 (x9J hkn N) (tok1 (z8U hkn N) (tok1 (y4C hkn N) (tok1 (y4B hkn N) (tok0))))))))) (by kernel_rfl) rfl args B m
def y8D (N : Nat) : List (PV D) -> Bt D -> Nat -> CallR D := fun args B m => inlC (x0N [(130, z9M N), (131, y8B N), (132, y2X N), (133, z9H N)]) N (ycOf Tryz.prog 100 []) [.t 2, .t 3] 30 (.tup [.nilp, (.bool false)]) args B m
theorem y4E (hkn : HkS hk) (N : Nat) : EOk hk V 100 (y8D N) := fun args B m => inlE hkn (x0E (tok1 (z9L hkn N) (tok1 (y2Y hkn N) (tok1 (x9K hkn N) (tok1 (z9G hkn N) (tok0)))))) (by kernel_rfl) rfl args B m
def z9F (N : Nat) : List (PV D) -> Bt D -> Nat -> CallR D := fun args B m => inlC (x0N [(100, y8D N)]) N (ycOf Tryz.prog 134 []) [.t 2, .t 3] 22 (.tup [.nilp, (.bool false)]) args B m
theorem z9E (hkn : HkS hk) (N : Nat) : EOk hk V 134 (z9F N) := fun args B m => inlE hkn (x0E (tok1 (y4E hkn N) (tok0))) (by kernel_rfl) rfl args B m
def z9D (N : Nat) : List (PV D) -> Bt D -> Nat -> CallR D := fun args B m => inlC (x0N [(168, u3N N)]) N (ycOf Tryz.prog 135 [[((.tmp 5), (.rowI 5 .u8)), ((.tmp 6), (.int .i64)), ((.tmp 18), (.int .i64))]]) [.t 4] 66 (.str []) args B m
theorem z9C (hkn : HkS hk) (N : Nat) : EOk hk V 135 (z9D N) := fun args B m => inlE hkn (x0E (tok1 (v2D hkn N) (tok0))) (by kernel_rfl) rfl args B m
theorem FE_101 (N : Nat) (a0 : List UInt8) (a1 : List UInt8) : fsem (D := D) (x0N [(134, z9F N), (135, z9D N), (136, u3V N), (137, u3U N)]) N (ycOf Tryz.prog 101 []) [.t 4, .t 5] [.str a0, .str a1] .leaf 0 K_r4 = w2E N a0 a1 := by kernel_rfl
def u4F (N : Nat) : List (PV D) -> Bt D -> Nat -> CallR D := fun args _ _ => match args with
  | [.str a0, .str a1] => .opt (Int × Int) (w2E N a0 a1) default O_r4
  | _ => .bad
theorem v2W (hkn : HkS hk) (N : Nat) : EOk hk V 101 (u4F N) := fun args B m => by
  unfold u4F
  split
  . exact fun _ h => eP hkn (x0E (tok1 (z9E hkn N) (tok1 (z9C hkn N) (tok1 (v2L hkn N) (tok1 (v2K hkn N) (tok0)))))) (sz := 70) (by kernel_rfl) rfl rfl rfl rfl (FE_101 N _ _) KO_r4 rfl h
  . trivial
theorem FE_65 (N : Nat) (a0 : List UInt8) (a1 : List UInt8) : fsem (D := D) (x0N [(100, y8D N), (101, u4F N), (102, u4E N)]) N (ycOf Tryz.prog 65 []) [.t 4] [.str a0, .str a1] .leaf 0 K_r1 = F_65 N a0 a1 := by kernel_rfl
def v8Y (N : Nat) : List (PV D) -> Bt D -> Nat -> CallR D := fun args _ _ => match args with
  | [.str a0, .str a1] => .opt (Bool) (F_65 N a0 a1) default O_r1
  | _ => .bad
theorem v8X (hkn : HkS hk) (N : Nat) : EOk hk V 65 (v8Y N) := fun args B m => by
  unfold v8Y
  split
  . exact fun _ h => eP hkn (x0E (tok1 (y4E hkn N) (tok1 (v2W hkn N) (tok1 (v2V hkn N) (tok0))))) (sz := 36) (by kernel_rfl) rfl rfl rfl rfl (FE_65 N _ _) x9W rfl h
  . trivial
theorem FE_17 (N : Nat) (a0 : Int) (a1 : Int) (a2 : Int) (a3 : Bool) (a4 : List UInt8) (a5 : Int) (a6 : List UInt8) : fsem (D := D) (x0N [(62, u8W N), (63, v9A N), (64, u8V N), (65, v8Y N)]) N (ycOf Tryz.prog 17 []) [.t 4] [.agg [.int .i64 a0, .int .i64 a1, .int .i64 a2, .bool a3, .str a4], .agg [.int .i64 a5, .str a6]] .leaf 0 K_r0 = F_17 N a0 a1 a2 a3 a4 a5 a6 := by kernel_rfl
def u9A (N : Nat) : List (PV D) -> Bt D -> Nat -> CallR D := fun args _ _ => match args with
  | [.agg [.int .i64 a0, .int .i64 a1, .int .i64 a2, .bool a3, .str a4], .agg [.int .i64 a5, .str a6]] => .opt (Int) (F_17 N a0 a1 a2 a3 a4 a5 a6) default O_r0
  | _ => .bad
theorem y7W (hkn : HkS hk) (N : Nat) : EOk hk V 17 (u9A N) := fun args B m => by
  unfold u9A
  split
  . exact fun _ h => eP hkn (x0E (tok1 (z8D hkn N) (tok1 (v8Z hkn N) (tok1 (z8C hkn N) (tok1 (v8X hkn N) (tok0)))))) (sz := 86) (by kernel_rfl) rfl rfl rfl rfl (FE_17 N _ _ _ _ _ _ _) x6N rfl h
  . trivial
theorem FE_19 (N : Nat) (a0 : Int) (a1 : Int) (a2 : Int) (a3 : Bool) (a4 : List UInt8) : fsem (D := D) (x0N [(15, u9B N), (67, u8U N)]) N (ycOf Tryz.prog 19 []) [.t 2] [.agg [.int .i64 a0, .int .i64 a1, .int .i64 a2, .bool a3, .str a4]] .leaf 0 K_r0 = F_19 N a0 a1 a2 a3 a4 := by kernel_rfl
def u8Z (N : Nat) : List (PV D) -> Bt D -> Nat -> CallR D := fun args _ _ => match args with
  | [.agg [.int .i64 a0, .int .i64 a1, .int .i64 a2, .bool a3, .str a4]] => .opt (Int) (F_19 N a0 a1 a2 a3 a4) default O_r0
  | _ => .bad
theorem y7T (hkn : HkS hk) (N : Nat) : EOk hk V 19 (u8Z N) := fun args B m => by
  unfold u8Z
  split
  . exact fun _ h => eP hkn (x0E (tok1 (y7Z hkn N) (tok1 (z8B hkn N) (tok0)))) (sz := 53) (by kernel_rfl) rfl rfl rfl rfl (FE_19 N _ _ _ _ _) x6N rfl h
  . trivial
theorem FE_178 (N : Nat) (a0 : Int) : fsem (D := D) (x0N []) N (ycOf Tryz.prog 178 []) [.t 2] [.int .i64 a0] .leaf 0 K_r0 = F_178 N a0 := by kernel_rfl
def u3L (N : Nat) : List (PV D) -> Bt D -> Nat -> CallR D := fun args _ _ => match args with
  | [.int .i64 a0] => .opt (Int) (F_178 N a0) default O_r0
  | _ => .bad
theorem v2B (hkn : HkS hk) (N : Nat) : EOk hk V 178 (u3L N) := fun args B m => by
  unfold u3L
  split
  . exact fun _ h => eP hkn (x0E (tok0)) (sz := 5) (by kernel_rfl) rfl rfl rfl rfl (FE_178 N _) x6N rfl h
  . trivial
theorem FE_177 (N : Nat) (a0 : Int) (a1 : Int) : fsem (D := D) (x0N []) N (ycOf Tryz.prog 177 [[((.tmp 5), (.int .i64)), ((.tmp 6), (.int .i64))]]) [.t 4] [.int .i64 a0, .int .i64 a1] .leaf 0 K_r0 = w2A N a0 a1 := by kernel_rfl
def u3M (N : Nat) : List (PV D) -> Bt D -> Nat -> CallR D := fun args _ _ => match args with
  | [.int .i64 a0, .int .i64 a1] => .opt (Int) (w2A N a0 a1) default O_r0
  | _ => .bad
theorem v2C (hkn : HkS hk) (N : Nat) : EOk hk V 177 (u3M N) := fun args B m => by
  unfold u3M
  split
  . exact fun _ h => eP hkn (x0E (tok0)) (sz := 16) (by kernel_rfl) rfl rfl rfl rfl (FE_177 N _ _) x6N rfl h
  . trivial
theorem FE_138 (N : Nat) (a0 : Int) (a1 : Int) (a2 : Int) (a3 : Bool) (a4 : List UInt8) : fsem (D := D) (x0N [(177, u3M N), (178, u3L N)]) N (ycOf Tryz.prog 138 []) [.t 2] [.agg [.int .i64 a0, .int .i64 a1, .int .i64 a2, .bool a3, .str a4]] .leaf 0 K_r0 = v3W N a0 a1 a2 a3 a4 := by kernel_rfl
def u3T (N : Nat) : List (PV D) -> Bt D -> Nat -> CallR D := fun args _ _ => match args with
  | [.agg [.int .i64 a0, .int .i64 a1, .int .i64 a2, .bool a3, .str a4]] => .opt (Int) (v3W N a0 a1 a2 a3 a4) default O_r0
  | _ => .bad
theorem v2J (hkn : HkS hk) (N : Nat) : EOk hk V 138 (u3T N) := fun args B m => by
  unfold u3T
  split
  . exact fun _ h => eP hkn (x0E (tok1 (v2C hkn N) (tok1 (v2B hkn N) (tok0)))) (sz := 9) (by kernel_rfl) rfl rfl rfl rfl (FE_138 N _ _ _ _ _) x6N rfl h
  . trivial
theorem FE_103 (N : Nat) (a0 : Int) (a1 : List UInt8) (a2 : Int) (a3 : Int) (a4 : Int) (a5 : Bool) (a6 : List UInt8) : fsem (D := D) (x0N [(128, z4B N), (138, u3T N)]) N (ycOf Tryz.prog 103 []) [.t 4] [.agg [.int .i64 a0, .str a1], .agg [.int .i64 a2, .int .i64 a3, .int .i64 a4, .bool a5, .str a6]] .leaf 0 K_r0 = v3Z N a0 a1 a2 a3 a4 a5 a6 := by kernel_rfl
def u4D (N : Nat) : List (PV D) -> Bt D -> Nat -> CallR D := fun args _ _ => match args with
  | [.agg [.int .i64 a0, .str a1], .agg [.int .i64 a2, .int .i64 a3, .int .i64 a4, .bool a5, .str a6]] => .opt (Int) (v3Z N a0 a1 a2 a3 a4 a5 a6) default O_r0
  | _ => .bad
theorem v2U (hkn : HkS hk) (N : Nat) : EOk hk V 103 (u4D N) := fun args B m => by
  unfold u4D
  split
  . exact fun _ h => eP hkn (x0E (tok1 (z1Y hkn N) (tok1 (v2J hkn N) (tok0)))) (sz := 29) (by kernel_rfl) rfl rfl rfl rfl (FE_103 N _ _ _ _ _ _ _) x6N rfl h
  . trivial
theorem FE_75 (N : Nat) (a0 : List UInt8) : fsem (D := D) (x0N []) N (ycOf Tryz.prog 75 [[((.tmp 3), (.int .i64))]]) [.t 2] [.str a0] .leaf 0 K_r1 = F_75 N a0 := by kernel_rfl
def v8J (N : Nat) : List (PV D) -> Bt D -> Nat -> CallR D := fun args _ _ => match args with
  | [.str a0] => .opt (Bool) (F_75 N a0) default O_r1
  | _ => .bad
theorem v8H (hkn : HkS hk) (N : Nat) : EOk hk V 75 (v8J N) := fun args B m => by
  unfold v8J
  split
  . exact fun _ h => eP hkn (x0E (tok0)) (sz := 20) (by kernel_rfl) rfl rfl rfl rfl (FE_75 N _) x9W rfl h
  . trivial
theorem FE_66 (N : Nat) (a0 : Int) (a1 : List UInt8) (a2 : Int) (a3 : Int) (a4 : Int) (a5 : Bool) (a6 : List UInt8) : fsem (D := D) (x0N [(61, u8X N), (75, v8J N), (103, u4D N), (104, u4C N)]) N (ycOf Tryz.prog 66 []) [.t 4] [.agg [.int .i64 a0, .str a1], .agg [.int .i64 a2, .int .i64 a3, .int .i64 a4, .bool a5, .str a6]] .leaf 0 K_r0 = F_66 N a0 a1 a2 a3 a4 a5 a6 := by kernel_rfl
def v8W (N : Nat) : List (PV D) -> Bt D -> Nat -> CallR D := fun args _ _ => match args with
  | [.agg [.int .i64 a0, .str a1], .agg [.int .i64 a2, .int .i64 a3, .int .i64 a4, .bool a5, .str a6]] => .opt (Int) (F_66 N a0 a1 a2 a3 a4 a5 a6) default O_r0
  | _ => .bad
theorem v8V (hkn : HkS hk) (N : Nat) : EOk hk V 66 (v8W N) := fun args B m => by
  unfold v8W
  split
  . exact fun _ h => eP hkn (x0E (tok1 (z8E hkn N) (tok1 (v8H hkn N) (tok1 (v2U hkn N) (tok1 (v2T hkn N) (tok0)))))) (sz := 93) (by kernel_rfl) rfl rfl rfl rfl (FE_66 N _ _ _ _ _ _ _) x6N rfl h
  . trivial
theorem FE_18 (N : Nat) (a0 : Int) (a1 : Int) (a2 : Int) (a3 : Bool) (a4 : List UInt8) (a5 : Int) (a6 : List UInt8) : fsem (D := D) (x0N [(66, v8W N)]) N (ycOf Tryz.prog 18 []) [.t 4] [.agg [.int .i64 a0, .int .i64 a1, .int .i64 a2, .bool a3, .str a4], .agg [.int .i64 a5, .str a6]] .leaf 0 K_r0 = F_18 N a0 a1 a2 a3 a4 a5 a6 := by kernel_rfl
def ent_18 (N : Nat) : List (PV D) -> Bt D -> Nat -> CallR D := fun args _ _ => match args with
  | [.agg [.int .i64 a0, .int .i64 a1, .int .i64 a2, .bool a3, .str a4], .agg [.int .i64 a5, .str a6]] => .opt (Int) (F_18 N a0 a1 a2 a3 a4 a5 a6) default O_r0
  | _ => .bad
theorem v9K (hkn : HkS hk) (N : Nat) : EOk hk V 18 (ent_18 N) := fun args B m => by
  unfold ent_18
  split
  . exact fun _ h => eP hkn (x0E (tok1 (v8V hkn N) (tok0))) (sz := 8) (by kernel_rfl) rfl rfl rfl rfl (FE_18 N _ _ _ _ _ _ _) x6N rfl h
  . trivial
end
end Go.Yec
