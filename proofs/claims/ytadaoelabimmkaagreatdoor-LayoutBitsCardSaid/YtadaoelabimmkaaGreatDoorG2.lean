/-
  G1
-/
import Derived.Test.YtadaoelabimmkaaGreatDoorY14
import Derived.Test.YtadaoelabimmkaaGreatDoorY15
import Derived.Test.YtadaoelabimmkaaGreatDoorG1
set_option linter.all false
namespace Go.Yec
open Go Go.Xec Go.Proofs
noncomputable section
variable {D : Type} {V : D → List (PV D)} {hk : Hook}
def K_r0 : PV D → Y D → Option (Int) := fun v _ => match v with
 | .int .i64 q0 => some q0
 | _ => none
def O_r0 (r : Int) : PV D := .int .i64 r
theorem KO_r0 {r : Int} (v : PV D) (st : Y D) (h : K_r0 v st = some r) : v = O_r0 r := by
 unfold K_r0 at h
 split at h <;> first | (cases h; rfl) | (cases h)
theorem FE_96 (N : Nat) (a0 : Int) : fsem (D := D) (tblOf []) N (ycOf Tryz.prog 96 []) [.t 2] [.int .i64 a0] .leaf 0 K_r0 = F_96 N a0 := by kernel_rfl
def ent_96 (N : Nat) : List (PV D) → Bt D → Nat → CallR D := fun args _ _ => match args with
 | [.int .i64 a0] => .opt (Int) (F_96 N a0) default O_r0
 | _ => .bad
theorem ent_96_ok (hkn : HkS hk) (N : Nat) : EOk hk V 96 (ent_96 N) := fun args B m => by
 unfold ent_96
 split
 ·exact fun _ h => eP hkn (tblOf_ok (tok0)) (sz := 5) (by kernel_rfl) rfl rfl rfl rfl (FE_96 N _) KO_r0 rfl h
 ·trivial
theorem FE_59 (N : Nat) (a0 a1 a2 : Int) (a3 : Bool) (a4 : List UInt8) : fsem (D := D) (tblOf [(96, ent_96 N)]) N (ycOf Tryz.prog 59 []) [.t 2] [.agg [.int .i64 a0, .int .i64 a1, .int .i64 a2, .bool a3, .str a4]] .leaf 0 K_r0 = F_59 N a0 a1 a2 a3 a4 := by kernel_rfl
def ent_59 (N : Nat) : List (PV D) → Bt D → Nat → CallR D := fun args _ _ => match args with
 | [.agg [.int .i64 a0, .int .i64 a1, .int .i64 a2, .bool a3, .str a4]] => .opt (Int) (F_59 N a0 a1 a2 a3 a4) default O_r0
 | _ => .bad
theorem ent_59_ok (hkn : HkS hk) (N : Nat) : EOk hk V 59 (ent_59 N) := fun args B m => by
 unfold ent_59
 split
 ·exact fun _ h => eP hkn (tblOf_ok (tok1 (ent_96_ok hkn N) (tok0))) (sz := 59) (by kernel_rfl) rfl rfl rfl rfl (FE_59 N _ _ _ _ _) KO_r0 rfl h
 ·trivial
theorem FE_144 (N : Nat) (a0 : List UInt8) (a1 : Int) : fsem (D := D) (tblOf []) N (ycOf Tryz.prog 144 [[((.tmp 5), (.int .i64)), ((.tmp 6), (.int .i64))]]) [.t 4] [.str a0, .int .u8 a1] .leaf 0 K_r0 = F_144 N a0 a1 := by kernel_rfl
def ent_144 (N : Nat) : List (PV D) → Bt D → Nat → CallR D := fun args _ _ => match args with
 | [.str a0, .int .u8 a1] => .opt (Int) (F_144 N a0 a1) default O_r0
 | _ => .bad
theorem ent_144_ok (hkn : HkS hk) (N : Nat) : EOk hk V 144 (ent_144 N) := fun args B m => by
 unfold ent_144
 split
 ·exact fun _ h => eP hkn (tblOf_ok (tok0)) (sz := 21) (by kernel_rfl) rfl rfl rfl rfl (FE_144 N _ _) KO_r0 rfl h
 ·trivial
def K_r1 : PV D → Y D → Option (Bool) := fun v _ => match v with
 | .bool q0 => some q0
 | _ => none
def O_r1 (r : Bool) : PV D := .bool r
theorem KO_r1 {r : Bool} (v : PV D) (st : Y D) (h : K_r1 v st = some r) : v = O_r1 r := by
 unfold K_r1 at h
 split at h <;> first | (cases h; rfl) | (cases h)
theorem FE_147 (N : Nat) (a0 : List UInt8) (a1 : Int) : fsem (D := D) (tblOf []) N (ycOf Tryz.prog 147 [[((.tmp 5), (.int .i64))]]) [.t 4] [.str a0, .int .u8 a1] .leaf 0 K_r1 = F_147 N a0 a1 := by kernel_rfl
def ent_147 (N : Nat) : List (PV D) → Bt D → Nat → CallR D := fun args _ _ => match args with
 | [.str a0, .int .u8 a1] => .opt (Bool) (F_147 N a0 a1) default O_r1
 | _ => .bad
theorem ent_147_ok (hkn : HkS hk) (N : Nat) : EOk hk V 147 (ent_147 N) := fun args B m => by
 unfold ent_147
 split
 ·exact fun _ h => eP hkn (tblOf_ok (tok0)) (sz := 17) (by kernel_rfl) rfl rfl rfl rfl (FE_147 N _ _) KO_r1 rfl h
 ·trivial
def K_r2 : PV D → Y D → Option (List UInt8) := fun v _ => match v with
 | .str q0 => some q0
 | _ => none
def O_r2 (r : List UInt8) : PV D := .str r
theorem KO_r2 {r : List UInt8} (v : PV D) (st : Y D) (h : K_r2 v st = some r) : v = O_r2 r := by
 unfold K_r2 at h
 split at h <;> first | (cases h; rfl) | (cases h)
theorem FE_183 (N : Nat) (a0 a1 : Int) : fsem (D := D) (tblOf []) N (ycOf Tryz.prog 183 [[((.tmp 5), (.rowI 5 .u8)), ((.tmp 6), (.int .i64))]]) [.t 4] [.int .u8 a0, .int .i64 a1] .leaf 0 K_r2 = F_183 N a0 a1 := by kernel_rfl
def ent_183 (N : Nat) : List (PV D) → Bt D → Nat → CallR D := fun args _ _ => match args with
 | [.int .u8 a0, .int .i64 a1] => .opt (List UInt8) (F_183 N a0 a1) default O_r2
 | _ => .bad
theorem ent_183_ok (hkn : HkS hk) (N : Nat) : EOk hk V 183 (ent_183 N) := fun args B m => by
 unfold ent_183
 split
 ·exact fun _ h => eP hkn (tblOf_ok (tok0)) (sz := 19) (by kernel_rfl) rfl rfl rfl rfl (FE_183 N _ _) KO_r2 rfl h
 ·trivial
def K_r3 : PV D → Y D → Option (Int) := fun v _ => match v with
 | .int .u8 q0 => some q0
 | _ => none
def O_r3 (r : Int) : PV D := .int .u8 r
theorem KO_r3 {r : Int} (v : PV D) (st : Y D) (h : K_r3 v st = some r) : v = O_r3 r := by
 unfold K_r3 at h
 split at h <;> first | (cases h; rfl) | (cases h)
theorem FE_181 (N : Nat) (a0 : Int) : fsem (D := D) (tblOf []) N (ycOf Tryz.prog 181 []) [.t 2] [.int .u8 a0] .leaf 0 K_r3 = F_181 N a0 := by kernel_rfl
def ent_181 (N : Nat) : List (PV D) → Bt D → Nat → CallR D := fun args _ _ => match args with
 | [.int .u8 a0] => .opt (Int) (F_181 N a0) default O_r3
 | _ => .bad
theorem ent_181_ok (hkn : HkS hk) (N : Nat) : EOk hk V 181 (ent_181 N) := fun args B m => by
 unfold ent_181
 split
 ·exact fun _ h => eP hkn (tblOf_ok (tok0)) (sz := 13) (by kernel_rfl) rfl rfl rfl rfl (FE_181 N _) KO_r3 rfl h
 ·trivial
theorem FE_184 (N : Nat) (a0 : List UInt8) : fsem (D := D) (tblOf []) N (ycOf Tryz.prog 184 []) [.t 2] [.str a0] .leaf 0 K_r1 = F_184 N a0 := by kernel_rfl
def ent_184 (N : Nat) : List (PV D) → Bt D → Nat → CallR D := fun args _ _ => match args with
 | [.str a0] => .opt (Bool) (F_184 N a0) default O_r1
 | _ => .bad
theorem ent_184_ok (hkn : HkS hk) (N : Nat) : EOk hk V 184 (ent_184 N) := fun args B m => by
 unfold ent_184
 split
 ·exact fun _ h => eP hkn (tblOf_ok (tok0)) (sz := 22) (by kernel_rfl) rfl rfl rfl rfl (FE_184 N _) KO_r1 rfl h
 ·trivial
theorem FE_188 (N : Nat) (a0 : List UInt8) : fsem (D := D) (tblOf [(144, ent_144 N), (147, ent_147 N)]) N (ycOf Tryz.prog 188 [[((.tmp 3), (.int .i64))]]) [.t 2] [.str a0] .leaf 0 K_r3 = F_188 N a0 := by kernel_rfl
def ent_188 (N : Nat) : List (PV D) → Bt D → Nat → CallR D := fun args _ _ => match args with
 | [.str a0] => .opt (Int) (F_188 N a0) default O_r3
 | _ => .bad
theorem ent_188_ok (hkn : HkS hk) (N : Nat) : EOk hk V 188 (ent_188 N) := fun args B m => by
 unfold ent_188
 split
 ·exact fun _ h => eP hkn (tblOf_ok (tok1 (ent_144_ok hkn N) (tok1 (ent_147_ok hkn N) (tok0)))) (sz := 25) (by kernel_rfl) rfl rfl rfl rfl (FE_188 N _) KO_r3 rfl h
 ·trivial
theorem FE_146 (N : Nat) (a0 : List UInt8) : fsem (D := D) (tblOf [(147, ent_147 N), (184, ent_184 N), (188, ent_188 N)]) N (ycOf Tryz.prog 146 [[((.tmp 5), (.rowI 5 .u8)), ((.tmp 6), .bool), ((.tmp 7), (.int .i64))]]) [.t 2] [.str a0] .leaf 0 K_r2 = F_146 N a0 := by kernel_rfl
def ent_146 (N : Nat) : List (PV D) → Bt D → Nat → CallR D := fun args _ _ => match args with
 | [.str a0] => .opt (List UInt8) (F_146 N a0) default O_r2
 | _ => .bad
theorem ent_146_ok (hkn : HkS hk) (N : Nat) : EOk hk V 146 (ent_146 N) := fun args B m => by
 unfold ent_146
 split
 ·exact fun _ h => eP hkn (tblOf_ok (tok1 (ent_147_ok hkn N) (tok1 (ent_184_ok hkn N) (tok1 (ent_188_ok hkn N) (tok0))))) (sz := 73) (by kernel_rfl) rfl rfl rfl rfl (FE_146 N _) KO_r2 rfl h
 ·trivial
theorem FE_185 (N : Nat) (a0 : List UInt8) : fsem (D := D) (tblOf [(144, ent_144 N), (147, ent_147 N), (188, ent_188 N)]) N (ycOf Tryz.prog 185 [[((.tmp 4), (.int .i64)), ((.tmp 5), (.int .i64)), ((.tmp 6), (.int .i64))], [((.tmp 7), (.int .i64))]]) [.t 2] [.str a0] .leaf 0 K_r1 = F_185 N a0 := by kernel_rfl
def ent_185 (N : Nat) : List (PV D) → Bt D → Nat → CallR D := fun args _ _ => match args with
 | [.str a0] => .opt (Bool) (F_185 N a0) default O_r1
 | _ => .bad
theorem ent_185_ok (hkn : HkS hk) (N : Nat) : EOk hk V 185 (ent_185 N) := fun args B m => by
 unfold ent_185
 split
 ·exact fun _ h => eP hkn (tblOf_ok (tok1 (ent_144_ok hkn N) (tok1 (ent_147_ok hkn N) (tok1 (ent_188_ok hkn N) (tok0))))) (sz := 70) (by kernel_rfl) rfl rfl rfl rfl (FE_185 N _) KO_r1 rfl h
 ·trivial
theorem FE_186 (N : Nat) (a0 a1 : List UInt8) : fsem (D := D) (tblOf [(147, ent_147 N), (188, ent_188 N)]) N (ycOf Tryz.prog 186 [[((.tmp 5), .bool), ((.tmp 6), .bool), ((.tmp 7), .bool), ((.tmp 8), (.int .i64)), ((.tmp 9), (.int .i64))]]) [.t 4] [.str a0, .str a1] .leaf 0 K_r1 = F_186 N a0 a1 := by kernel_rfl
def ent_186 (N : Nat) : List (PV D) → Bt D → Nat → CallR D := fun args _ _ => match args with
 | [.str a0, .str a1] => .opt (Bool) (F_186 N a0 a1) default O_r1
 | _ => .bad
theorem ent_186_ok (hkn : HkS hk) (N : Nat) : EOk hk V 186 (ent_186 N) := fun args B m => by
 unfold ent_186
 split
 ·exact fun _ h => eP hkn (tblOf_ok (tok1 (ent_147_ok hkn N) (tok1 (ent_188_ok hkn N) (tok0)))) (sz := 67) (by kernel_rfl) rfl rfl rfl rfl (FE_186 N _ _) KO_r1 rfl h
 ·trivial
theorem FE_145 (N : Nat) (a0 : List UInt8) : fsem (D := D) (tblOf [(144, ent_144 N), (147, ent_147 N), (184, ent_184 N)]) N (ycOf Tryz.prog 145 [[((.tmp 4), (.int .i64)), ((.tmp 5), (.int .i64))]]) [.t 2] [.str a0] .leaf 0 K_r0 = F_145 N a0 := by kernel_rfl
def ent_145 (N : Nat) : List (PV D) → Bt D → Nat → CallR D := fun args _ _ => match args with
 | [.str a0] => .opt (Int) (F_145 N a0) default O_r0
 | _ => .bad
theorem ent_145_ok (hkn : HkS hk) (N : Nat) : EOk hk V 145 (ent_145 N) := fun args B m => by
 unfold ent_145
 split
 ·exact fun _ h => eP hkn (tblOf_ok (tok1 (ent_144_ok hkn N) (tok1 (ent_147_ok hkn N) (tok1 (ent_184_ok hkn N) (tok0))))) (sz := 34) (by kernel_rfl) rfl rfl rfl rfl (FE_145 N _) KO_r0 rfl h
 ·trivial
theorem FE_187 (N : Nat) (a0 a1 : List UInt8) : fsem (D := D) (tblOf [(147, ent_147 N), (188, ent_188 N)]) N (ycOf Tryz.prog 187 [[((.tmp 6), (.int .i64))], [((.tmp 7), .bool), ((.tmp 8), .bool), ((.tmp 9), (.int .i64))]]) [.t 4] [.str a0, .str a1] .leaf 0 K_r1 = F_187 N a0 a1 := by kernel_rfl
def ent_187 (N : Nat) : List (PV D) → Bt D → Nat → CallR D := fun args _ _ => match args with
 | [.str a0, .str a1] => .opt (Bool) (F_187 N a0 a1) default O_r1
 | _ => .bad
theorem ent_187_ok (hkn : HkS hk) (N : Nat) : EOk hk V 187 (ent_187 N) := fun args B m => by
 unfold ent_187
 split
 ·exact fun _ h => eP hkn (tblOf_ok (tok1 (ent_147_ok hkn N) (tok1 (ent_188_ok hkn N) (tok0)))) (sz := 69) (by kernel_rfl) rfl rfl rfl rfl (FE_187 N _ _) KO_r1 rfl h
 ·trivial
theorem FE_142 (N : Nat) (a0 : List UInt8) : fsem (D := D) (tblOf [(147, ent_147 N)]) N (ycOf Tryz.prog 142 [[((.tmp 3), (.int .i64))]]) [.t 2] [.str a0] .leaf 0 K_r1 = F_142 N a0 := by kernel_rfl
def ent_142 (N : Nat) : List (PV D) → Bt D → Nat → CallR D := fun args _ _ => match args with
 | [.str a0] => .opt (Bool) (F_142 N a0) default O_r1
 | _ => .bad
theorem ent_142_ok (hkn : HkS hk) (N : Nat) : EOk hk V 142 (ent_142 N) := fun args B m => by
 unfold ent_142
 split
 ·exact fun _ h => eP hkn (tblOf_ok (tok1 (ent_147_ok hkn N) (tok0))) (sz := 21) (by kernel_rfl) rfl rfl rfl rfl (FE_142 N _) KO_r1 rfl h
 ·trivial
theorem FE_143 (N : Nat) (a0 : List UInt8) : fsem (D := D) (tblOf [(142, ent_142 N), (144, ent_144 N), (145, ent_145 N), (146, ent_146 N), (147, ent_147 N), (184, ent_184 N), (185, ent_185 N), (186, ent_186 N), (187, ent_187 N)]) N (ycOf Tryz.prog 143 [[((.tmp 4), (.int .i64))]]) [.t 2] [.str a0] .leaf 0 K_r1 = F_143 N a0 := by kernel_rfl
def ent_143 (N : Nat) : List (PV D) → Bt D → Nat → CallR D := fun args _ _ => match args with
 | [.str a0] => .opt (Bool) (F_143 N a0) default O_r1
 | _ => .bad
theorem ent_143_ok (hkn : HkS hk) (N : Nat) : EOk hk V 143 (ent_143 N) := fun args B m => by
 unfold ent_143
 split
 ·exact fun _ h => eP hkn (tblOf_ok (tok1 (ent_142_ok hkn N) (tok1 (ent_144_ok hkn N) (tok1 (ent_145_ok hkn N) (tok1 (ent_146_ok hkn N) (tok1 (ent_147_ok hkn N) (tok1 (ent_184_ok hkn N) (tok1 (ent_185_ok hkn N) (tok1 (ent_186_ok hkn N) (tok1 (ent_187_ok hkn N) (tok0))))))))))) (sz := 50) (by kernel_rfl) rfl rfl rfl rfl (FE_143 N _) KO_r1 rfl h
 ·trivial
def K_r4 : PV D → Y D → Option (Int × Int) := fun v _ => match v with
 | .tup [.int .i64 q0, .int .i64 q1] => some (q0, q1)
 | _ => none
def O_r4 (r : Int × Int) : PV D := .tup [.int .i64 r.1, .int .i64 r.2]
theorem KO_r4 {r : Int × Int} (v : PV D) (st : Y D) (h : K_r4 v st = some r) : v = O_r4 r := by
 unfold K_r4 at h
 split at h <;> first | (cases h; rfl) | (cases h)
theorem FE_182 (N : Nat) (a0 : List UInt8) (a1 : Int) : fsem (D := D) (tblOf []) N (ycOf Tryz.prog 182 [[((.tmp 6), (.int .i64)), ((.tmp 7), (.int .i64))]]) [.t 4, .t 5] [.str a0, .int .i64 a1] .leaf 0 K_r4 = F_182 N a0 a1 := by kernel_rfl
def ent_182 (N : Nat) : List (PV D) → Bt D → Nat → CallR D := fun args _ _ => match args with
 | [.str a0, .int .i64 a1] => .opt (Int × Int) (F_182 N a0 a1) default O_r4
 | _ => .bad
theorem ent_182_ok (hkn : HkS hk) (N : Nat) : EOk hk V 182 (ent_182 N) := fun args B m => by
 unfold ent_182
 split
 ·exact fun _ h => eP hkn (tblOf_ok (tok0)) (sz := 58) (by kernel_rfl) rfl rfl rfl rfl (FE_182 N _ _) KO_r4 rfl h
 ·trivial
def K_r5 : PV D → Y D → Option (List UInt8 × Int) := fun v _ => match v with
 | .tup [.str q0, .int .i64 q1] => some (q0, q1)
 | _ => none
def O_r5 (r : List UInt8 × Int) : PV D := .tup [.str r.1, .int .i64 r.2]
theorem KO_r5 {r : List UInt8 × Int} (v : PV D) (st : Y D) (h : K_r5 v st = some r) : v = O_r5 r := by
 unfold K_r5 at h
 split at h <;> first | (cases h; rfl) | (cases h)
theorem FE_141 (N : Nat) (a0 : List UInt8) : fsem (D := D) (tblOf [(147, ent_147 N), (181, ent_181 N), (182, ent_182 N), (183, ent_183 N)]) N (ycOf Tryz.prog 141 [[((.tmp 4), .str), ((.tmp 5), (.int .i64))]]) [.t 2, .t 3] [.str a0] .leaf 0 K_r5 = F_141 N a0 := by kernel_rfl
def ent_141 (N : Nat) : List (PV D) → Bt D → Nat → CallR D := fun args _ _ => match args with
 | [.str a0] => .opt (List UInt8 × Int) (F_141 N a0) default O_r5
 | _ => .bad
theorem ent_141_ok (hkn : HkS hk) (N : Nat) : EOk hk V 141 (ent_141 N) := fun args B m => by
 unfold ent_141
 split
 ·exact fun _ h => eP hkn (tblOf_ok (tok1 (ent_147_ok hkn N) (tok1 (ent_181_ok hkn N) (tok1 (ent_182_ok hkn N) (tok1 (ent_183_ok hkn N) (tok0)))))) (sz := 55) (by kernel_rfl) rfl rfl rfl rfl (FE_141 N _) KO_r5 rfl h
 ·trivial
theorem FE_58 (N : Nat) (a0 a1 a2 : Int) (a3 : Bool) (a4 : List UInt8) : fsem (D := D) (tblOf []) N (ycOf Tryz.prog 58 []) [.t 2] [.agg [.int .i64 a0, .int .i64 a1, .int .i64 a2, .bool a3, .str a4]] .leaf 0 K_r1 = F_58 N a0 a1 a2 a3 a4 := by kernel_rfl
def ent_58 (N : Nat) : List (PV D) → Bt D → Nat → CallR D := fun args _ _ => match args with
 | [.agg [.int .i64 a0, .int .i64 a1, .int .i64 a2, .bool a3, .str a4]] => .opt (Bool) (F_58 N a0 a1 a2 a3 a4) default O_r1
 | _ => .bad
theorem ent_58_ok (hkn : HkS hk) (N : Nat) : EOk hk V 58 (ent_58 N) := fun args B m => by
 unfold ent_58
 split
 ·exact fun _ h => eP hkn (tblOf_ok (tok0)) (sz := 11) (by kernel_rfl) rfl rfl rfl rfl (FE_58 N _ _ _ _ _) KO_r1 rfl h
 ·trivial
theorem FE_128 (N : Nat) (a0 a1 a2 : Int) (a3 : Bool) (a4 : List UInt8) : fsem (D := D) (tblOf []) N (ycOf Tryz.prog 128 []) [.t 2] [.agg [.int .i64 a0, .int .i64 a1, .int .i64 a2, .bool a3, .str a4]] .leaf 0 K_r0 = F_128 N a0 a1 a2 a3 a4 := by kernel_rfl
def ent_128 (N : Nat) : List (PV D) → Bt D → Nat → CallR D := fun args _ _ => match args with
 | [.agg [.int .i64 a0, .int .i64 a1, .int .i64 a2, .bool a3, .str a4]] => .opt (Int) (F_128 N a0 a1 a2 a3 a4) default O_r0
 | _ => .bad
theorem ent_128_ok (hkn : HkS hk) (N : Nat) : EOk hk V 128 (ent_128 N) := fun args B m => by
 unfold ent_128
 split
 ·exact fun _ h => eP hkn (tblOf_ok (tok0)) (sz := 53) (by kernel_rfl) rfl rfl rfl rfl (FE_128 N _ _ _ _ _) KO_r0 rfl h
 ·trivial
theorem FE_97 (N : Nat) (a0 a1 a2 : Int) (a3 : Bool) (a4 : List UInt8) : fsem (D := D) (tblOf [(128, ent_128 N)]) N (ycOf Tryz.prog 97 []) [.t 2] [.agg [.int .i64 a0, .int .i64 a1, .int .i64 a2, .bool a3, .str a4]] .leaf 0 K_r1 = F_97 N a0 a1 a2 a3 a4 := by kernel_rfl
def ent_97 (N : Nat) : List (PV D) → Bt D → Nat → CallR D := fun args _ _ => match args with
 | [.agg [.int .i64 a0, .int .i64 a1, .int .i64 a2, .bool a3, .str a4]] => .opt (Bool) (F_97 N a0 a1 a2 a3 a4) default O_r1
 | _ => .bad
theorem ent_97_ok (hkn : HkS hk) (N : Nat) : EOk hk V 97 (ent_97 N) := fun args B m => by
 unfold ent_97
 split
 ·exact fun _ h => eP hkn (tblOf_ok (tok1 (ent_128_ok hkn N) (tok0))) (sz := 6) (by kernel_rfl) rfl rfl rfl rfl (FE_97 N _ _ _ _ _) KO_r1 rfl h
 ·trivial
def K_r6 : PV D → Y D → Option ((List UInt8 × Bool × Int × Int × Int × Bool) × Int) := fun v _ => match v with
 | .tup [.agg [.str q0, .bool q1, .int .i64 q2, .int .i64 q3, .int .i64 q4, .bool q5], .int .i64 q6] => some ((q0, q1, q2, q3, q4, q5), q6)
 | _ => none
def O_r6 (r : (List UInt8 × Bool × Int × Int × Int × Bool) × Int) : PV D := .tup [.agg [.str r.1.1, .bool r.1.2.1, .int .i64 r.1.2.2.1, .int .i64 r.1.2.2.2.1, .int .i64 r.1.2.2.2.2.1, .bool r.1.2.2.2.2.2], .int .i64 r.2]
theorem KO_r6 {r : (List UInt8 × Bool × Int × Int × Int × Bool) × Int} (v : PV D) (st : Y D) (h : K_r6 v st = some r) : v = O_r6 r := by
 unfold K_r6 at h
 split at h <;> first | (cases h; rfl) | (cases h)
theorem FE_105 (N : Nat) (a0 : List UInt8) : fsem (D := D) (tblOf [(141, ent_141 N), (142, ent_142 N), (143, ent_143 N), (144, ent_144 N), (145, ent_145 N), (146, ent_146 N), (147, ent_147 N)]) N (ycOf Tryz.prog 105 [[((.tmp 8), (.int .i64)), ((.cell 1 0), .str), ((.cell 1 1), .bool), ((.cell 1 2), (.int .i64)), ((.cell 1 3), (.int .i64)), ((.cell 1 4), (.int .i64)), ((.cell 1 5), .bool)]]) [.c 2 6 true, .t 3] [.str a0] .leaf 0 K_r6 = F_105 N a0 := by kernel_rfl
def ent_105 (N : Nat) : List (PV D) → Bt D → Nat → CallR D := fun args _ _ => match args with
 | [.str a0] => .opt ((List UInt8 × Bool × Int × Int × Int × Bool) × Int) (F_105 N a0) default O_r6
 | _ => .bad
theorem ent_105_ok (hkn : HkS hk) (N : Nat) : EOk hk V 105 (ent_105 N) := fun args B m => by
 unfold ent_105
 split
 ·exact fun _ h => eP hkn (tblOf_ok (tok1 (ent_141_ok hkn N) (tok1 (ent_142_ok hkn N) (tok1 (ent_143_ok hkn N) (tok1 (ent_144_ok hkn N) (tok1 (ent_145_ok hkn N) (tok1 (ent_146_ok hkn N) (tok1 (ent_147_ok hkn N) (tok0))))))))) (sz := 69) (by kernel_rfl) rfl rfl rfl rfl (FE_105 N _) KO_r6 rfl h
 ·trivial
theorem FE_98 (N : Nat) (a0 : List UInt8) : fsem (D := D) (tblOf [(105, ent_105 N)]) N (ycOf Tryz.prog 98 []) [.t 2] [.str a0] .leaf 0 K_r0 = F_98 N a0 := by kernel_rfl
def ent_98 (N : Nat) : List (PV D) → Bt D → Nat → CallR D := fun args _ _ => match args with
 | [.str a0] => .opt (Int) (F_98 N a0) default O_r0
 | _ => .bad
theorem ent_98_ok (hkn : HkS hk) (N : Nat) : EOk hk V 98 (ent_98 N) := fun args B m => by
 unfold ent_98
 split
 ·exact fun _ h => eP hkn (tblOf_ok (tok1 (ent_105_ok hkn N) (tok0))) (sz := 11) (by kernel_rfl) rfl rfl rfl rfl (FE_98 N _) KO_r0 rfl h
 ·trivial
theorem FE_61 (N : Nat) (a0 a1 a2 : Int) (a3 : Bool) (a4 : List UInt8) : fsem (D := D) (tblOf [(97, ent_97 N), (98, ent_98 N)]) N (ycOf Tryz.prog 61 []) [.t 2] [.agg [.int .i64 a0, .int .i64 a1, .int .i64 a2, .bool a3, .str a4]] .leaf 0 K_r0 = F_61 N a0 a1 a2 a3 a4 := by kernel_rfl
def ent_61 (N : Nat) : List (PV D) → Bt D → Nat → CallR D := fun args _ _ => match args with
 | [.agg [.int .i64 a0, .int .i64 a1, .int .i64 a2, .bool a3, .str a4]] => .opt (Int) (F_61 N a0 a1 a2 a3 a4) default O_r0
 | _ => .bad
theorem ent_61_ok (hkn : HkS hk) (N : Nat) : EOk hk V 61 (ent_61 N) := fun args B m => by
 unfold ent_61
 split
 ·exact fun _ h => eP hkn (tblOf_ok (tok1 (ent_97_ok hkn N) (tok1 (ent_98_ok hkn N) (tok0)))) (sz := 81) (by kernel_rfl) rfl rfl rfl rfl (FE_61 N _ _ _ _ _) KO_r0 rfl h
 ·trivial
theorem FE_16 (N : Nat) (a0 a1 a2 : Int) (a3 : Bool) (a4 : List UInt8) : fsem (D := D) (tblOf [(61, ent_61 N)]) N (ycOf Tryz.prog 16 []) [.t 2] [.agg [.int .i64 a0, .int .i64 a1, .int .i64 a2, .bool a3, .str a4]] .leaf 0 K_r0 = F_16 N a0 a1 a2 a3 a4 := by kernel_rfl
def ent_16 (N : Nat) : List (PV D) → Bt D → Nat → CallR D := fun args _ _ => match args with
 | [.agg [.int .i64 a0, .int .i64 a1, .int .i64 a2, .bool a3, .str a4]] => .opt (Int) (F_16 N a0 a1 a2 a3 a4) default O_r0
 | _ => .bad
theorem ent_16_ok (hkn : HkS hk) (N : Nat) : EOk hk V 16 (ent_16 N) := fun args B m => by
 unfold ent_16
 split
 ·exact fun _ h => eP hkn (tblOf_ok (tok1 (ent_61_ok hkn N) (tok0))) (sz := 36) (by kernel_rfl) rfl rfl rfl rfl (FE_16 N _ _ _ _ _) KO_r0 rfl h
 ·trivial
def K_r7 : PV D → Y D → Option (Int × Bool) := fun v _ => match v with
 | .tup [.int .i64 q0, .bool q1] => some (q0, q1)
 | _ => none
def O_r7 (r : Int × Bool) : PV D := .tup [.int .i64 r.1, .bool r.2]
theorem KO_r7 {r : Int × Bool} (v : PV D) (st : Y D) (h : K_r7 v st = some r) : v = O_r7 r := by
 unfold K_r7 at h
 split at h <;> first | (cases h; rfl) | (cases h)
theorem FE_152 (N : Nat) (a0 a1 : Int) : fsem (D := D) (tblOf []) N (ycOf Tryz.prog 152 []) [.t 4, .t 5] [.int .i64 a0, .int .i32 a1] .leaf 0 K_r7 = F_152 N a0 a1 := by kernel_rfl
def ent_152 (N : Nat) : List (PV D) → Bt D → Nat → CallR D := fun args _ _ => match args with
 | [.int .i64 a0, .int .i32 a1] => .opt (Int × Bool) (F_152 N a0 a1) default O_r7
 | _ => .bad
theorem ent_152_ok (hkn : HkS hk) (N : Nat) : EOk hk V 152 (ent_152 N) := fun args B m => by
 unfold ent_152
 split
 ·exact fun _ h => eP hkn (tblOf_ok (tok0)) (sz := 29) (by kernel_rfl) rfl rfl rfl rfl (FE_152 N _ _) KO_r7 rfl h
 ·trivial
def ent_93 (N : Nat) : List (PV D) → Bt D → Nat → CallR D := fun args _ _ => match args with
 | [.int .i64 a0, .int .i64 a1] => .opt (Int) (F_93 N a0 a1) default O_r0
 | _ => .bad
theorem FE_102 (N : Nat) (a0 a1 : List UInt8) : fsem (D := D) (tblOf []) N (ycOf Tryz.prog 102 [[((.tmp 17), (.int .i64))]]) [.t 4] [.str a0, .str a1] .leaf 0 K_r1 = F_102 N a0 a1 := by kernel_rfl
def ent_102 (N : Nat) : List (PV D) → Bt D → Nat → CallR D := fun args _ _ => match args with
 | [.str a0, .str a1] => .opt (Bool) (F_102 N a0 a1) default O_r1
 | _ => .bad
theorem ent_102_ok (hkn : HkS hk) (N : Nat) : EOk hk V 102 (ent_102 N) := fun args B m => by
 unfold ent_102
 split
 ·exact fun _ h => eP hkn (tblOf_ok (tok0)) (sz := 69) (by kernel_rfl) rfl rfl rfl rfl (FE_102 N _ _) KO_r1 rfl h
 ·trivial
def ent_153_1 (N : Nat) : List (PV D) → Bt D → Nat → CallR D := fun args B m => inlC (tblOf [(189, ent_189 N)]) N (ycOf Tryz.prog 153 [[((.tmp 0), (.rowI 5 .u8)), ((.tmp 32), (.int .i64))]]) [.t 6, .t 7] 41 (.tup [.nils, (.bool false)]) args B m
theorem ent_153_1_ok (hkn : HkS hk) (N : Nat) : EOk hk V 153 (ent_153_1 N) := fun args B m => inlE hkn (tblOf_ok (tok1 (ent_189_ok hkn N) (tok0))) (by kernel_rfl) rfl args B m
def ent_130_1 (N : Nat) : List (PV D) → Bt D → Nat → CallR D := fun args B m => inlC (tblOf [(152, ent_152 N), (153, ent_153_1 N)]) N (ycOf Tryz.prog 130 [[((.tmp 4), (.rowI 5 .u8)), ((.tmp 5), (.int .i64)), ((.tmp 6), (.int .i64)), ((.tmp 7), .bool), ((.row 1), .iter)]]) [.t 2, .t 3] 74 (.tup [(.str []), (.bool false)]) args B m
theorem ent_130_1_ok (hkn : HkS hk) (N : Nat) : EOk hk V 130 (ent_130_1 N) := fun args B m => inlE hkn (tblOf_ok (tok1 (ent_152_ok hkn N) (tok1 (ent_153_1_ok hkn N) (tok0)))) (by kernel_rfl) rfl args B m
def ent_163_1 (N : Nat) : List (PV D) → Bt D → Nat → CallR D := fun args B m => inlC (tblOf [(164, ent_164 N), (189, ent_189 N), (197, ent_197 N), (198, ent_198 N)]) N (ycOf Tryz.prog 163 [[((.tmp 16), (.int .i64)), ((.cell 2 0), .str), ((.cell 2 1), .bool), ((.cell 2 2), (.int .i64)), ((.cell 2 3), (.int .i64)), ((.cell 2 4), (.int .i64)), ((.cell 2 5), .bool), ((.cell 2 7), (.int .u8)), ((.cell 2 8), (.int .i64)), ((.cell 2 9), .bool), ((.cell 2 10), (.int .u8)), ((.cell 2 11), (.int .i64))], [((.tmp 60), (.int .i64))]]) [.t 4] 74 (.bool false) args B m
theorem ent_163_1_ok (hkn : HkS hk) (N : Nat) : EOk hk V 163 (ent_163_1 N) := fun args B m => inlE hkn (tblOf_ok (tok1 (ent_164_ok hkn N) (tok1 (ent_189_ok hkn N) (tok1 (ent_197_ok hkn N) (tok1 (ent_198_ok hkn N) (tok0)))))) (by kernel_rfl) rfl args B m
def ent_200_1 (N : Nat) : List (PV D) → Bt D → Nat → CallR D := fun args B m => inlC (tblOf [(189, ent_189 N)]) N (ycOf Tryz.prog 200 []) [.t 6] 51 (.int .i64 0) args B m
theorem ent_200_1_ok (hkn : HkS hk) (N : Nat) : EOk hk V 200 (ent_200_1 N) := fun args B m => inlE hkn (tblOf_ok (tok1 (ent_189_ok hkn N) (tok0))) (by kernel_rfl) rfl args B m
def ent_165_1 (N : Nat) : List (PV D) → Bt D → Nat → CallR D := fun args B m => inlC (tblOf [(200, ent_200_1 N)]) N (ycOf Tryz.prog 165 [[((.tmp 5), (.int .i64)), ((.tmp 6), .bool), ((.tmp 13), (.int .i64)), ((.cell 2 0), .str), ((.cell 2 1), .bool), ((.cell 2 2), (.int .i64)), ((.cell 2 3), (.int .i64)), ((.cell 2 4), (.int .i64)), ((.cell 2 5), .bool), ((.cell 2 6), (.rowI 208 .i64)), ((.cell 2 7), (.int .u8)), ((.cell 2 8), (.int .i64)), ((.cell 2 9), .bool), ((.cell 2 10), (.int .u8)), ((.cell 2 11), (.int .i64))]]) [.t 4] 122 (.bool false) args B m
theorem ent_165_1_ok (hkn : HkS hk) (N : Nat) : EOk hk V 165 (ent_165_1 N) := fun args B m => inlE hkn (tblOf_ok (tok1 (ent_200_1_ok hkn N) (tok0))) (by kernel_rfl) rfl args B m
def ent_166_1 (N : Nat) : List (PV D) → Bt D → Nat → CallR D := fun args B m => inlC (tblOf []) N (ycOf Tryz.prog 166 [[((.tmp 5), (.int .i64)), ((.tmp 6), (.int .i64)), ((.tmp 18), (.int .i64))], [((.tmp 49), (.int .i64))]]) [.t 4] 79 (.bool false) args B m
theorem ent_166_1_ok (hkn : HkS hk) (N : Nat) : EOk hk V 166 (ent_166_1 N) := fun args B m => inlE hkn (tblOf_ok (tok0)) (by kernel_rfl) rfl args B m
def ent_167_1 (N : Nat) : List (PV D) → Bt D → Nat → CallR D := fun args B m => inlC (tblOf [(189, ent_189 N)]) N (ycOf Tryz.prog 167 [[((.tmp 5), (.int .i64)), ((.tmp 11), (.int .i64))]]) [.t 4] 39 (.int .i64 0) args B m
theorem ent_167_1_ok (hkn : HkS hk) (N : Nat) : EOk hk V 167 (ent_167_1 N) := fun args B m => inlE hkn (tblOf_ok (tok1 (ent_189_ok hkn N) (tok0))) (by kernel_rfl) rfl args B m
def ent_133_1 (N : Nat) : List (PV D) → Bt D → Nat → CallR D := fun args B m => inlC (tblOf [(132, ent_132 N), (162, ent_162 N), (163, ent_163_1 N), (164, ent_164 N), (165, ent_165_1 N), (166, ent_166_1 N), (167, ent_167_1 N)]) N (ycOf Tryz.prog 133 []) [.t 2, .t 3] 114 (.tup [.nilp, (.bool false)]) args B m
theorem ent_133_1_ok (hkn : HkS hk) (N : Nat) : EOk hk V 133 (ent_133_1 N) := fun args B m => inlE hkn (tblOf_ok (tok1 (ent_132_ok hkn N) (tok1 (ent_162_ok hkn N) (tok1 (ent_163_1_ok hkn N) (tok1 (ent_164_ok hkn N) (tok1 (ent_165_1_ok hkn N) (tok1 (ent_166_1_ok hkn N) (tok1 (ent_167_1_ok hkn N) (tok0))))))))) (by kernel_rfl) rfl args B m
def ent_100_1 (N : Nat) : List (PV D) → Bt D → Nat → CallR D := fun args B m => inlC (tblOf [(130, ent_130_1 N), (131, ent_131 N), (132, ent_132 N), (133, ent_133_1 N)]) N (ycOf Tryz.prog 100 []) [.t 2, .t 3] 30 (.tup [.nilp, (.bool false)]) args B m
theorem ent_100_1_ok (hkn : HkS hk) (N : Nat) : EOk hk V 100 (ent_100_1 N) := fun args B m => inlE hkn (tblOf_ok (tok1 (ent_130_1_ok hkn N) (tok1 (ent_131_ok hkn N) (tok1 (ent_132_ok hkn N) (tok1 (ent_133_1_ok hkn N) (tok0)))))) (by kernel_rfl) rfl args B m
theorem FE_67 (N : Nat) (a0 : List UInt8) : fsem (D := D) (tblOf [(100, ent_100_1 N)]) N (ycOf Tryz.prog 67 []) [.c 2 6 true, .t 3] [.str a0] .leaf 0 K_r6 = F_67 N a0 := by kernel_rfl
def ent_67 (N : Nat) : List (PV D) → Bt D → Nat → CallR D := fun args _ _ => match args with
 | [.str a0] => .opt ((List UInt8 × Bool × Int × Int × Int × Bool) × Int) (F_67 N a0) default O_r6
 | _ => .bad
theorem ent_67_ok (hkn : HkS hk) (N : Nat) : EOk hk V 67 (ent_67 N) := fun args B m => by
 unfold ent_67
 split
 ·exact fun _ h => eP hkn (tblOf_ok (tok1 (ent_100_1_ok hkn N) (tok0))) (sz := 18) (by kernel_rfl) rfl rfl rfl rfl (FE_67 N _) KO_r6 rfl h
 ·trivial
theorem FE_60 (N : Nat) (a0 : List UInt8) : fsem (D := D) (tblOf [(67, ent_67 N)]) N (ycOf Tryz.prog 60 []) [.t 2] [.str a0] .leaf 0 K_r0 = F_60 N a0 := by kernel_rfl
def ent_60 (N : Nat) : List (PV D) → Bt D → Nat → CallR D := fun args _ _ => match args with
 | [.str a0] => .opt (Int) (F_60 N a0) default O_r0
 | _ => .bad
theorem ent_60_ok (hkn : HkS hk) (N : Nat) : EOk hk V 60 (ent_60 N) := fun args B m => by
 unfold ent_60
 split
 ·exact fun _ h => eP hkn (tblOf_ok (tok1 (ent_67_ok hkn N) (tok0))) (sz := 11) (by kernel_rfl) rfl rfl rfl rfl (FE_60 N _) KO_r0 rfl h
 ·trivial
theorem FE_15 (N : Nat) (a0 a1 a2 : Int) (a3 : Bool) (a4 : List UInt8) : fsem (D := D) (tblOf [(58, ent_58 N), (59, ent_59 N), (60, ent_60 N)]) N (ycOf Tryz.prog 15 []) [.t 2] [.agg [.int .i64 a0, .int .i64 a1, .int .i64 a2, .bool a3, .str a4]] .leaf 0 K_r0 = F_15 N a0 a1 a2 a3 a4 := by kernel_rfl
def ent_15 (N : Nat) : List (PV D) → Bt D → Nat → CallR D := fun args _ _ => match args with
 | [.agg [.int .i64 a0, .int .i64 a1, .int .i64 a2, .bool a3, .str a4]] => .opt (Int) (F_15 N a0 a1 a2 a3 a4) default O_r0
 | _ => .bad
theorem ent_15_ok (hkn : HkS hk) (N : Nat) : EOk hk V 15 (ent_15 N) := fun args B m => by
 unfold ent_15
 split
 ·exact fun _ h => eP hkn (tblOf_ok (tok1 (ent_58_ok hkn N) (tok1 (ent_59_ok hkn N) (tok1 (ent_60_ok hkn N) (tok0))))) (sz := 81) (by kernel_rfl) rfl rfl rfl rfl (FE_15 N _ _ _ _ _) KO_r0 rfl h
 ·trivial
theorem FE_62 (N : Nat) (a0 a1 a2 : Int) (a3 : Bool) (a4 : List UInt8) : fsem (D := D) (tblOf [(15, ent_15 N)]) N (ycOf Tryz.prog 62 []) [.t 2] [.agg [.int .i64 a0, .int .i64 a1, .int .i64 a2, .bool a3, .str a4]] .leaf 0 K_r1 = F_62 N a0 a1 a2 a3 a4 := by kernel_rfl
def ent_62 (N : Nat) : List (PV D) → Bt D → Nat → CallR D := fun args _ _ => match args with
 | [.agg [.int .i64 a0, .int .i64 a1, .int .i64 a2, .bool a3, .str a4]] => .opt (Bool) (F_62 N a0 a1 a2 a3 a4) default O_r1
 | _ => .bad
theorem ent_62_ok (hkn : HkS hk) (N : Nat) : EOk hk V 62 (ent_62 N) := fun args B m => by
 unfold ent_62
 split
 ·exact fun _ h => eP hkn (tblOf_ok (tok1 (ent_15_ok hkn N) (tok0))) (sz := 11) (by kernel_rfl) rfl rfl rfl rfl (FE_62 N _ _ _ _ _) KO_r1 rfl h
 ·trivial
theorem FE_99 (N : Nat) (a0 a1 a2 : Int) (a3 : Bool) (a4 : List UInt8) : fsem (D := D) (tblOf [(129, ent_129 N)]) N (ycOf Tryz.prog 99 []) [.t 2] [.agg [.int .i64 a0, .int .i64 a1, .int .i64 a2, .bool a3, .str a4]] .leaf 0 K_r0 = F_99 N a0 a1 a2 a3 a4 := by kernel_rfl
def ent_99 (N : Nat) : List (PV D) → Bt D → Nat → CallR D := fun args _ _ => match args with
 | [.agg [.int .i64 a0, .int .i64 a1, .int .i64 a2, .bool a3, .str a4]] => .opt (Int) (F_99 N a0 a1 a2 a3 a4) default O_r0
 | _ => .bad
theorem ent_99_ok (hkn : HkS hk) (N : Nat) : EOk hk V 99 (ent_99 N) := fun args B m => by
 unfold ent_99
 split
 ·exact fun _ h => eP hkn (tblOf_ok (tok1 (ent_129_ok hkn N) (tok0))) (sz := 13) (by kernel_rfl) rfl rfl rfl rfl (FE_99 N _ _ _ _ _) KO_r0 rfl h
 ·trivial
theorem FE_63 (N : Nat) (a0 : Int) (a1 : List UInt8) (a2 a3 a4 : Int) (a5 : Bool) (a6 : List UInt8) : fsem (D := D) (tblOf [(59, ent_59 N), (99, ent_99 N)]) N (ycOf Tryz.prog 63 []) [.t 4] [.agg [.int .i64 a0, .str a1], .agg [.int .i64 a2, .int .i64 a3, .int .i64 a4, .bool a5, .str a6]] .leaf 0 K_r0 = F_63 N a0 a1 a2 a3 a4 a5 a6 := by kernel_rfl
def ent_63 (N : Nat) : List (PV D) → Bt D → Nat → CallR D := fun args _ _ => match args with
 | [.agg [.int .i64 a0, .str a1], .agg [.int .i64 a2, .int .i64 a3, .int .i64 a4, .bool a5, .str a6]] => .opt (Int) (F_63 N a0 a1 a2 a3 a4 a5 a6) default O_r0
 | _ => .bad
theorem ent_63_ok (hkn : HkS hk) (N : Nat) : EOk hk V 63 (ent_63 N) := fun args B m => by
 unfold ent_63
 split
 ·exact fun _ h => eP hkn (tblOf_ok (tok1 (ent_59_ok hkn N) (tok1 (ent_99_ok hkn N) (tok0)))) (sz := 30) (by kernel_rfl) rfl rfl rfl rfl (FE_63 N _ _ _ _ _ _ _) KO_r0 rfl h
 ·trivial
theorem FE_64 (N : Nat) (a0 : List UInt8) : fsem (D := D) (tblOf []) N (ycOf Tryz.prog 64 [[((.tmp 6), (.int .i64))]]) [.t 2] [.str a0] .leaf 0 K_r1 = F_64 N a0 := by kernel_rfl
def ent_64 (N : Nat) : List (PV D) → Bt D → Nat → CallR D := fun args _ _ => match args with
 | [.str a0] => .opt (Bool) (F_64 N a0) default O_r1
 | _ => .bad
theorem ent_64_ok (hkn : HkS hk) (N : Nat) : EOk hk V 64 (ent_64 N) := fun args B m => by
 unfold ent_64
 split
 ·exact fun _ h => eP hkn (tblOf_ok (tok0)) (sz := 20) (by kernel_rfl) rfl rfl rfl rfl (FE_64 N _) KO_r1 rfl h
 ·trivial
def K_r9 : PV D → Y D → Option (Int) := fun v _ => match v with
 | .int .u64 q0 => some q0
 | _ => none
def O_r9 (r : Int) : PV D := .int .u64 r
theorem KO_r9 {r : Int} (v : PV D) (st : Y D) (h : K_r9 v st = some r) : v = O_r9 r := by
 unfold K_r9 at h
 split at h <;> first | (cases h; rfl) | (cases h)
theorem FE_228 (N : Nat) (a0 : Int) : fsem (D := D) (tblOf []) N (ycOf Tryz.prog 228 []) [.t 2] [.int .i64 a0] .leaf 0 K_r9 = F_228 N a0 := by kernel_rfl
def ent_228 (N : Nat) : List (PV D) → Bt D → Nat → CallR D := fun args _ _ => match args with
 | [.int .i64 a0] => .opt (Int) (F_228 N a0) default O_r9
 | _ => .bad
theorem ent_228_ok (hkn : HkS hk) (N : Nat) : EOk hk V 228 (ent_228 N) := fun args B m => by
 unfold ent_228
 split
 ·exact fun _ h => eP hkn (tblOf_ok (tok0)) (sz := 12) (by kernel_rfl) rfl rfl rfl rfl (FE_228 N _) KO_r9 rfl h
 ·trivial
theorem FE_208 (N : Nat) (a0 a1 : Int) : fsem (D := D) (tblOf [(228, ent_228 N)]) N (ycOf Tryz.prog 208 [[((.tmp 5), (.int .u64)), ((.tmp 7), (.int .i64)), ((.row 0), (.rowI 5 .u8))]]) [.t 4] [.int .i64 a0, .int .i64 a1] .leaf 0 K_r2 = F_208 N a0 a1 := by kernel_rfl
def ent_208 (N : Nat) : List (PV D) → Bt D → Nat → CallR D := fun args _ _ => match args with
 | [.int .i64 a0, .int .i64 a1] => .opt (List UInt8) (F_208 N a0 a1) default O_r2
 | _ => .bad
theorem ent_208_ok (hkn : HkS hk) (N : Nat) : EOk hk V 208 (ent_208 N) := fun args B m => by
 unfold ent_208
 split
 ·exact fun _ h => eP hkn (tblOf_ok (tok1 (ent_228_ok hkn N) (tok0))) (sz := 29) (by kernel_rfl) rfl rfl rfl rfl (FE_208 N _ _) KO_r2 rfl h
 ·trivial
theorem FE_213 (N : Nat) (a0 : Int) (a1 : Bool) : fsem (D := D) (tblOf []) N (ycOf Tryz.prog 213 []) [.t 4] [.int .u8 a0, .bool a1] .leaf 0 K_r3 = F_213 N a0 a1 := by kernel_rfl
def ent_213 (N : Nat) : List (PV D) → Bt D → Nat → CallR D := fun args _ _ => match args with
 | [.int .u8 a0, .bool a1] => .opt (Int) (F_213 N a0 a1) default O_r3
 | _ => .bad
theorem ent_213_ok (hkn : HkS hk) (N : Nat) : EOk hk V 213 (ent_213 N) := fun args B m => by
 unfold ent_213
 split
 ·exact fun _ h => eP hkn (tblOf_ok (tok0)) (sz := 12) (by kernel_rfl) rfl rfl rfl rfl (FE_213 N _ _) KO_r3 rfl h
 ·trivial
theorem FE_212 (N : Nat) (a0 a1 : Int) (a2 : Bool) : fsem (D := D) (tblOf [(147, ent_147 N), (213, ent_213 N)]) N (ycOf Tryz.prog 212 []) [.t 6] [.int .u8 a0, .int .u8 a1, .bool a2] .leaf 0 K_r3 = F_212 N a0 a1 a2 := by kernel_rfl
def ent_212 (N : Nat) : List (PV D) → Bt D → Nat → CallR D := fun args _ _ => match args with
 | [.int .u8 a0, .int .u8 a1, .bool a2] => .opt (Int) (F_212 N a0 a1 a2) default O_r3
 | _ => .bad
theorem ent_212_ok (hkn : HkS hk) (N : Nat) : EOk hk V 212 (ent_212 N) := fun args B m => by
 unfold ent_212
 split
 ·exact fun _ h => eP hkn (tblOf_ok (tok1 (ent_147_ok hkn N) (tok1 (ent_213_ok hkn N) (tok0)))) (sz := 21) (by kernel_rfl) rfl rfl rfl rfl (FE_212 N _ _ _) KO_r3 rfl h
 ·trivial
def K_r10 : PV D → Y D → Option (Int × Bool) := fun v _ => match v with
 | .tup [.int .u8 q0, .bool q1] => some (q0, q1)
 | _ => none
def O_r10 (r : Int × Bool) : PV D := .tup [.int .u8 r.1, .bool r.2]
theorem KO_r10 {r : Int × Bool} (v : PV D) (st : Y D) (h : K_r10 v st = some r) : v = O_r10 r := by
 unfold K_r10 at h
 split at h <;> first | (cases h; rfl) | (cases h)
theorem FE_229 (N : Nat) (a0 : Int) (a1 : Bool) : fsem (D := D) (tblOf []) N (ycOf Tryz.prog 229 []) [.t 4, .t 5] [.int .i64 a0, .bool a1] .leaf 0 K_r10 = F_229 N a0 a1 := by kernel_rfl
def ent_229 (N : Nat) : List (PV D) → Bt D → Nat → CallR D := fun args _ _ => match args with
 | [.int .i64 a0, .bool a1] => .opt (Int × Bool) (F_229 N a0 a1) default O_r10
 | _ => .bad
theorem ent_229_ok (hkn : HkS hk) (N : Nat) : EOk hk V 229 (ent_229 N) := fun args B m => by
 unfold ent_229
 split
 ·exact fun _ h => eP hkn (tblOf_ok (tok0)) (sz := 17) (by kernel_rfl) rfl rfl rfl rfl (FE_229 N _ _) KO_r10 rfl h
 ·trivial
theorem FE_211 (N : Nat) (a0 a1 : Int) (a2 : Bool) : fsem (D := D) (tblOf [(229, ent_229 N)]) N (ycOf Tryz.prog 211 []) [.t 6] [.int .u8 a0, .int .u8 a1, .bool a2] .leaf 0 K_r3 = F_211 N a0 a1 a2 := by kernel_rfl
def ent_211 (N : Nat) : List (PV D) → Bt D → Nat → CallR D := fun args _ _ => match args with
 | [.int .u8 a0, .int .u8 a1, .bool a2] => .opt (Int) (F_211 N a0 a1 a2) default O_r3
 | _ => .bad
theorem ent_211_ok (hkn : HkS hk) (N : Nat) : EOk hk V 211 (ent_211 N) := fun args B m => by
 unfold ent_211
 split
 ·exact fun _ h => eP hkn (tblOf_ok (tok1 (ent_229_ok hkn N) (tok0))) (sz := 42) (by kernel_rfl) rfl rfl rfl rfl (FE_211 N _ _ _) KO_r3 rfl h
 ·trivial
theorem FE_210 (N : Nat) (a0 : List UInt8) : fsem (D := D) (tblOf [(147, ent_147 N)]) N (ycOf Tryz.prog 210 []) [.t 2] [.str a0] .leaf 0 K_r3 = F_210 N a0 := by kernel_rfl
def ent_210 (N : Nat) : List (PV D) → Bt D → Nat → CallR D := fun args _ _ => match args with
 | [.str a0] => .opt (Int) (F_210 N a0) default O_r3
 | _ => .bad
theorem ent_210_ok (hkn : HkS hk) (N : Nat) : EOk hk V 210 (ent_210 N) := fun args B m => by
 unfold ent_210
 split
 ·exact fun _ h => eP hkn (tblOf_ok (tok1 (ent_147_ok hkn N) (tok0))) (sz := 5) (by kernel_rfl) rfl rfl rfl rfl (FE_210 N _) KO_r3 rfl h
 ·trivial
theorem FE_209 (N : Nat) (a0 : List UInt8) (a1 : Bool) (a2 a3 a4 : Int) (a5 : Bool) (a6 : List UInt8) : fsem (D := D) (tblOf [(146, ent_146 N), (147, ent_147 N), (183, ent_183 N)]) N (ycOf Tryz.prog 209 [[((.tmp 6), (.int .i64)), ((.tmp 7), (.int .i64)), ((.tmp 8), (.int .i64))]]) [.t 4] [.agg [.str a0, .bool a1, .int .i64 a2, .int .i64 a3, .int .i64 a4, .bool a5], .str a6] .leaf 0 K_r0 = F_209 N a0 a1 a2 a3 a4 a5 a6 := by kernel_rfl
def ent_209 (N : Nat) : List (PV D) → Bt D → Nat → CallR D := fun args _ _ => match args with
 | [.agg [.str a0, .bool a1, .int .i64 a2, .int .i64 a3, .int .i64 a4, .bool a5], .str a6] => .opt (Int) (F_209 N a0 a1 a2 a3 a4 a5 a6) default O_r0
 | _ => .bad
theorem ent_209_ok (hkn : HkS hk) (N : Nat) : EOk hk V 209 (ent_209 N) := fun args B m => by
 unfold ent_209
 split
 ·exact fun _ h => eP hkn (tblOf_ok (tok1 (ent_146_ok hkn N) (tok1 (ent_147_ok hkn N) (tok1 (ent_183_ok hkn N) (tok0))))) (sz := 65) (by kernel_rfl) rfl rfl rfl rfl (FE_209 N _ _ _ _ _ _ _) KO_r0 rfl h
 ·trivial
theorem FE_180 (N : Nat) (a0 : List UInt8) (a1 : Bool) (a2 a3 a4 : Int) (a5 : Bool) (a6 : Int) : fsem (D := D) (tblOf [(146, ent_146 N), (147, ent_147 N), (183, ent_183 N), (188, ent_188 N), (208, ent_208 N), (209, ent_209 N), (210, ent_210 N), (211, ent_211 N), (212, ent_212 N), (213, ent_213 N)]) N (ycOf Tryz.prog 180 [[((.tmp 10), (.rowI 5 .u8)), ((.tmp 11), (.int .i64)), ((.tmp 12), (.int .i64))]]) [.t 4] [.agg [.str a0, .bool a1, .int .i64 a2, .int .i64 a3, .int .i64 a4, .bool a5], .int .i64 a6] .leaf 0 K_r2 = F_180 N a0 a1 a2 a3 a4 a5 a6 := by kernel_rfl
def ent_180 (N : Nat) : List (PV D) → Bt D → Nat → CallR D := fun args _ _ => match args with
 | [.agg [.str a0, .bool a1, .int .i64 a2, .int .i64 a3, .int .i64 a4, .bool a5], .int .i64 a6] => .opt (List UInt8) (F_180 N a0 a1 a2 a3 a4 a5 a6) default O_r2
 | _ => .bad
theorem ent_180_ok (hkn : HkS hk) (N : Nat) : EOk hk V 180 (ent_180 N) := fun args B m => by
 unfold ent_180
 split
 ·exact fun _ h => eP hkn (tblOf_ok (tok1 (ent_146_ok hkn N) (tok1 (ent_147_ok hkn N) (tok1 (ent_183_ok hkn N) (tok1 (ent_188_ok hkn N) (tok1 (ent_208_ok hkn N) (tok1 (ent_209_ok hkn N) (tok1 (ent_210_ok hkn N) (tok1 (ent_211_ok hkn N) (tok1 (ent_212_ok hkn N) (tok1 (ent_213_ok hkn N) (tok0)))))))))))) (sz := 156) (by kernel_rfl) rfl rfl rfl rfl (FE_180 N _ _ _ _ _ _ _) KO_r2 rfl h
 ·trivial
def K_r11 : PV D → Y D → Option (Int × Bool × Bool) := fun v _ => match v with
 | .tup [.int .i64 q0, .bool q1, .bool q2] => some (q0, q1, q2)
 | _ => none
def O_r11 (r : Int × Bool × Bool) : PV D := .tup [.int .i64 r.1, .bool r.2.1, .bool r.2.2]
theorem KO_r11 {r : Int × Bool × Bool} (v : PV D) (st : Y D) (h : K_r11 v st = some r) : v = O_r11 r := by
 unfold K_r11 at h
 split at h <;> first | (cases h; rfl) | (cases h)
theorem FE_179 (N : Nat) (a0 : Int) : fsem (D := D) (tblOf []) N (ycOf Tryz.prog 179 [[((.tmp 5), (.int .i64))]]) [.t 2, .t 3, .t 4] [.int .u8 a0] .leaf 0 K_r11 = F_179 N a0 := by kernel_rfl
def ent_179 (N : Nat) : List (PV D) → Bt D → Nat → CallR D := fun args _ _ => match args with
 | [.int .u8 a0] => .opt (Int × Bool × Bool) (F_179 N a0) default O_r11
 | _ => .bad
theorem ent_179_ok (hkn : HkS hk) (N : Nat) : EOk hk V 179 (ent_179 N) := fun args B m => by
 unfold ent_179
 split
 ·exact fun _ h => eP hkn (tblOf_ok (tok0)) (sz := 20) (by kernel_rfl) rfl rfl rfl rfl (FE_179 N _) KO_r11 rfl h
 ·trivial
theorem FE_139 (N : Nat) (a0 a1 : List UInt8) : fsem (D := D) (tblOf [(105, ent_105 N), (146, ent_146 N), (179, ent_179 N), (180, ent_180 N)]) N (ycOf Tryz.prog 139 [[((.tmp 8), (.int .i64)), ((.tmp 10), (.int .i64)), ((.tmp 11), (.int .i64))]]) [.t 4, .t 5] [.str a0, .str a1] .leaf 0 K_r4 = F_139 N a0 a1 := by kernel_rfl
def ent_139 (N : Nat) : List (PV D) → Bt D → Nat → CallR D := fun args _ _ => match args with
 | [.str a0, .str a1] => .opt (Int × Int) (F_139 N a0 a1) default O_r4
 | _ => .bad
theorem ent_139_ok (hkn : HkS hk) (N : Nat) : EOk hk V 139 (ent_139 N) := fun args B m => by
 unfold ent_139
 split
 ·exact fun _ h => eP hkn (tblOf_ok (tok1 (ent_105_ok hkn N) (tok1 (ent_146_ok hkn N) (tok1 (ent_179_ok hkn N) (tok1 (ent_180_ok hkn N) (tok0)))))) (sz := 110) (by kernel_rfl) rfl rfl rfl rfl (FE_139 N _ _) KO_r4 rfl h
 ·trivial
theorem FE_140 (N : Nat) (a0 a1 : Int) : fsem (D := D) (tblOf [(181, ent_181 N)]) N (ycOf Tryz.prog 140 []) [.t 4] [.int .u8 a0, .int .u8 a1] .leaf 0 K_r1 = F_140 N a0 a1 := by kernel_rfl
def ent_140 (N : Nat) : List (PV D) → Bt D → Nat → CallR D := fun args _ _ => match args with
 | [.int .u8 a0, .int .u8 a1] => .opt (Bool) (F_140 N a0 a1) default O_r1
 | _ => .bad
theorem ent_140_ok (hkn : HkS hk) (N : Nat) : EOk hk V 140 (ent_140 N) := fun args B m => by
 unfold ent_140
 split
 ·exact fun _ h => eP hkn (tblOf_ok (tok1 (ent_181_ok hkn N) (tok0))) (sz := 27) (by kernel_rfl) rfl rfl rfl rfl (FE_140 N _ _) KO_r1 rfl h
 ·trivial
theorem FE_104 (N : Nat) (a0 a1 : List UInt8) : fsem (D := D) (tblOf [(105, ent_105 N), (139, ent_139 N), (140, ent_140 N)]) N (ycOf Tryz.prog 104 [[((.tmp 7), (.int .i64))]]) [.t 4] [.str a0, .str a1] .leaf 0 K_r1 = F_104 N a0 a1 := by kernel_rfl
def ent_104 (N : Nat) : List (PV D) → Bt D → Nat → CallR D := fun args _ _ => match args with
 | [.str a0, .str a1] => .opt (Bool) (F_104 N a0 a1) default O_r1
 | _ => .bad
theorem ent_104_ok (hkn : HkS hk) (N : Nat) : EOk hk V 104 (ent_104 N) := fun args B m => by
 unfold ent_104
 split
 ·exact fun _ h => eP hkn (tblOf_ok (tok1 (ent_105_ok hkn N) (tok1 (ent_139_ok hkn N) (tok1 (ent_140_ok hkn N) (tok0))))) (sz := 45) (by kernel_rfl) rfl rfl rfl rfl (FE_104 N _ _) KO_r1 rfl h
 ·trivial
theorem FE_106 (N : Nat) (a0 a1 : Int) : fsem (D := D) (tblOf []) N (ycOf Tryz.prog 106 [[((.tmp 0), (.int .u8)), ((.tmp 6), (.int .i64)), ((.row 0), (.rowI 5 .u8))]]) [.t 4] [.int .u8 a0, .int .i64 a1] .leaf 0 K_r2 = F_106 N a0 a1 := by kernel_rfl
def ent_106 (N : Nat) : List (PV D) → Bt D → Nat → CallR D := fun args _ _ => match args with
 | [.int .u8 a0, .int .i64 a1] => .opt (List UInt8) (F_106 N a0 a1) default O_r2
 | _ => .bad
theorem ent_106_ok (hkn : HkS hk) (N : Nat) : EOk hk V 106 (ent_106 N) := fun args B m => by
 unfold ent_106
 split
 ·exact fun _ h => eP hkn (tblOf_ok (tok0)) (sz := 25) (by kernel_rfl) rfl rfl rfl rfl (FE_106 N _ _) KO_r2 rfl h
 ·trivial
theorem FE_70 (N : Nat) (a0 a1 : Int) : fsem (D := D) (tblOf []) N (ycOf Tryz.prog 70 [[((.tmp 0), (.int .u64)), ((.tmp 6), (.int .i64)), ((.row 0), (.rowI 5 .u8))]]) [.t 4] [.int .u64 a0, .int .i64 a1] .leaf 0 K_r2 = F_70 N a0 a1 := by kernel_rfl
def ent_70 (N : Nat) : List (PV D) → Bt D → Nat → CallR D := fun args _ _ => match args with
 | [.int .u64 a0, .int .i64 a1] => .opt (List UInt8) (F_70 N a0 a1) default O_r2
 | _ => .bad
theorem ent_70_ok (hkn : HkS hk) (N : Nat) : EOk hk V 70 (ent_70 N) := fun args B m => by
 unfold ent_70
 split
 ·exact fun _ h => eP hkn (tblOf_ok (tok0)) (sz := 26) (by kernel_rfl) rfl rfl rfl rfl (FE_70 N _ _) KO_r2 rfl h
 ·trivial
theorem FE_71 (N : Nat) (a0 a1 : Int) : fsem (D := D) (tblOf []) N (ycOf Tryz.prog 71 [[((.tmp 0), (.int .u16)), ((.tmp 6), (.int .i64)), ((.row 0), (.rowI 5 .u8))]]) [.t 4] [.int .u16 a0, .int .i64 a1] .leaf 0 K_r2 = F_71 N a0 a1 := by kernel_rfl
def ent_71 (N : Nat) : List (PV D) → Bt D → Nat → CallR D := fun args _ _ => match args with
 | [.int .u16 a0, .int .i64 a1] => .opt (List UInt8) (F_71 N a0 a1) default O_r2
 | _ => .bad
theorem ent_71_ok (hkn : HkS hk) (N : Nat) : EOk hk V 71 (ent_71 N) := fun args B m => by
 unfold ent_71
 split
 ·exact fun _ h => eP hkn (tblOf_ok (tok0)) (sz := 26) (by kernel_rfl) rfl rfl rfl rfl (FE_71 N _ _) KO_r2 rfl h
 ·trivial
def ent_171_1 (N : Nat) : List (PV D) → Bt D → Nat → CallR D := fun args B m => inlC (tblOf [(131, ent_131 N)]) N (ycOf Tryz.prog 171 [[((.tmp 6), .bool), ((.tmp 25), (.int .i64))], [((.tmp 3), (.int .i64)), ((.tmp 4), (.int .i64)), ((.tmp 48), (.int .i64))]]) [.t 2] 86 (.int .i64 0) args B m
theorem ent_171_1_ok (hkn : HkS hk) (N : Nat) : EOk hk V 171 (ent_171_1 N) := fun args B m => inlE hkn (tblOf_ok (tok1 (ent_131_ok hkn N) (tok0))) (by kernel_rfl) rfl args B m
def ent_206_1 (N : Nat) : List (PV D) → Bt D → Nat → CallR D := fun args B m => inlC (tblOf []) N (ycOf Tryz.prog 206 []) [.t 2] 20 (.int .u8 0) args B m
theorem ent_206_1_ok (hkn : HkS hk) (N : Nat) : EOk hk V 206 (ent_206_1 N) := fun args B m => inlE hkn (tblOf_ok (tok0)) (by kernel_rfl) rfl args B m
def ent_172_1 (N : Nat) : List (PV D) → Bt D → Nat → CallR D := fun args B m => inlC (tblOf [(206, ent_206_1 N), (207, ent_207 N)]) N (ycOf Tryz.prog 172 []) [.t 4] 54 (.int .u8 0) args B m
theorem ent_172_1_ok (hkn : HkS hk) (N : Nat) : EOk hk V 172 (ent_172_1 N) := fun args B m => inlE hkn (tblOf_ok (tok1 (ent_206_1_ok hkn N) (tok1 (ent_207_ok hkn N) (tok0)))) (by kernel_rfl) rfl args B m
def ent_173_1 (N : Nat) : List (PV D) → Bt D → Nat → CallR D := fun args B m => inlC (tblOf [(206, ent_206_1 N)]) N (ycOf Tryz.prog 173 []) [.t 4] 25 (.int .u8 0) args B m
theorem ent_173_1_ok (hkn : HkS hk) (N : Nat) : EOk hk V 173 (ent_173_1 N) := fun args B m => inlE hkn (tblOf_ok (tok1 (ent_206_1_ok hkn N) (tok0))) (by kernel_rfl) rfl args B m
def ent_174_1 (N : Nat) : List (PV D) → Bt D → Nat → CallR D := fun args B m => inlC (tblOf []) N (ycOf Tryz.prog 174 []) [.t 4] 26 (.int .u8 0) args B m
theorem ent_174_1_ok (hkn : HkS hk) (N : Nat) : EOk hk V 174 (ent_174_1 N) := fun args B m => inlE hkn (tblOf_ok (tok0)) (by kernel_rfl) rfl args B m
def ent_175_1 (N : Nat) : List (PV D) → Bt D → Nat → CallR D := fun args B m => inlC (tblOf []) N (ycOf Tryz.prog 175 []) [.t 4] 26 (.int .u8 0) args B m
theorem ent_175_1_ok (hkn : HkS hk) (N : Nat) : EOk hk V 175 (ent_175_1 N) := fun args B m => inlE hkn (tblOf_ok (tok0)) (by kernel_rfl) rfl args B m
def ent_176_1 (N : Nat) : List (PV D) → Bt D → Nat → CallR D := fun args B m => inlC (tblOf []) N (ycOf Tryz.prog 176 []) [.t 4] 6 (.int .u8 0) args B m
theorem ent_176_1_ok (hkn : HkS hk) (N : Nat) : EOk hk V 176 (ent_176_1 N) := fun args B m => inlE hkn (tblOf_ok (tok0)) (by kernel_rfl) rfl args B m
def yc_137 : YC := ycOf Tryz.prog 137 [[((.tmp 10), (.rowI 5 .u8)), ((.tmp 51), (.int .i64)), ((.cell 2 1), .str), ((.cell 2 2), .bool), ((.cell 2 3), (.int .i64)), ((.cell 2 4), (.int .i64)), ((.cell 2 5), (.int .i64))]]
def rs_137 : List RV := [.t 6, .t 7]
theorem cf_137 : compF Tryz.prog 137 [[((.tmp 10), (.rowI 5 .u8)), ((.tmp 51), (.int .i64)), ((.cell 2 1), .str), ((.cell 2 2), .bool), ((.cell 2 3), (.int .i64)), ((.cell 2 4), (.int .i64)), ((.cell 2 5), (.int .i64))]] = some (yc_137, rs_137, 171) := by kernel_rfl
def B0_137 (a0 : List UInt8) (a1 : Bool) (a2 a3 a4 : Int) (a5 : Bool) (a6 : List Int) (a7 a8 : Int) (a9 : Bool) (a10 a11 : Int) (a12 : List UInt8) (a13 : Bool) : Bt D := bset (bset .leaf 0 (some (0, .cells [.str a0, .bool a1, .int .i64 a2, .int .i64 a3, .int .i64 a4, .bool a5, .lsl 1, .int .u8 a7, .int .i64 a8, .bool a9, .int .u8 a10, .int .i64 a11]))) 1 (some (1, .rowI 208 .i64 a6))
def K_137 (a0 : List UInt8) (a1 : Bool) (a2 a3 a4 : Int) (a5 : Bool) (a6 : List Int) (a7 a8 : Int) (a9 : Bool) (a10 a11 : Int) (a12 : List UInt8) (a13 : Bool) : PV D → Y D → Option (List UInt8 × Int) := fun v st => match v with
 | .tup [.str q0, .int .i64 q1] => cond (roB (B0_137 a0 a1 a2 a3 a4 a5 a6 a7 a8 a9 a10 a11 a12 a13) st.B 2) (some (q0, q1)) none
 | _ => none
def O_137 (r : List UInt8 × Int) : PV D := .tup [.str r.1, .int .i64 r.2]
theorem KO_137 (a0 : List UInt8) (a1 : Bool) (a2 a3 a4 : Int) (a5 : Bool) (a6 : List Int) (a7 a8 : Int) (a9 : Bool) (a10 a11 : Int) (a12 : List UInt8) (a13 : Bool) (r : List UInt8 × Int) (v : PV D) (st : Y D) (h : K_137 a0 a1 a2 a3 a4 a5 a6 a7 a8 a9 a10 a11 a12 a13 v st = some r) : v = O_137 r ∧ roB (B0_137 a0 a1 a2 a3 a4 a5 a6 a7 a8 a9 a10 a11 a12 a13) st.B 2 = true := by
 unfold K_137 at h
 split at h
 ·obtain ⟨h1, h2⟩ := cond_some h
  cases h2
  exact ⟨rfl, h1⟩
 ·cases h
def T_137 (N : Nat) : Tbl D := tblOf [(28, ent_28 N), (171, ent_171_1 N), (172, ent_172_1 N), (173, ent_173_1 N), (174, ent_174_1 N), (175, ent_175_1 N), (176, ent_176_1 N)]
theorem FE_137 (N : Nat) (a0 : List UInt8) (a1 : Bool) (a2 a3 a4 : Int) (a5 : Bool) (a6 : List Int) (a7 a8 : Int) (a9 : Bool) (a10 a11 : Int) (a12 : List UInt8) (a13 : Bool) : fsem (D := D) (T_137 N) N yc_137 rs_137 [.lptr 0 0, .str a12, .bool a13] (B0_137 a0 a1 a2 a3 a4 a5 a6 a7 a8 a9 a10 a11 a12 a13) 2 (K_137 a0 a1 a2 a3 a4 a5 a6 a7 a8 a9 a10 a11 a12 a13) = F_137 N a0 a1 a2 a3 a4 a5 a6 a7 a8 a9 a10 a11 a12 a13 := by kernel_rfl
theorem TO_137 (hkn : HkS hk) (N : Nat) : TblOk Tryz.prog hk V (T_137 N) := tblOf_ok (tok1 (ent_28_ok hkn N) (tok1 (ent_171_1_ok hkn N) (tok1 (ent_172_1_ok hkn N) (tok1 (ent_173_1_ok hkn N) (tok1 (ent_174_1_ok hkn N) (tok1 (ent_175_1_ok hkn N) (tok1 (ent_176_1_ok hkn N) (tok0))))))))
theorem law_137 (hkn : HkS hk) {N : Nat} {a0 : List UInt8} {a1 : Bool} {a2 : Int} {a3 : Int} {a4 : Int} {a5 : Bool} {a6 : List Int} {a7 : Int} {a8 : Int} {a9 : Bool} {a10 : Int} {a11 : Int} {a12 : List UInt8} {a13 : Bool} (i s : Nat) (sl : PV D) (o : Option Nat) (B : Bt D) (m : Nat) (hb : bget B i = some (s, .cells [.str a0, .bool a1, .int .i64 a2, .int .i64 a3, .int .i64 a4, .bool a5, sl, .int .u8 a7, .int .i64 a8, .bool a9, .int .u8 a10, .int .i64 a11])) (hrow : rowIn 208 .i64 B sl = some (a6, o)) {r : List UInt8 × Int} (h : F_137 N a0 a1 a2 a3 a4 a5 a6 a7 a8 a9 a10 a11 a12 a13 = some r) : FunS Tryz.prog hk V 137 [.lptr i 0, .str a12, .bool a13] B m [] (O_137 r) B m :=
 fun_ro (TO_137 hkn N) cf_137 (hkn.no 137 rfl) (args0 := [.lptr 0 0, .str a12, .bool a13]) (Nat.le_of_ble_eq_true rfl) (noO rfl) (ins := [some i, o]) (B0 := B0_137 a0 a1 a2 a3 a4 a5 a6 a7 a8 a9 a10 a11 a12 a13) (ro_nd hb hrow) (ro_B0 hb hrow (.cons _ _ _ _ (.flat _ (.str _)) (.cons _ _ _ _ (.flat _ (.bool _)) (.cons _ _ _ _ (.flat _ (.int _ _)) (.cons _ _ _ _ (.flat _ (.int _ _)) (.cons _ _ _ _ (.flat _ (.int _ _)) (.cons _ _ _ _ (.flat _ (.bool _)) (.cons _ _ _ _ (ro_row hrow) (.cons _ _ _ _ (.flat _ (.int _ _)) (.cons _ _ _ _ (.flat _ (.int _ _)) (.cons _ _ _ _ (.flat _ (.bool _)) (.cons _ _ _ _ (.flat _ (.int _ _)) (.cons _ _ _ _ (.flat _ (.int _ _)) .nil))))))))))))) (.cons _ _ _ _ (.lptr 0 i 0 rfl) (.cons _ _ _ _ (.flat _ (.str _)) (.cons _ _ _ _ (.flat _ (.bool _)) .nil))) (K := K_137 a0 a1 a2 a3 a4 a5 a6 a7 a8 a9 a10 a11 a12 a13) (r := r) ((FE_137 N a0 a1 a2 a3 a4 a5 a6 a7 a8 a9 a10 a11 a12 a13).trans h) (KO_137 a0 a1 a2 a3 a4 a5 a6 a7 a8 a9 a10 a11 a12 a13 r) (.tup _ (.cons _ _ (.str _) (.cons _ _ (.int _ _) .nil)))
def ent_137 (N : Nat) : List (PV D) → Bt D → Nat → CallR D := fun args B _ => match args with
 | [.lptr i 0, .str a12, .bool a13] => match bget B i with
  | some (_, .cells [.str a0, .bool a1, .int .i64 a2, .int .i64 a3, .int .i64 a4, .bool a5, sl, .int .u8 a7, .int .i64 a8, .bool a9, .int .u8 a10, .int .i64 a11]) => match rowIn 208 .i64 B sl with
   | some (a6, _) => .opt (List UInt8 × Int) (F_137 N a0 a1 a2 a3 a4 a5 a6 a7 a8 a9 a10 a11 a12 a13) default (fun r => O_137 r)
   | none => .bad
  | _ => .bad
 | _ => .bad
theorem ent_137_ok (hkn : HkS hk) (N : Nat) (args : List (PV D)) (B : Bt D) (m : Nat) : CallOk Tryz.prog hk V 137 args B m (ent_137 N args B m) := by
 unfold ent_137
 split
 ·split
  ·split
   ·intro r hr; exact law_137 hkn _ _ _ _ B m (by assumption) (by assumption) hr
   ·trivial
  ·trivial
 ·trivial
def ent_130_2 (N : Nat) : List (PV D) → Bt D → Nat → CallR D := fun args B m => inlC (tblOf [(152, ent_152 N), (153, ent_153_1 N)]) N (ycOf Tryz.prog 130 [[((.tmp 4), (.rowI 5 .u8)), ((.tmp 5), (.int .i64)), ((.tmp 6), (.int .i64)), ((.tmp 7), .bool), ((.row 0), .iter)]]) [.t 2, .t 3] 74 (.tup [(.str []), (.bool false)]) args B m
theorem ent_130_2_ok (hkn : HkS hk) (N : Nat) : EOk hk V 130 (ent_130_2 N) := fun args B m => inlE hkn (tblOf_ok (tok1 (ent_152_ok hkn N) (tok1 (ent_153_1_ok hkn N) (tok0)))) (by kernel_rfl) rfl args B m
def ent_163_2 (N : Nat) : List (PV D) → Bt D → Nat → CallR D := fun args B m => inlC (tblOf [(164, ent_164 N), (189, ent_189 N), (197, ent_197 N), (198, ent_198 N)]) N (ycOf Tryz.prog 163 [[((.tmp 16), (.int .i64)), ((.cell 1 0), .str), ((.cell 1 1), .bool), ((.cell 1 2), (.int .i64)), ((.cell 1 3), (.int .i64)), ((.cell 1 4), (.int .i64)), ((.cell 1 5), .bool), ((.cell 1 7), (.int .u8)), ((.cell 1 8), (.int .i64)), ((.cell 1 9), .bool), ((.cell 1 10), (.int .u8)), ((.cell 1 11), (.int .i64))], [((.tmp 60), (.int .i64))]]) [.t 4] 74 (.bool false) args B m
theorem ent_163_2_ok (hkn : HkS hk) (N : Nat) : EOk hk V 163 (ent_163_2 N) := fun args B m => inlE hkn (tblOf_ok (tok1 (ent_164_ok hkn N) (tok1 (ent_189_ok hkn N) (tok1 (ent_197_ok hkn N) (tok1 (ent_198_ok hkn N) (tok0)))))) (by kernel_rfl) rfl args B m
def ent_165_2 (N : Nat) : List (PV D) → Bt D → Nat → CallR D := fun args B m => inlC (tblOf [(200, ent_200_1 N)]) N (ycOf Tryz.prog 165 [[((.tmp 5), (.int .i64)), ((.tmp 6), .bool), ((.tmp 13), (.int .i64)), ((.cell 1 0), .str), ((.cell 1 1), .bool), ((.cell 1 2), (.int .i64)), ((.cell 1 3), (.int .i64)), ((.cell 1 4), (.int .i64)), ((.cell 1 5), .bool), ((.cell 1 6), (.rowI 208 .i64)), ((.cell 1 7), (.int .u8)), ((.cell 1 8), (.int .i64)), ((.cell 1 9), .bool), ((.cell 1 10), (.int .u8)), ((.cell 1 11), (.int .i64))]]) [.t 4] 122 (.bool false) args B m
theorem ent_165_2_ok (hkn : HkS hk) (N : Nat) : EOk hk V 165 (ent_165_2 N) := fun args B m => inlE hkn (tblOf_ok (tok1 (ent_200_1_ok hkn N) (tok0))) (by kernel_rfl) rfl args B m
def ent_133_2 (N : Nat) : List (PV D) → Bt D → Nat → CallR D := fun args B m => inlC (tblOf [(132, ent_132 N), (162, ent_162 N), (163, ent_163_2 N), (164, ent_164 N), (165, ent_165_2 N), (166, ent_166_1 N), (167, ent_167_1 N)]) N (ycOf Tryz.prog 133 []) [.t 2, .t 3] 114 (.tup [.nilp, (.bool false)]) args B m
theorem ent_133_2_ok (hkn : HkS hk) (N : Nat) : EOk hk V 133 (ent_133_2 N) := fun args B m => inlE hkn (tblOf_ok (tok1 (ent_132_ok hkn N) (tok1 (ent_162_ok hkn N) (tok1 (ent_163_2_ok hkn N) (tok1 (ent_164_ok hkn N) (tok1 (ent_165_2_ok hkn N) (tok1 (ent_166_1_ok hkn N) (tok1 (ent_167_1_ok hkn N) (tok0))))))))) (by kernel_rfl) rfl args B m
def ent_100_2 (N : Nat) : List (PV D) → Bt D → Nat → CallR D := fun args B m => inlC (tblOf [(130, ent_130_2 N), (131, ent_131 N), (132, ent_132 N), (133, ent_133_2 N)]) N (ycOf Tryz.prog 100 []) [.t 2, .t 3] 30 (.tup [.nilp, (.bool false)]) args B m
theorem ent_100_2_ok (hkn : HkS hk) (N : Nat) : EOk hk V 100 (ent_100_2 N) := fun args B m => inlE hkn (tblOf_ok (tok1 (ent_130_2_ok hkn N) (tok1 (ent_131_ok hkn N) (tok1 (ent_132_ok hkn N) (tok1 (ent_133_2_ok hkn N) (tok0)))))) (by kernel_rfl) rfl args B m
def ent_134_1 (N : Nat) : List (PV D) → Bt D → Nat → CallR D := fun args B m => inlC (tblOf [(100, ent_100_2 N)]) N (ycOf Tryz.prog 134 []) [.t 2, .t 3] 22 (.tup [.nilp, (.bool false)]) args B m
theorem ent_134_1_ok (hkn : HkS hk) (N : Nat) : EOk hk V 134 (ent_134_1 N) := fun args B m => inlE hkn (tblOf_ok (tok1 (ent_100_2_ok hkn N) (tok0))) (by kernel_rfl) rfl args B m
def ent_135_1 (N : Nat) : List (PV D) → Bt D → Nat → CallR D := fun args B m => inlC (tblOf [(168, ent_168 N)]) N (ycOf Tryz.prog 135 [[((.tmp 5), (.rowI 5 .u8)), ((.tmp 6), (.int .i64)), ((.tmp 18), (.int .i64))]]) [.t 4] 66 (.str []) args B m
theorem ent_135_1_ok (hkn : HkS hk) (N : Nat) : EOk hk V 135 (ent_135_1 N) := fun args B m => inlE hkn (tblOf_ok (tok1 (ent_168_ok hkn N) (tok0))) (by kernel_rfl) rfl args B m
theorem FE_101 (N : Nat) (a0 a1 : List UInt8) : fsem (D := D) (tblOf [(134, ent_134_1 N), (135, ent_135_1 N), (136, ent_136 N), (137, ent_137 N)]) N (ycOf Tryz.prog 101 []) [.t 4, .t 5] [.str a0, .str a1] .leaf 0 K_r4 = F_101 N a0 a1 := by kernel_rfl
def ent_101 (N : Nat) : List (PV D) → Bt D → Nat → CallR D := fun args _ _ => match args with
 | [.str a0, .str a1] => .opt (Int × Int) (F_101 N a0 a1) default O_r4
 | _ => .bad
theorem ent_101_ok (hkn : HkS hk) (N : Nat) : EOk hk V 101 (ent_101 N) := fun args B m => by
 unfold ent_101
 split
 ·exact fun _ h => eP hkn (tblOf_ok (tok1 (ent_134_1_ok hkn N) (tok1 (ent_135_1_ok hkn N) (tok1 (ent_136_ok hkn N) (tok1 (ent_137_ok hkn N) (tok0)))))) (sz := 70) (by kernel_rfl) rfl rfl rfl rfl (FE_101 N _ _) KO_r4 rfl h
 ·trivial
theorem FE_65 (N : Nat) (a0 a1 : List UInt8) : fsem (D := D) (tblOf [(100, ent_100_2 N), (101, ent_101 N), (102, ent_102 N)]) N (ycOf Tryz.prog 65 []) [.t 4] [.str a0, .str a1] .leaf 0 K_r1 = F_65 N a0 a1 := by kernel_rfl
def ent_65 (N : Nat) : List (PV D) → Bt D → Nat → CallR D := fun args _ _ => match args with
 | [.str a0, .str a1] => .opt (Bool) (F_65 N a0 a1) default O_r1
 | _ => .bad
theorem ent_65_ok (hkn : HkS hk) (N : Nat) : EOk hk V 65 (ent_65 N) := fun args B m => by
 unfold ent_65
 split
 ·exact fun _ h => eP hkn (tblOf_ok (tok1 (ent_100_2_ok hkn N) (tok1 (ent_101_ok hkn N) (tok1 (ent_102_ok hkn N) (tok0))))) (sz := 36) (by kernel_rfl) rfl rfl rfl rfl (FE_65 N _ _) KO_r1 rfl h
 ·trivial
theorem FE_17 (N : Nat) (a0 a1 a2 : Int) (a3 : Bool) (a4 : List UInt8) (a5 : Int) (a6 : List UInt8) : fsem (D := D) (tblOf [(62, ent_62 N), (63, ent_63 N), (64, ent_64 N), (65, ent_65 N)]) N (ycOf Tryz.prog 17 []) [.t 4] [.agg [.int .i64 a0, .int .i64 a1, .int .i64 a2, .bool a3, .str a4], .agg [.int .i64 a5, .str a6]] .leaf 0 K_r0 = F_17 N a0 a1 a2 a3 a4 a5 a6 := by kernel_rfl
def ent_17 (N : Nat) : List (PV D) → Bt D → Nat → CallR D := fun args _ _ => match args with
 | [.agg [.int .i64 a0, .int .i64 a1, .int .i64 a2, .bool a3, .str a4], .agg [.int .i64 a5, .str a6]] => .opt (Int) (F_17 N a0 a1 a2 a3 a4 a5 a6) default O_r0
 | _ => .bad
theorem ent_17_ok (hkn : HkS hk) (N : Nat) : EOk hk V 17 (ent_17 N) := fun args B m => by
 unfold ent_17
 split
 ·exact fun _ h => eP hkn (tblOf_ok (tok1 (ent_62_ok hkn N) (tok1 (ent_63_ok hkn N) (tok1 (ent_64_ok hkn N) (tok1 (ent_65_ok hkn N) (tok0)))))) (sz := 86) (by kernel_rfl) rfl rfl rfl rfl (FE_17 N _ _ _ _ _ _ _) KO_r0 rfl h
 ·trivial
theorem FE_19 (N : Nat) (a0 a1 a2 : Int) (a3 : Bool) (a4 : List UInt8) : fsem (D := D) (tblOf [(15, ent_15 N), (67, ent_67 N)]) N (ycOf Tryz.prog 19 []) [.t 2] [.agg [.int .i64 a0, .int .i64 a1, .int .i64 a2, .bool a3, .str a4]] .leaf 0 K_r0 = F_19 N a0 a1 a2 a3 a4 := by kernel_rfl
def ent_19 (N : Nat) : List (PV D) → Bt D → Nat → CallR D := fun args _ _ => match args with
 | [.agg [.int .i64 a0, .int .i64 a1, .int .i64 a2, .bool a3, .str a4]] => .opt (Int) (F_19 N a0 a1 a2 a3 a4) default O_r0
 | _ => .bad
theorem ent_19_ok (hkn : HkS hk) (N : Nat) : EOk hk V 19 (ent_19 N) := fun args B m => by
 unfold ent_19
 split
 ·exact fun _ h => eP hkn (tblOf_ok (tok1 (ent_15_ok hkn N) (tok1 (ent_67_ok hkn N) (tok0)))) (sz := 53) (by kernel_rfl) rfl rfl rfl rfl (FE_19 N _ _ _ _ _) KO_r0 rfl h
 ·trivial
theorem FE_178 (N : Nat) (a0 : Int) : fsem (D := D) (tblOf []) N (ycOf Tryz.prog 178 []) [.t 2] [.int .i64 a0] .leaf 0 K_r0 = F_178 N a0 := by kernel_rfl
def ent_178 (N : Nat) : List (PV D) → Bt D → Nat → CallR D := fun args _ _ => match args with
 | [.int .i64 a0] => .opt (Int) (F_178 N a0) default O_r0
 | _ => .bad
theorem ent_178_ok (hkn : HkS hk) (N : Nat) : EOk hk V 178 (ent_178 N) := fun args B m => by
 unfold ent_178
 split
 ·exact fun _ h => eP hkn (tblOf_ok (tok0)) (sz := 5) (by kernel_rfl) rfl rfl rfl rfl (FE_178 N _) KO_r0 rfl h
 ·trivial
theorem FE_177 (N : Nat) (a0 a1 : Int) : fsem (D := D) (tblOf []) N (ycOf Tryz.prog 177 [[((.tmp 5), (.int .i64)), ((.tmp 6), (.int .i64))]]) [.t 4] [.int .i64 a0, .int .i64 a1] .leaf 0 K_r0 = F_177 N a0 a1 := by kernel_rfl
def ent_177 (N : Nat) : List (PV D) → Bt D → Nat → CallR D := fun args _ _ => match args with
 | [.int .i64 a0, .int .i64 a1] => .opt (Int) (F_177 N a0 a1) default O_r0
 | _ => .bad
theorem ent_177_ok (hkn : HkS hk) (N : Nat) : EOk hk V 177 (ent_177 N) := fun args B m => by
 unfold ent_177
 split
 ·exact fun _ h => eP hkn (tblOf_ok (tok0)) (sz := 16) (by kernel_rfl) rfl rfl rfl rfl (FE_177 N _ _) KO_r0 rfl h
 ·trivial
theorem FE_138 (N : Nat) (a0 a1 a2 : Int) (a3 : Bool) (a4 : List UInt8) : fsem (D := D) (tblOf [(177, ent_177 N), (178, ent_178 N)]) N (ycOf Tryz.prog 138 []) [.t 2] [.agg [.int .i64 a0, .int .i64 a1, .int .i64 a2, .bool a3, .str a4]] .leaf 0 K_r0 = F_138 N a0 a1 a2 a3 a4 := by kernel_rfl
def ent_138 (N : Nat) : List (PV D) → Bt D → Nat → CallR D := fun args _ _ => match args with
 | [.agg [.int .i64 a0, .int .i64 a1, .int .i64 a2, .bool a3, .str a4]] => .opt (Int) (F_138 N a0 a1 a2 a3 a4) default O_r0
 | _ => .bad
theorem ent_138_ok (hkn : HkS hk) (N : Nat) : EOk hk V 138 (ent_138 N) := fun args B m => by
 unfold ent_138
 split
 ·exact fun _ h => eP hkn (tblOf_ok (tok1 (ent_177_ok hkn N) (tok1 (ent_178_ok hkn N) (tok0)))) (sz := 9) (by kernel_rfl) rfl rfl rfl rfl (FE_138 N _ _ _ _ _) KO_r0 rfl h
 ·trivial
theorem FE_103 (N : Nat) (a0 : Int) (a1 : List UInt8) (a2 a3 a4 : Int) (a5 : Bool) (a6 : List UInt8) : fsem (D := D) (tblOf [(128, ent_128 N), (138, ent_138 N)]) N (ycOf Tryz.prog 103 []) [.t 4] [.agg [.int .i64 a0, .str a1], .agg [.int .i64 a2, .int .i64 a3, .int .i64 a4, .bool a5, .str a6]] .leaf 0 K_r0 = F_103 N a0 a1 a2 a3 a4 a5 a6 := by kernel_rfl
def ent_103 (N : Nat) : List (PV D) → Bt D → Nat → CallR D := fun args _ _ => match args with
 | [.agg [.int .i64 a0, .str a1], .agg [.int .i64 a2, .int .i64 a3, .int .i64 a4, .bool a5, .str a6]] => .opt (Int) (F_103 N a0 a1 a2 a3 a4 a5 a6) default O_r0
 | _ => .bad
theorem ent_103_ok (hkn : HkS hk) (N : Nat) : EOk hk V 103 (ent_103 N) := fun args B m => by
 unfold ent_103
 split
 ·exact fun _ h => eP hkn (tblOf_ok (tok1 (ent_128_ok hkn N) (tok1 (ent_138_ok hkn N) (tok0)))) (sz := 29) (by kernel_rfl) rfl rfl rfl rfl (FE_103 N _ _ _ _ _ _ _) KO_r0 rfl h
 ·trivial
theorem FE_75 (N : Nat) (a0 : List UInt8) : fsem (D := D) (tblOf []) N (ycOf Tryz.prog 75 [[((.tmp 3), (.int .i64))]]) [.t 2] [.str a0] .leaf 0 K_r1 = F_75 N a0 := by kernel_rfl
def ent_75 (N : Nat) : List (PV D) → Bt D → Nat → CallR D := fun args _ _ => match args with
 | [.str a0] => .opt (Bool) (F_75 N a0) default O_r1
 | _ => .bad
theorem ent_75_ok (hkn : HkS hk) (N : Nat) : EOk hk V 75 (ent_75 N) := fun args B m => by
 unfold ent_75
 split
 ·exact fun _ h => eP hkn (tblOf_ok (tok0)) (sz := 20) (by kernel_rfl) rfl rfl rfl rfl (FE_75 N _) KO_r1 rfl h
 ·trivial
theorem FE_66 (N : Nat) (a0 : Int) (a1 : List UInt8) (a2 a3 a4 : Int) (a5 : Bool) (a6 : List UInt8) : fsem (D := D) (tblOf [(61, ent_61 N), (75, ent_75 N), (103, ent_103 N), (104, ent_104 N)]) N (ycOf Tryz.prog 66 []) [.t 4] [.agg [.int .i64 a0, .str a1], .agg [.int .i64 a2, .int .i64 a3, .int .i64 a4, .bool a5, .str a6]] .leaf 0 K_r0 = F_66 N a0 a1 a2 a3 a4 a5 a6 := by kernel_rfl
def ent_66 (N : Nat) : List (PV D) → Bt D → Nat → CallR D := fun args _ _ => match args with
 | [.agg [.int .i64 a0, .str a1], .agg [.int .i64 a2, .int .i64 a3, .int .i64 a4, .bool a5, .str a6]] => .opt (Int) (F_66 N a0 a1 a2 a3 a4 a5 a6) default O_r0
 | _ => .bad
theorem ent_66_ok (hkn : HkS hk) (N : Nat) : EOk hk V 66 (ent_66 N) := fun args B m => by
 unfold ent_66
 split
 ·exact fun _ h => eP hkn (tblOf_ok (tok1 (ent_61_ok hkn N) (tok1 (ent_75_ok hkn N) (tok1 (ent_103_ok hkn N) (tok1 (ent_104_ok hkn N) (tok0)))))) (sz := 93) (by kernel_rfl) rfl rfl rfl rfl (FE_66 N _ _ _ _ _ _ _) KO_r0 rfl h
 ·trivial
theorem FE_18 (N : Nat) (a0 a1 a2 : Int) (a3 : Bool) (a4 : List UInt8) (a5 : Int) (a6 : List UInt8) : fsem (D := D) (tblOf [(66, ent_66 N)]) N (ycOf Tryz.prog 18 []) [.t 4] [.agg [.int .i64 a0, .int .i64 a1, .int .i64 a2, .bool a3, .str a4], .agg [.int .i64 a5, .str a6]] .leaf 0 K_r0 = F_18 N a0 a1 a2 a3 a4 a5 a6 := by kernel_rfl
def ent_18 (N : Nat) : List (PV D) → Bt D → Nat → CallR D := fun args _ _ => match args with
 | [.agg [.int .i64 a0, .int .i64 a1, .int .i64 a2, .bool a3, .str a4], .agg [.int .i64 a5, .str a6]] => .opt (Int) (F_18 N a0 a1 a2 a3 a4 a5 a6) default O_r0
 | _ => .bad
theorem ent_18_ok (hkn : HkS hk) (N : Nat) : EOk hk V 18 (ent_18 N) := fun args B m => by
 unfold ent_18
 split
 ·exact fun _ h => eP hkn (tblOf_ok (tok1 (ent_66_ok hkn N) (tok0))) (sz := 8) (by kernel_rfl) rfl rfl rfl rfl (FE_18 N _ _ _ _ _ _ _) KO_r0 rfl h
 ·trivial
theorem FE_68 (N : Nat) (a0 a1 a2 : Int) (a3 : Bool) (a4 : List UInt8) : fsem (D := D) (tblOf [(105, ent_105 N)]) N (ycOf Tryz.prog 68 []) [.t 2] [.agg [.int .i64 a0, .int .i64 a1, .int .i64 a2, .bool a3, .str a4]] .leaf 0 K_r0 = F_68 N a0 a1 a2 a3 a4 := by kernel_rfl
def ent_68 (N : Nat) : List (PV D) → Bt D → Nat → CallR D := fun args _ _ => match args with
 | [.agg [.int .i64 a0, .int .i64 a1, .int .i64 a2, .bool a3, .str a4]] => .opt (Int) (F_68 N a0 a1 a2 a3 a4) default O_r0
 | _ => .bad
theorem ent_68_ok (hkn : HkS hk) (N : Nat) : EOk hk V 68 (ent_68 N) := fun args B m => by
 unfold ent_68
 split
 ·exact fun _ h => eP hkn (tblOf_ok (tok1 (ent_105_ok hkn N) (tok0))) (sz := 33) (by kernel_rfl) rfl rfl rfl rfl (FE_68 N _ _ _ _ _) KO_r0 rfl h
 ·trivial
theorem FE_20 (N : Nat) (a0 a1 a2 : Int) (a3 : Bool) (a4 : List UInt8) : fsem (D := D) (tblOf [(16, ent_16 N), (68, ent_68 N)]) N (ycOf Tryz.prog 20 []) [.t 2] [.agg [.int .i64 a0, .int .i64 a1, .int .i64 a2, .bool a3, .str a4]] .leaf 0 K_r0 = F_20 N a0 a1 a2 a3 a4 := by kernel_rfl
def ent_20 (N : Nat) : List (PV D) → Bt D → Nat → CallR D := fun args _ _ => match args with
 | [.agg [.int .i64 a0, .int .i64 a1, .int .i64 a2, .bool a3, .str a4]] => .opt (Int) (F_20 N a0 a1 a2 a3 a4) default O_r0
 | _ => .bad
theorem ent_20_ok (hkn : HkS hk) (N : Nat) : EOk hk V 20 (ent_20 N) := fun args B m => by
 unfold ent_20
 split
 ·exact fun _ h => eP hkn (tblOf_ok (tok1 (ent_16_ok hkn N) (tok1 (ent_68_ok hkn N) (tok0)))) (sz := 45) (by kernel_rfl) rfl rfl rfl rfl (FE_20 N _ _ _ _ _) KO_r0 rfl h
 ·trivial
end
end Go.Yec
