/-
  G1
-/
import Derived.Test.YtadaoelabimmkaaGreatDoorY15
import Derived.Test.YtadaoelabimmkaaGreatDoorY16
import Derived.Test.YtadaoelabimmkaaGreatDoorG1
set_option linter.all false
namespace Go.Yec
open Go Go.Xec Go.Proofs
noncomputable section
variable {D : Type} {V : D → List (PV D)} {hk : Hook}
def yc_96 : YC := ycOf Tryz.prog 96 []
def rs_96 : List RV := [.t 2]
theorem cf_96 : compF Tryz.prog 96 [] = some (yc_96, rs_96, 5) := by kernel_rfl
def K_96 : PV D → Y D → Option (Int) := fun v _ => match v with
  | .int .i64 q0 => some q0
  | _ => none
def O_96 (r : Int) : PV D := .int .i64 r
theorem KO_96 (r : Int) (v : PV D) (st : Y D) (h : K_96 v st = some r) : v = O_96 r := by
  unfold K_96 at h
  split at h <;> first | (cases h; rfl) | (cases h)
def T_96 (N : Nat) : Tbl D := tblOf []
theorem FE_96 (N : Nat) (a0 : Int) : fsem (D := D) (T_96 N) N yc_96 rs_96 [.int .i64 a0] .leaf 0 K_96 = F_96 N a0 := by kernel_rfl
theorem TO_96 (hkn : HkS hk) (N : Nat) : TblOk Tryz.prog hk V (T_96 N) := tblOf_ok (tok0)
theorem law_96 (hkn : HkS hk) {N : Nat} (a0 : Int) {r : Int} (h : F_96 N a0 = some r) (B : Bt D) (m : Nat) : FunS Tryz.prog hk V 96 [.int .i64 a0] B m [] (O_96 r) B m :=
  fun_pure (TO_96 hkn N) cf_96 (hkn.no 96 rfl) (Nat.le_of_ble_eq_true rfl) (noO rfl) (.cons _ _ (.int _ _) .nil) (K := K_96) (by rw [FE_96]; exact h) (KO_96 r) (.int _ _) B m
def ent_96 (N : Nat) : List (PV D) → Bt D → Nat → CallR D := fun args _ _ => match args with
  | [.int .i64 a0] => .opt (Int) (F_96 N a0) default (fun r => O_96 r)
  | _ => .bad
theorem ent_96_ok (hkn : HkS hk) (N : Nat) (args : List (PV D)) (B : Bt D) (m : Nat) : CallOk Tryz.prog hk V 96 args B m (ent_96 N args B m) := by
  unfold ent_96
  split
  · intro r hr; exact law_96 hkn _ hr B m
  · trivial
def yc_59 : YC := ycOf Tryz.prog 59 []
def rs_59 : List RV := [.t 2]
theorem cf_59 : compF Tryz.prog 59 [] = some (yc_59, rs_59, 59) := by kernel_rfl
def K_59 : PV D → Y D → Option (Int) := fun v _ => match v with
  | .int .i64 q0 => some q0
  | _ => none
def O_59 (r : Int) : PV D := .int .i64 r
theorem KO_59 (r : Int) (v : PV D) (st : Y D) (h : K_59 v st = some r) : v = O_59 r := by
  unfold K_59 at h
  split at h <;> first | (cases h; rfl) | (cases h)
def T_59 (N : Nat) : Tbl D := tblOf [(96, ent_96 N)]
theorem FE_59 (N : Nat) (a0 : Int) (a1 : Int) (a2 : Int) (a3 : Bool) (a4 : List UInt8) : fsem (D := D) (T_59 N) N yc_59 rs_59 [.agg [.int .i64 a0, .int .i64 a1, .int .i64 a2, .bool a3, .str a4]] .leaf 0 K_59 = F_59 N a0 a1 a2 a3 a4 := by kernel_rfl
theorem TO_59 (hkn : HkS hk) (N : Nat) : TblOk Tryz.prog hk V (T_59 N) := tblOf_ok (tok1 (ent_96_ok hkn N) (tok0))
theorem law_59 (hkn : HkS hk) {N : Nat} (a0 : Int) (a1 : Int) (a2 : Int) (a3 : Bool) (a4 : List UInt8) {r : Int} (h : F_59 N a0 a1 a2 a3 a4 = some r) (B : Bt D) (m : Nat) : FunS Tryz.prog hk V 59 [.agg [.int .i64 a0, .int .i64 a1, .int .i64 a2, .bool a3, .str a4]] B m [] (O_59 r) B m :=
  fun_pure (TO_59 hkn N) cf_59 (hkn.no 59 rfl) (Nat.le_of_ble_eq_true rfl) (noO rfl) (.cons _ _ (.agg _ (.cons _ _ (.int _ _) (.cons _ _ (.int _ _) (.cons _ _ (.int _ _) (.cons _ _ (.bool _) (.cons _ _ (.str _) .nil)))))) .nil) (K := K_59) (by rw [FE_59]; exact h) (KO_59 r) (.int _ _) B m
def ent_59 (N : Nat) : List (PV D) → Bt D → Nat → CallR D := fun args _ _ => match args with
  | [.agg [.int .i64 a0, .int .i64 a1, .int .i64 a2, .bool a3, .str a4]] => .opt (Int) (F_59 N a0 a1 a2 a3 a4) default (fun r => O_59 r)
  | _ => .bad
theorem ent_59_ok (hkn : HkS hk) (N : Nat) (args : List (PV D)) (B : Bt D) (m : Nat) : CallOk Tryz.prog hk V 59 args B m (ent_59 N args B m) := by
  unfold ent_59
  split
  · intro r hr; exact law_59 hkn _ _ _ _ _ hr B m
  · trivial
def yc_144 : YC := ycOf Tryz.prog 144 [[((.tmp 5), (.int .i64)), ((.tmp 6), (.int .i64))]]
def rs_144 : List RV := [.t 4]
theorem cf_144 : compF Tryz.prog 144 [[((.tmp 5), (.int .i64)), ((.tmp 6), (.int .i64))]] = some (yc_144, rs_144, 21) := by kernel_rfl
def K_144 : PV D → Y D → Option (Int) := fun v _ => match v with
  | .int .i64 q0 => some q0
  | _ => none
def O_144 (r : Int) : PV D := .int .i64 r
theorem KO_144 (r : Int) (v : PV D) (st : Y D) (h : K_144 v st = some r) : v = O_144 r := by
  unfold K_144 at h
  split at h <;> first | (cases h; rfl) | (cases h)
def T_144 (N : Nat) : Tbl D := tblOf []
theorem FE_144 (N : Nat) (a0 : List UInt8) (a1 : Int) : fsem (D := D) (T_144 N) N yc_144 rs_144 [.str a0, .int .u8 a1] .leaf 0 K_144 = F_144 N a0 a1 := by kernel_rfl
theorem TO_144 (hkn : HkS hk) (N : Nat) : TblOk Tryz.prog hk V (T_144 N) := tblOf_ok (tok0)
theorem law_144 (hkn : HkS hk) {N : Nat} (a0 : List UInt8) (a1 : Int) {r : Int} (h : F_144 N a0 a1 = some r) (B : Bt D) (m : Nat) : FunS Tryz.prog hk V 144 [.str a0, .int .u8 a1] B m [] (O_144 r) B m :=
  fun_pure (TO_144 hkn N) cf_144 (hkn.no 144 rfl) (Nat.le_of_ble_eq_true rfl) (noO rfl) (.cons _ _ (.str _) (.cons _ _ (.int _ _) .nil)) (K := K_144) (by rw [FE_144]; exact h) (KO_144 r) (.int _ _) B m
def ent_144 (N : Nat) : List (PV D) → Bt D → Nat → CallR D := fun args _ _ => match args with
  | [.str a0, .int .u8 a1] => .opt (Int) (F_144 N a0 a1) default (fun r => O_144 r)
  | _ => .bad
theorem ent_144_ok (hkn : HkS hk) (N : Nat) (args : List (PV D)) (B : Bt D) (m : Nat) : CallOk Tryz.prog hk V 144 args B m (ent_144 N args B m) := by
  unfold ent_144
  split
  · intro r hr; exact law_144 hkn _ _ hr B m
  · trivial
def yc_147 : YC := ycOf Tryz.prog 147 [[((.tmp 5), (.int .i64))]]
def rs_147 : List RV := [.t 4]
theorem cf_147 : compF Tryz.prog 147 [[((.tmp 5), (.int .i64))]] = some (yc_147, rs_147, 17) := by kernel_rfl
def K_147 : PV D → Y D → Option (Bool) := fun v _ => match v with
  | .bool q0 => some q0
  | _ => none
def O_147 (r : Bool) : PV D := .bool r
theorem KO_147 (r : Bool) (v : PV D) (st : Y D) (h : K_147 v st = some r) : v = O_147 r := by
  unfold K_147 at h
  split at h <;> first | (cases h; rfl) | (cases h)
def T_147 (N : Nat) : Tbl D := tblOf []
theorem FE_147 (N : Nat) (a0 : List UInt8) (a1 : Int) : fsem (D := D) (T_147 N) N yc_147 rs_147 [.str a0, .int .u8 a1] .leaf 0 K_147 = F_147 N a0 a1 := by kernel_rfl
theorem TO_147 (hkn : HkS hk) (N : Nat) : TblOk Tryz.prog hk V (T_147 N) := tblOf_ok (tok0)
theorem law_147 (hkn : HkS hk) {N : Nat} (a0 : List UInt8) (a1 : Int) {r : Bool} (h : F_147 N a0 a1 = some r) (B : Bt D) (m : Nat) : FunS Tryz.prog hk V 147 [.str a0, .int .u8 a1] B m [] (O_147 r) B m :=
  fun_pure (TO_147 hkn N) cf_147 (hkn.no 147 rfl) (Nat.le_of_ble_eq_true rfl) (noO rfl) (.cons _ _ (.str _) (.cons _ _ (.int _ _) .nil)) (K := K_147) (by rw [FE_147]; exact h) (KO_147 r) (.bool _) B m
def ent_147 (N : Nat) : List (PV D) → Bt D → Nat → CallR D := fun args _ _ => match args with
  | [.str a0, .int .u8 a1] => .opt (Bool) (F_147 N a0 a1) default (fun r => O_147 r)
  | _ => .bad
theorem ent_147_ok (hkn : HkS hk) (N : Nat) (args : List (PV D)) (B : Bt D) (m : Nat) : CallOk Tryz.prog hk V 147 args B m (ent_147 N args B m) := by
  unfold ent_147
  split
  · intro r hr; exact law_147 hkn _ _ hr B m
  · trivial
def yc_183 : YC := ycOf Tryz.prog 183 [[((.tmp 5), (.rowI 5 .u8)), ((.tmp 6), (.int .i64))]]
def rs_183 : List RV := [.t 4]
theorem cf_183 : compF Tryz.prog 183 [[((.tmp 5), (.rowI 5 .u8)), ((.tmp 6), (.int .i64))]] = some (yc_183, rs_183, 19) := by kernel_rfl
def K_183 : PV D → Y D → Option (List UInt8) := fun v _ => match v with
  | .str q0 => some q0
  | _ => none
def O_183 (r : List UInt8) : PV D := .str r
theorem KO_183 (r : List UInt8) (v : PV D) (st : Y D) (h : K_183 v st = some r) : v = O_183 r := by
  unfold K_183 at h
  split at h <;> first | (cases h; rfl) | (cases h)
def T_183 (N : Nat) : Tbl D := tblOf []
theorem FE_183 (N : Nat) (a0 : Int) (a1 : Int) : fsem (D := D) (T_183 N) N yc_183 rs_183 [.int .u8 a0, .int .i64 a1] .leaf 0 K_183 = F_183 N a0 a1 := by kernel_rfl
theorem TO_183 (hkn : HkS hk) (N : Nat) : TblOk Tryz.prog hk V (T_183 N) := tblOf_ok (tok0)
theorem law_183 (hkn : HkS hk) {N : Nat} (a0 : Int) (a1 : Int) {r : List UInt8} (h : F_183 N a0 a1 = some r) (B : Bt D) (m : Nat) : FunS Tryz.prog hk V 183 [.int .u8 a0, .int .i64 a1] B m [] (O_183 r) B m :=
  fun_pure (TO_183 hkn N) cf_183 (hkn.no 183 rfl) (Nat.le_of_ble_eq_true rfl) (noO rfl) (.cons _ _ (.int _ _) (.cons _ _ (.int _ _) .nil)) (K := K_183) (by rw [FE_183]; exact h) (KO_183 r) (.str _) B m
def ent_183 (N : Nat) : List (PV D) → Bt D → Nat → CallR D := fun args _ _ => match args with
  | [.int .u8 a0, .int .i64 a1] => .opt (List UInt8) (F_183 N a0 a1) default (fun r => O_183 r)
  | _ => .bad
theorem ent_183_ok (hkn : HkS hk) (N : Nat) (args : List (PV D)) (B : Bt D) (m : Nat) : CallOk Tryz.prog hk V 183 args B m (ent_183 N args B m) := by
  unfold ent_183
  split
  · intro r hr; exact law_183 hkn _ _ hr B m
  · trivial
def yc_181 : YC := ycOf Tryz.prog 181 []
def rs_181 : List RV := [.t 2]
theorem cf_181 : compF Tryz.prog 181 [] = some (yc_181, rs_181, 13) := by kernel_rfl
def K_181 : PV D → Y D → Option (Int) := fun v _ => match v with
  | .int .u8 q0 => some q0
  | _ => none
def O_181 (r : Int) : PV D := .int .u8 r
theorem KO_181 (r : Int) (v : PV D) (st : Y D) (h : K_181 v st = some r) : v = O_181 r := by
  unfold K_181 at h
  split at h <;> first | (cases h; rfl) | (cases h)
def T_181 (N : Nat) : Tbl D := tblOf []
theorem FE_181 (N : Nat) (a0 : Int) : fsem (D := D) (T_181 N) N yc_181 rs_181 [.int .u8 a0] .leaf 0 K_181 = F_181 N a0 := by kernel_rfl
theorem TO_181 (hkn : HkS hk) (N : Nat) : TblOk Tryz.prog hk V (T_181 N) := tblOf_ok (tok0)
theorem law_181 (hkn : HkS hk) {N : Nat} (a0 : Int) {r : Int} (h : F_181 N a0 = some r) (B : Bt D) (m : Nat) : FunS Tryz.prog hk V 181 [.int .u8 a0] B m [] (O_181 r) B m :=
  fun_pure (TO_181 hkn N) cf_181 (hkn.no 181 rfl) (Nat.le_of_ble_eq_true rfl) (noO rfl) (.cons _ _ (.int _ _) .nil) (K := K_181) (by rw [FE_181]; exact h) (KO_181 r) (.int _ _) B m
def ent_181 (N : Nat) : List (PV D) → Bt D → Nat → CallR D := fun args _ _ => match args with
  | [.int .u8 a0] => .opt (Int) (F_181 N a0) default (fun r => O_181 r)
  | _ => .bad
theorem ent_181_ok (hkn : HkS hk) (N : Nat) (args : List (PV D)) (B : Bt D) (m : Nat) : CallOk Tryz.prog hk V 181 args B m (ent_181 N args B m) := by
  unfold ent_181
  split
  · intro r hr; exact law_181 hkn _ hr B m
  · trivial
def yc_184 : YC := ycOf Tryz.prog 184 []
def rs_184 : List RV := [.t 2]
theorem cf_184 : compF Tryz.prog 184 [] = some (yc_184, rs_184, 22) := by kernel_rfl
def K_184 : PV D → Y D → Option (Bool) := fun v _ => match v with
  | .bool q0 => some q0
  | _ => none
def O_184 (r : Bool) : PV D := .bool r
theorem KO_184 (r : Bool) (v : PV D) (st : Y D) (h : K_184 v st = some r) : v = O_184 r := by
  unfold K_184 at h
  split at h <;> first | (cases h; rfl) | (cases h)
def T_184 (N : Nat) : Tbl D := tblOf []
theorem FE_184 (N : Nat) (a0 : List UInt8) : fsem (D := D) (T_184 N) N yc_184 rs_184 [.str a0] .leaf 0 K_184 = F_184 N a0 := by kernel_rfl
theorem TO_184 (hkn : HkS hk) (N : Nat) : TblOk Tryz.prog hk V (T_184 N) := tblOf_ok (tok0)
theorem law_184 (hkn : HkS hk) {N : Nat} (a0 : List UInt8) {r : Bool} (h : F_184 N a0 = some r) (B : Bt D) (m : Nat) : FunS Tryz.prog hk V 184 [.str a0] B m [] (O_184 r) B m :=
  fun_pure (TO_184 hkn N) cf_184 (hkn.no 184 rfl) (Nat.le_of_ble_eq_true rfl) (noO rfl) (.cons _ _ (.str _) .nil) (K := K_184) (by rw [FE_184]; exact h) (KO_184 r) (.bool _) B m
def ent_184 (N : Nat) : List (PV D) → Bt D → Nat → CallR D := fun args _ _ => match args with
  | [.str a0] => .opt (Bool) (F_184 N a0) default (fun r => O_184 r)
  | _ => .bad
theorem ent_184_ok (hkn : HkS hk) (N : Nat) (args : List (PV D)) (B : Bt D) (m : Nat) : CallOk Tryz.prog hk V 184 args B m (ent_184 N args B m) := by
  unfold ent_184
  split
  · intro r hr; exact law_184 hkn _ hr B m
  · trivial
def yc_188 : YC := ycOf Tryz.prog 188 [[((.tmp 3), (.int .i64))]]
def rs_188 : List RV := [.t 2]
theorem cf_188 : compF Tryz.prog 188 [[((.tmp 3), (.int .i64))]] = some (yc_188, rs_188, 25) := by kernel_rfl
def K_188 : PV D → Y D → Option (Int) := fun v _ => match v with
  | .int .u8 q0 => some q0
  | _ => none
def O_188 (r : Int) : PV D := .int .u8 r
theorem KO_188 (r : Int) (v : PV D) (st : Y D) (h : K_188 v st = some r) : v = O_188 r := by
  unfold K_188 at h
  split at h <;> first | (cases h; rfl) | (cases h)
def T_188 (N : Nat) : Tbl D := tblOf [(144, ent_144 N), (147, ent_147 N)]
theorem FE_188 (N : Nat) (a0 : List UInt8) : fsem (D := D) (T_188 N) N yc_188 rs_188 [.str a0] .leaf 0 K_188 = F_188 N a0 := by kernel_rfl
theorem TO_188 (hkn : HkS hk) (N : Nat) : TblOk Tryz.prog hk V (T_188 N) := tblOf_ok (tok1 (ent_144_ok hkn N) (tok1 (ent_147_ok hkn N) (tok0)))
theorem law_188 (hkn : HkS hk) {N : Nat} (a0 : List UInt8) {r : Int} (h : F_188 N a0 = some r) (B : Bt D) (m : Nat) : FunS Tryz.prog hk V 188 [.str a0] B m [] (O_188 r) B m :=
  fun_pure (TO_188 hkn N) cf_188 (hkn.no 188 rfl) (Nat.le_of_ble_eq_true rfl) (noO rfl) (.cons _ _ (.str _) .nil) (K := K_188) (by rw [FE_188]; exact h) (KO_188 r) (.int _ _) B m
def ent_188 (N : Nat) : List (PV D) → Bt D → Nat → CallR D := fun args _ _ => match args with
  | [.str a0] => .opt (Int) (F_188 N a0) default (fun r => O_188 r)
  | _ => .bad
theorem ent_188_ok (hkn : HkS hk) (N : Nat) (args : List (PV D)) (B : Bt D) (m : Nat) : CallOk Tryz.prog hk V 188 args B m (ent_188 N args B m) := by
  unfold ent_188
  split
  · intro r hr; exact law_188 hkn _ hr B m
  · trivial
def yc_146 : YC := ycOf Tryz.prog 146 [[((.tmp 5), (.rowI 5 .u8)), ((.tmp 6), .bool), ((.tmp 7), (.int .i64))]]
def rs_146 : List RV := [.t 2]
theorem cf_146 : compF Tryz.prog 146 [[((.tmp 5), (.rowI 5 .u8)), ((.tmp 6), .bool), ((.tmp 7), (.int .i64))]] = some (yc_146, rs_146, 73) := by kernel_rfl
def K_146 : PV D → Y D → Option (List UInt8) := fun v _ => match v with
  | .str q0 => some q0
  | _ => none
def O_146 (r : List UInt8) : PV D := .str r
theorem KO_146 (r : List UInt8) (v : PV D) (st : Y D) (h : K_146 v st = some r) : v = O_146 r := by
  unfold K_146 at h
  split at h <;> first | (cases h; rfl) | (cases h)
def T_146 (N : Nat) : Tbl D := tblOf [(147, ent_147 N), (184, ent_184 N), (188, ent_188 N)]
theorem FE_146 (N : Nat) (a0 : List UInt8) : fsem (D := D) (T_146 N) N yc_146 rs_146 [.str a0] .leaf 0 K_146 = F_146 N a0 := by kernel_rfl
theorem TO_146 (hkn : HkS hk) (N : Nat) : TblOk Tryz.prog hk V (T_146 N) := tblOf_ok (tok1 (ent_147_ok hkn N) (tok1 (ent_184_ok hkn N) (tok1 (ent_188_ok hkn N) (tok0))))
theorem law_146 (hkn : HkS hk) {N : Nat} (a0 : List UInt8) {r : List UInt8} (h : F_146 N a0 = some r) (B : Bt D) (m : Nat) : FunS Tryz.prog hk V 146 [.str a0] B m [] (O_146 r) B m :=
  fun_pure (TO_146 hkn N) cf_146 (hkn.no 146 rfl) (Nat.le_of_ble_eq_true rfl) (noO rfl) (.cons _ _ (.str _) .nil) (K := K_146) (by rw [FE_146]; exact h) (KO_146 r) (.str _) B m
def ent_146 (N : Nat) : List (PV D) → Bt D → Nat → CallR D := fun args _ _ => match args with
  | [.str a0] => .opt (List UInt8) (F_146 N a0) default (fun r => O_146 r)
  | _ => .bad
theorem ent_146_ok (hkn : HkS hk) (N : Nat) (args : List (PV D)) (B : Bt D) (m : Nat) : CallOk Tryz.prog hk V 146 args B m (ent_146 N args B m) := by
  unfold ent_146
  split
  · intro r hr; exact law_146 hkn _ hr B m
  · trivial
def yc_185 : YC := ycOf Tryz.prog 185 [[((.tmp 4), (.int .i64)), ((.tmp 5), (.int .i64)), ((.tmp 6), (.int .i64))], [((.tmp 7), (.int .i64))]]
def rs_185 : List RV := [.t 2]
theorem cf_185 : compF Tryz.prog 185 [[((.tmp 4), (.int .i64)), ((.tmp 5), (.int .i64)), ((.tmp 6), (.int .i64))], [((.tmp 7), (.int .i64))]] = some (yc_185, rs_185, 70) := by kernel_rfl
def K_185 : PV D → Y D → Option (Bool) := fun v _ => match v with
  | .bool q0 => some q0
  | _ => none
def O_185 (r : Bool) : PV D := .bool r
theorem KO_185 (r : Bool) (v : PV D) (st : Y D) (h : K_185 v st = some r) : v = O_185 r := by
  unfold K_185 at h
  split at h <;> first | (cases h; rfl) | (cases h)
def T_185 (N : Nat) : Tbl D := tblOf [(144, ent_144 N), (147, ent_147 N), (188, ent_188 N)]
theorem FE_185 (N : Nat) (a0 : List UInt8) : fsem (D := D) (T_185 N) N yc_185 rs_185 [.str a0] .leaf 0 K_185 = F_185 N a0 := by kernel_rfl
theorem TO_185 (hkn : HkS hk) (N : Nat) : TblOk Tryz.prog hk V (T_185 N) := tblOf_ok (tok1 (ent_144_ok hkn N) (tok1 (ent_147_ok hkn N) (tok1 (ent_188_ok hkn N) (tok0))))
theorem law_185 (hkn : HkS hk) {N : Nat} (a0 : List UInt8) {r : Bool} (h : F_185 N a0 = some r) (B : Bt D) (m : Nat) : FunS Tryz.prog hk V 185 [.str a0] B m [] (O_185 r) B m :=
  fun_pure (TO_185 hkn N) cf_185 (hkn.no 185 rfl) (Nat.le_of_ble_eq_true rfl) (noO rfl) (.cons _ _ (.str _) .nil) (K := K_185) (by rw [FE_185]; exact h) (KO_185 r) (.bool _) B m
def ent_185 (N : Nat) : List (PV D) → Bt D → Nat → CallR D := fun args _ _ => match args with
  | [.str a0] => .opt (Bool) (F_185 N a0) default (fun r => O_185 r)
  | _ => .bad
theorem ent_185_ok (hkn : HkS hk) (N : Nat) (args : List (PV D)) (B : Bt D) (m : Nat) : CallOk Tryz.prog hk V 185 args B m (ent_185 N args B m) := by
  unfold ent_185
  split
  · intro r hr; exact law_185 hkn _ hr B m
  · trivial
def yc_186 : YC := ycOf Tryz.prog 186 [[((.tmp 5), .bool), ((.tmp 6), .bool), ((.tmp 7), .bool), ((.tmp 8), (.int .i64)), ((.tmp 9), (.int .i64))]]
def rs_186 : List RV := [.t 4]
theorem cf_186 : compF Tryz.prog 186 [[((.tmp 5), .bool), ((.tmp 6), .bool), ((.tmp 7), .bool), ((.tmp 8), (.int .i64)), ((.tmp 9), (.int .i64))]] = some (yc_186, rs_186, 67) := by kernel_rfl
def K_186 : PV D → Y D → Option (Bool) := fun v _ => match v with
  | .bool q0 => some q0
  | _ => none
def O_186 (r : Bool) : PV D := .bool r
theorem KO_186 (r : Bool) (v : PV D) (st : Y D) (h : K_186 v st = some r) : v = O_186 r := by
  unfold K_186 at h
  split at h <;> first | (cases h; rfl) | (cases h)
def T_186 (N : Nat) : Tbl D := tblOf [(147, ent_147 N), (188, ent_188 N)]
theorem FE_186 (N : Nat) (a0 : List UInt8) (a1 : List UInt8) : fsem (D := D) (T_186 N) N yc_186 rs_186 [.str a0, .str a1] .leaf 0 K_186 = F_186 N a0 a1 := by kernel_rfl
theorem TO_186 (hkn : HkS hk) (N : Nat) : TblOk Tryz.prog hk V (T_186 N) := tblOf_ok (tok1 (ent_147_ok hkn N) (tok1 (ent_188_ok hkn N) (tok0)))
theorem law_186 (hkn : HkS hk) {N : Nat} (a0 : List UInt8) (a1 : List UInt8) {r : Bool} (h : F_186 N a0 a1 = some r) (B : Bt D) (m : Nat) : FunS Tryz.prog hk V 186 [.str a0, .str a1] B m [] (O_186 r) B m :=
  fun_pure (TO_186 hkn N) cf_186 (hkn.no 186 rfl) (Nat.le_of_ble_eq_true rfl) (noO rfl) (.cons _ _ (.str _) (.cons _ _ (.str _) .nil)) (K := K_186) (by rw [FE_186]; exact h) (KO_186 r) (.bool _) B m
def ent_186 (N : Nat) : List (PV D) → Bt D → Nat → CallR D := fun args _ _ => match args with
  | [.str a0, .str a1] => .opt (Bool) (F_186 N a0 a1) default (fun r => O_186 r)
  | _ => .bad
theorem ent_186_ok (hkn : HkS hk) (N : Nat) (args : List (PV D)) (B : Bt D) (m : Nat) : CallOk Tryz.prog hk V 186 args B m (ent_186 N args B m) := by
  unfold ent_186
  split
  · intro r hr; exact law_186 hkn _ _ hr B m
  · trivial
def yc_145 : YC := ycOf Tryz.prog 145 [[((.tmp 4), (.int .i64)), ((.tmp 5), (.int .i64))]]
def rs_145 : List RV := [.t 2]
theorem cf_145 : compF Tryz.prog 145 [[((.tmp 4), (.int .i64)), ((.tmp 5), (.int .i64))]] = some (yc_145, rs_145, 34) := by kernel_rfl
def K_145 : PV D → Y D → Option (Int) := fun v _ => match v with
  | .int .i64 q0 => some q0
  | _ => none
def O_145 (r : Int) : PV D := .int .i64 r
theorem KO_145 (r : Int) (v : PV D) (st : Y D) (h : K_145 v st = some r) : v = O_145 r := by
  unfold K_145 at h
  split at h <;> first | (cases h; rfl) | (cases h)
def T_145 (N : Nat) : Tbl D := tblOf [(144, ent_144 N), (147, ent_147 N), (184, ent_184 N)]
theorem FE_145 (N : Nat) (a0 : List UInt8) : fsem (D := D) (T_145 N) N yc_145 rs_145 [.str a0] .leaf 0 K_145 = F_145 N a0 := by kernel_rfl
theorem TO_145 (hkn : HkS hk) (N : Nat) : TblOk Tryz.prog hk V (T_145 N) := tblOf_ok (tok1 (ent_144_ok hkn N) (tok1 (ent_147_ok hkn N) (tok1 (ent_184_ok hkn N) (tok0))))
theorem law_145 (hkn : HkS hk) {N : Nat} (a0 : List UInt8) {r : Int} (h : F_145 N a0 = some r) (B : Bt D) (m : Nat) : FunS Tryz.prog hk V 145 [.str a0] B m [] (O_145 r) B m :=
  fun_pure (TO_145 hkn N) cf_145 (hkn.no 145 rfl) (Nat.le_of_ble_eq_true rfl) (noO rfl) (.cons _ _ (.str _) .nil) (K := K_145) (by rw [FE_145]; exact h) (KO_145 r) (.int _ _) B m
def ent_145 (N : Nat) : List (PV D) → Bt D → Nat → CallR D := fun args _ _ => match args with
  | [.str a0] => .opt (Int) (F_145 N a0) default (fun r => O_145 r)
  | _ => .bad
theorem ent_145_ok (hkn : HkS hk) (N : Nat) (args : List (PV D)) (B : Bt D) (m : Nat) : CallOk Tryz.prog hk V 145 args B m (ent_145 N args B m) := by
  unfold ent_145
  split
  · intro r hr; exact law_145 hkn _ hr B m
  · trivial
def yc_187 : YC := ycOf Tryz.prog 187 [[((.tmp 6), (.int .i64))], [((.tmp 7), .bool), ((.tmp 8), .bool), ((.tmp 9), (.int .i64))]]
def rs_187 : List RV := [.t 4]
theorem cf_187 : compF Tryz.prog 187 [[((.tmp 6), (.int .i64))], [((.tmp 7), .bool), ((.tmp 8), .bool), ((.tmp 9), (.int .i64))]] = some (yc_187, rs_187, 69) := by kernel_rfl
def K_187 : PV D → Y D → Option (Bool) := fun v _ => match v with
  | .bool q0 => some q0
  | _ => none
def O_187 (r : Bool) : PV D := .bool r
theorem KO_187 (r : Bool) (v : PV D) (st : Y D) (h : K_187 v st = some r) : v = O_187 r := by
  unfold K_187 at h
  split at h <;> first | (cases h; rfl) | (cases h)
def T_187 (N : Nat) : Tbl D := tblOf [(147, ent_147 N), (188, ent_188 N)]
theorem FE_187 (N : Nat) (a0 : List UInt8) (a1 : List UInt8) : fsem (D := D) (T_187 N) N yc_187 rs_187 [.str a0, .str a1] .leaf 0 K_187 = F_187 N a0 a1 := by kernel_rfl
theorem TO_187 (hkn : HkS hk) (N : Nat) : TblOk Tryz.prog hk V (T_187 N) := tblOf_ok (tok1 (ent_147_ok hkn N) (tok1 (ent_188_ok hkn N) (tok0)))
theorem law_187 (hkn : HkS hk) {N : Nat} (a0 : List UInt8) (a1 : List UInt8) {r : Bool} (h : F_187 N a0 a1 = some r) (B : Bt D) (m : Nat) : FunS Tryz.prog hk V 187 [.str a0, .str a1] B m [] (O_187 r) B m :=
  fun_pure (TO_187 hkn N) cf_187 (hkn.no 187 rfl) (Nat.le_of_ble_eq_true rfl) (noO rfl) (.cons _ _ (.str _) (.cons _ _ (.str _) .nil)) (K := K_187) (by rw [FE_187]; exact h) (KO_187 r) (.bool _) B m
def ent_187 (N : Nat) : List (PV D) → Bt D → Nat → CallR D := fun args _ _ => match args with
  | [.str a0, .str a1] => .opt (Bool) (F_187 N a0 a1) default (fun r => O_187 r)
  | _ => .bad
theorem ent_187_ok (hkn : HkS hk) (N : Nat) (args : List (PV D)) (B : Bt D) (m : Nat) : CallOk Tryz.prog hk V 187 args B m (ent_187 N args B m) := by
  unfold ent_187
  split
  · intro r hr; exact law_187 hkn _ _ hr B m
  · trivial
def yc_142 : YC := ycOf Tryz.prog 142 [[((.tmp 3), (.int .i64))]]
def rs_142 : List RV := [.t 2]
theorem cf_142 : compF Tryz.prog 142 [[((.tmp 3), (.int .i64))]] = some (yc_142, rs_142, 21) := by kernel_rfl
def K_142 : PV D → Y D → Option (Bool) := fun v _ => match v with
  | .bool q0 => some q0
  | _ => none
def O_142 (r : Bool) : PV D := .bool r
theorem KO_142 (r : Bool) (v : PV D) (st : Y D) (h : K_142 v st = some r) : v = O_142 r := by
  unfold K_142 at h
  split at h <;> first | (cases h; rfl) | (cases h)
def T_142 (N : Nat) : Tbl D := tblOf [(147, ent_147 N)]
theorem FE_142 (N : Nat) (a0 : List UInt8) : fsem (D := D) (T_142 N) N yc_142 rs_142 [.str a0] .leaf 0 K_142 = F_142 N a0 := by kernel_rfl
theorem TO_142 (hkn : HkS hk) (N : Nat) : TblOk Tryz.prog hk V (T_142 N) := tblOf_ok (tok1 (ent_147_ok hkn N) (tok0))
theorem law_142 (hkn : HkS hk) {N : Nat} (a0 : List UInt8) {r : Bool} (h : F_142 N a0 = some r) (B : Bt D) (m : Nat) : FunS Tryz.prog hk V 142 [.str a0] B m [] (O_142 r) B m :=
  fun_pure (TO_142 hkn N) cf_142 (hkn.no 142 rfl) (Nat.le_of_ble_eq_true rfl) (noO rfl) (.cons _ _ (.str _) .nil) (K := K_142) (by rw [FE_142]; exact h) (KO_142 r) (.bool _) B m
def ent_142 (N : Nat) : List (PV D) → Bt D → Nat → CallR D := fun args _ _ => match args with
  | [.str a0] => .opt (Bool) (F_142 N a0) default (fun r => O_142 r)
  | _ => .bad
theorem ent_142_ok (hkn : HkS hk) (N : Nat) (args : List (PV D)) (B : Bt D) (m : Nat) : CallOk Tryz.prog hk V 142 args B m (ent_142 N args B m) := by
  unfold ent_142
  split
  · intro r hr; exact law_142 hkn _ hr B m
  · trivial
def yc_143 : YC := ycOf Tryz.prog 143 [[((.tmp 4), (.int .i64))]]
def rs_143 : List RV := [.t 2]
theorem cf_143 : compF Tryz.prog 143 [[((.tmp 4), (.int .i64))]] = some (yc_143, rs_143, 50) := by kernel_rfl
def K_143 : PV D → Y D → Option (Bool) := fun v _ => match v with
  | .bool q0 => some q0
  | _ => none
def O_143 (r : Bool) : PV D := .bool r
theorem KO_143 (r : Bool) (v : PV D) (st : Y D) (h : K_143 v st = some r) : v = O_143 r := by
  unfold K_143 at h
  split at h <;> first | (cases h; rfl) | (cases h)
def T_143 (N : Nat) : Tbl D := tblOf [(142, ent_142 N), (144, ent_144 N), (145, ent_145 N), (146, ent_146 N), (147, ent_147 N), (184, ent_184 N), (185, ent_185 N), (186, ent_186 N), (187, ent_187 N)]
theorem FE_143 (N : Nat) (a0 : List UInt8) : fsem (D := D) (T_143 N) N yc_143 rs_143 [.str a0] .leaf 0 K_143 = F_143 N a0 := by kernel_rfl
theorem TO_143 (hkn : HkS hk) (N : Nat) : TblOk Tryz.prog hk V (T_143 N) := tblOf_ok (tok1 (ent_142_ok hkn N) (tok1 (ent_144_ok hkn N) (tok1 (ent_145_ok hkn N) (tok1 (ent_146_ok hkn N) (tok1 (ent_147_ok hkn N) (tok1 (ent_184_ok hkn N) (tok1 (ent_185_ok hkn N) (tok1 (ent_186_ok hkn N) (tok1 (ent_187_ok hkn N) (tok0))))))))))
theorem law_143 (hkn : HkS hk) {N : Nat} (a0 : List UInt8) {r : Bool} (h : F_143 N a0 = some r) (B : Bt D) (m : Nat) : FunS Tryz.prog hk V 143 [.str a0] B m [] (O_143 r) B m :=
  fun_pure (TO_143 hkn N) cf_143 (hkn.no 143 rfl) (Nat.le_of_ble_eq_true rfl) (noO rfl) (.cons _ _ (.str _) .nil) (K := K_143) (by rw [FE_143]; exact h) (KO_143 r) (.bool _) B m
def ent_143 (N : Nat) : List (PV D) → Bt D → Nat → CallR D := fun args _ _ => match args with
  | [.str a0] => .opt (Bool) (F_143 N a0) default (fun r => O_143 r)
  | _ => .bad
theorem ent_143_ok (hkn : HkS hk) (N : Nat) (args : List (PV D)) (B : Bt D) (m : Nat) : CallOk Tryz.prog hk V 143 args B m (ent_143 N args B m) := by
  unfold ent_143
  split
  · intro r hr; exact law_143 hkn _ hr B m
  · trivial
def yc_182 : YC := ycOf Tryz.prog 182 [[((.tmp 6), (.int .i64)), ((.tmp 7), (.int .i64))]]
def rs_182 : List RV := [.t 4, .t 5]
theorem cf_182 : compF Tryz.prog 182 [[((.tmp 6), (.int .i64)), ((.tmp 7), (.int .i64))]] = some (yc_182, rs_182, 58) := by kernel_rfl
def K_182 : PV D → Y D → Option (Int × Int) := fun v _ => match v with
  | .tup [.int .i64 q0, .int .i64 q1] => some (q0, q1)
  | _ => none
def O_182 (r : Int × Int) : PV D := .tup [.int .i64 r.1, .int .i64 r.2]
theorem KO_182 (r : Int × Int) (v : PV D) (st : Y D) (h : K_182 v st = some r) : v = O_182 r := by
  unfold K_182 at h
  split at h <;> first | (cases h; rfl) | (cases h)
def T_182 (N : Nat) : Tbl D := tblOf []
theorem FE_182 (N : Nat) (a0 : List UInt8) (a1 : Int) : fsem (D := D) (T_182 N) N yc_182 rs_182 [.str a0, .int .i64 a1] .leaf 0 K_182 = F_182 N a0 a1 := by kernel_rfl
theorem TO_182 (hkn : HkS hk) (N : Nat) : TblOk Tryz.prog hk V (T_182 N) := tblOf_ok (tok0)
theorem law_182 (hkn : HkS hk) {N : Nat} (a0 : List UInt8) (a1 : Int) {r : Int × Int} (h : F_182 N a0 a1 = some r) (B : Bt D) (m : Nat) : FunS Tryz.prog hk V 182 [.str a0, .int .i64 a1] B m [] (O_182 r) B m :=
  fun_pure (TO_182 hkn N) cf_182 (hkn.no 182 rfl) (Nat.le_of_ble_eq_true rfl) (noO rfl) (.cons _ _ (.str _) (.cons _ _ (.int _ _) .nil)) (K := K_182) (by rw [FE_182]; exact h) (KO_182 r) (.tup _ (.cons _ _ (.int _ _) (.cons _ _ (.int _ _) .nil))) B m
def ent_182 (N : Nat) : List (PV D) → Bt D → Nat → CallR D := fun args _ _ => match args with
  | [.str a0, .int .i64 a1] => .opt (Int × Int) (F_182 N a0 a1) default (fun r => O_182 r)
  | _ => .bad
theorem ent_182_ok (hkn : HkS hk) (N : Nat) (args : List (PV D)) (B : Bt D) (m : Nat) : CallOk Tryz.prog hk V 182 args B m (ent_182 N args B m) := by
  unfold ent_182
  split
  · intro r hr; exact law_182 hkn _ _ hr B m
  · trivial
def yc_141 : YC := ycOf Tryz.prog 141 [[((.tmp 4), .str), ((.tmp 5), (.int .i64))]]
def rs_141 : List RV := [.t 2, .t 3]
theorem cf_141 : compF Tryz.prog 141 [[((.tmp 4), .str), ((.tmp 5), (.int .i64))]] = some (yc_141, rs_141, 55) := by kernel_rfl
def K_141 : PV D → Y D → Option (List UInt8 × Int) := fun v _ => match v with
  | .tup [.str q0, .int .i64 q1] => some (q0, q1)
  | _ => none
def O_141 (r : List UInt8 × Int) : PV D := .tup [.str r.1, .int .i64 r.2]
theorem KO_141 (r : List UInt8 × Int) (v : PV D) (st : Y D) (h : K_141 v st = some r) : v = O_141 r := by
  unfold K_141 at h
  split at h <;> first | (cases h; rfl) | (cases h)
def T_141 (N : Nat) : Tbl D := tblOf [(147, ent_147 N), (181, ent_181 N), (182, ent_182 N), (183, ent_183 N)]
theorem FE_141 (N : Nat) (a0 : List UInt8) : fsem (D := D) (T_141 N) N yc_141 rs_141 [.str a0] .leaf 0 K_141 = F_141 N a0 := by kernel_rfl
theorem TO_141 (hkn : HkS hk) (N : Nat) : TblOk Tryz.prog hk V (T_141 N) := tblOf_ok (tok1 (ent_147_ok hkn N) (tok1 (ent_181_ok hkn N) (tok1 (ent_182_ok hkn N) (tok1 (ent_183_ok hkn N) (tok0)))))
theorem law_141 (hkn : HkS hk) {N : Nat} (a0 : List UInt8) {r : List UInt8 × Int} (h : F_141 N a0 = some r) (B : Bt D) (m : Nat) : FunS Tryz.prog hk V 141 [.str a0] B m [] (O_141 r) B m :=
  fun_pure (TO_141 hkn N) cf_141 (hkn.no 141 rfl) (Nat.le_of_ble_eq_true rfl) (noO rfl) (.cons _ _ (.str _) .nil) (K := K_141) (by rw [FE_141]; exact h) (KO_141 r) (.tup _ (.cons _ _ (.str _) (.cons _ _ (.int _ _) .nil))) B m
def ent_141 (N : Nat) : List (PV D) → Bt D → Nat → CallR D := fun args _ _ => match args with
  | [.str a0] => .opt (List UInt8 × Int) (F_141 N a0) default (fun r => O_141 r)
  | _ => .bad
theorem ent_141_ok (hkn : HkS hk) (N : Nat) (args : List (PV D)) (B : Bt D) (m : Nat) : CallOk Tryz.prog hk V 141 args B m (ent_141 N args B m) := by
  unfold ent_141
  split
  · intro r hr; exact law_141 hkn _ hr B m
  · trivial
def yc_58 : YC := ycOf Tryz.prog 58 []
def rs_58 : List RV := [.t 2]
theorem cf_58 : compF Tryz.prog 58 [] = some (yc_58, rs_58, 11) := by kernel_rfl
def K_58 : PV D → Y D → Option (Bool) := fun v _ => match v with
  | .bool q0 => some q0
  | _ => none
def O_58 (r : Bool) : PV D := .bool r
theorem KO_58 (r : Bool) (v : PV D) (st : Y D) (h : K_58 v st = some r) : v = O_58 r := by
  unfold K_58 at h
  split at h <;> first | (cases h; rfl) | (cases h)
def T_58 (N : Nat) : Tbl D := tblOf []
theorem FE_58 (N : Nat) (a0 : Int) (a1 : Int) (a2 : Int) (a3 : Bool) (a4 : List UInt8) : fsem (D := D) (T_58 N) N yc_58 rs_58 [.agg [.int .i64 a0, .int .i64 a1, .int .i64 a2, .bool a3, .str a4]] .leaf 0 K_58 = F_58 N a0 a1 a2 a3 a4 := by kernel_rfl
theorem TO_58 (hkn : HkS hk) (N : Nat) : TblOk Tryz.prog hk V (T_58 N) := tblOf_ok (tok0)
theorem law_58 (hkn : HkS hk) {N : Nat} (a0 : Int) (a1 : Int) (a2 : Int) (a3 : Bool) (a4 : List UInt8) {r : Bool} (h : F_58 N a0 a1 a2 a3 a4 = some r) (B : Bt D) (m : Nat) : FunS Tryz.prog hk V 58 [.agg [.int .i64 a0, .int .i64 a1, .int .i64 a2, .bool a3, .str a4]] B m [] (O_58 r) B m :=
  fun_pure (TO_58 hkn N) cf_58 (hkn.no 58 rfl) (Nat.le_of_ble_eq_true rfl) (noO rfl) (.cons _ _ (.agg _ (.cons _ _ (.int _ _) (.cons _ _ (.int _ _) (.cons _ _ (.int _ _) (.cons _ _ (.bool _) (.cons _ _ (.str _) .nil)))))) .nil) (K := K_58) (by rw [FE_58]; exact h) (KO_58 r) (.bool _) B m
def ent_58 (N : Nat) : List (PV D) → Bt D → Nat → CallR D := fun args _ _ => match args with
  | [.agg [.int .i64 a0, .int .i64 a1, .int .i64 a2, .bool a3, .str a4]] => .opt (Bool) (F_58 N a0 a1 a2 a3 a4) default (fun r => O_58 r)
  | _ => .bad
theorem ent_58_ok (hkn : HkS hk) (N : Nat) (args : List (PV D)) (B : Bt D) (m : Nat) : CallOk Tryz.prog hk V 58 args B m (ent_58 N args B m) := by
  unfold ent_58
  split
  · intro r hr; exact law_58 hkn _ _ _ _ _ hr B m
  · trivial
def yc_128 : YC := ycOf Tryz.prog 128 []
def rs_128 : List RV := [.t 2]
theorem cf_128 : compF Tryz.prog 128 [] = some (yc_128, rs_128, 53) := by kernel_rfl
def K_128 : PV D → Y D → Option (Int) := fun v _ => match v with
  | .int .i64 q0 => some q0
  | _ => none
def O_128 (r : Int) : PV D := .int .i64 r
theorem KO_128 (r : Int) (v : PV D) (st : Y D) (h : K_128 v st = some r) : v = O_128 r := by
  unfold K_128 at h
  split at h <;> first | (cases h; rfl) | (cases h)
def T_128 (N : Nat) : Tbl D := tblOf []
theorem FE_128 (N : Nat) (a0 : Int) (a1 : Int) (a2 : Int) (a3 : Bool) (a4 : List UInt8) : fsem (D := D) (T_128 N) N yc_128 rs_128 [.agg [.int .i64 a0, .int .i64 a1, .int .i64 a2, .bool a3, .str a4]] .leaf 0 K_128 = F_128 N a0 a1 a2 a3 a4 := by kernel_rfl
theorem TO_128 (hkn : HkS hk) (N : Nat) : TblOk Tryz.prog hk V (T_128 N) := tblOf_ok (tok0)
theorem law_128 (hkn : HkS hk) {N : Nat} (a0 : Int) (a1 : Int) (a2 : Int) (a3 : Bool) (a4 : List UInt8) {r : Int} (h : F_128 N a0 a1 a2 a3 a4 = some r) (B : Bt D) (m : Nat) : FunS Tryz.prog hk V 128 [.agg [.int .i64 a0, .int .i64 a1, .int .i64 a2, .bool a3, .str a4]] B m [] (O_128 r) B m :=
  fun_pure (TO_128 hkn N) cf_128 (hkn.no 128 rfl) (Nat.le_of_ble_eq_true rfl) (noO rfl) (.cons _ _ (.agg _ (.cons _ _ (.int _ _) (.cons _ _ (.int _ _) (.cons _ _ (.int _ _) (.cons _ _ (.bool _) (.cons _ _ (.str _) .nil)))))) .nil) (K := K_128) (by rw [FE_128]; exact h) (KO_128 r) (.int _ _) B m
def ent_128 (N : Nat) : List (PV D) → Bt D → Nat → CallR D := fun args _ _ => match args with
  | [.agg [.int .i64 a0, .int .i64 a1, .int .i64 a2, .bool a3, .str a4]] => .opt (Int) (F_128 N a0 a1 a2 a3 a4) default (fun r => O_128 r)
  | _ => .bad
theorem ent_128_ok (hkn : HkS hk) (N : Nat) (args : List (PV D)) (B : Bt D) (m : Nat) : CallOk Tryz.prog hk V 128 args B m (ent_128 N args B m) := by
  unfold ent_128
  split
  · intro r hr; exact law_128 hkn _ _ _ _ _ hr B m
  · trivial
def yc_97 : YC := ycOf Tryz.prog 97 []
def rs_97 : List RV := [.t 2]
theorem cf_97 : compF Tryz.prog 97 [] = some (yc_97, rs_97, 6) := by kernel_rfl
def K_97 : PV D → Y D → Option (Bool) := fun v _ => match v with
  | .bool q0 => some q0
  | _ => none
def O_97 (r : Bool) : PV D := .bool r
theorem KO_97 (r : Bool) (v : PV D) (st : Y D) (h : K_97 v st = some r) : v = O_97 r := by
  unfold K_97 at h
  split at h <;> first | (cases h; rfl) | (cases h)
def T_97 (N : Nat) : Tbl D := tblOf [(128, ent_128 N)]
theorem FE_97 (N : Nat) (a0 : Int) (a1 : Int) (a2 : Int) (a3 : Bool) (a4 : List UInt8) : fsem (D := D) (T_97 N) N yc_97 rs_97 [.agg [.int .i64 a0, .int .i64 a1, .int .i64 a2, .bool a3, .str a4]] .leaf 0 K_97 = F_97 N a0 a1 a2 a3 a4 := by kernel_rfl
theorem TO_97 (hkn : HkS hk) (N : Nat) : TblOk Tryz.prog hk V (T_97 N) := tblOf_ok (tok1 (ent_128_ok hkn N) (tok0))
theorem law_97 (hkn : HkS hk) {N : Nat} (a0 : Int) (a1 : Int) (a2 : Int) (a3 : Bool) (a4 : List UInt8) {r : Bool} (h : F_97 N a0 a1 a2 a3 a4 = some r) (B : Bt D) (m : Nat) : FunS Tryz.prog hk V 97 [.agg [.int .i64 a0, .int .i64 a1, .int .i64 a2, .bool a3, .str a4]] B m [] (O_97 r) B m :=
  fun_pure (TO_97 hkn N) cf_97 (hkn.no 97 rfl) (Nat.le_of_ble_eq_true rfl) (noO rfl) (.cons _ _ (.agg _ (.cons _ _ (.int _ _) (.cons _ _ (.int _ _) (.cons _ _ (.int _ _) (.cons _ _ (.bool _) (.cons _ _ (.str _) .nil)))))) .nil) (K := K_97) (by rw [FE_97]; exact h) (KO_97 r) (.bool _) B m
def ent_97 (N : Nat) : List (PV D) → Bt D → Nat → CallR D := fun args _ _ => match args with
  | [.agg [.int .i64 a0, .int .i64 a1, .int .i64 a2, .bool a3, .str a4]] => .opt (Bool) (F_97 N a0 a1 a2 a3 a4) default (fun r => O_97 r)
  | _ => .bad
theorem ent_97_ok (hkn : HkS hk) (N : Nat) (args : List (PV D)) (B : Bt D) (m : Nat) : CallOk Tryz.prog hk V 97 args B m (ent_97 N args B m) := by
  unfold ent_97
  split
  · intro r hr; exact law_97 hkn _ _ _ _ _ hr B m
  · trivial
def yc_105 : YC := ycOf Tryz.prog 105 [[((.tmp 8), (.int .i64)), ((.cell 1 0), .str), ((.cell 1 1), .bool), ((.cell 1 2), (.int .i64)), ((.cell 1 3), (.int .i64)), ((.cell 1 4), (.int .i64)), ((.cell 1 5), .bool)]]
def rs_105 : List RV := [.c 2 6 true, .t 3]
theorem cf_105 : compF Tryz.prog 105 [[((.tmp 8), (.int .i64)), ((.cell 1 0), .str), ((.cell 1 1), .bool), ((.cell 1 2), (.int .i64)), ((.cell 1 3), (.int .i64)), ((.cell 1 4), (.int .i64)), ((.cell 1 5), .bool)]] = some (yc_105, rs_105, 69) := by kernel_rfl
def K_105 : PV D → Y D → Option ((List UInt8 × Bool × Int × Int × Int × Bool) × Int) := fun v _ => match v with
  | .tup [.agg [.str q0, .bool q1, .int .i64 q2, .int .i64 q3, .int .i64 q4, .bool q5], .int .i64 q6] => some ((q0, q1, q2, q3, q4, q5), q6)
  | _ => none
def O_105 (r : (List UInt8 × Bool × Int × Int × Int × Bool) × Int) : PV D := .tup [.agg [.str r.1.1, .bool r.1.2.1, .int .i64 r.1.2.2.1, .int .i64 r.1.2.2.2.1, .int .i64 r.1.2.2.2.2.1, .bool r.1.2.2.2.2.2], .int .i64 r.2]
theorem KO_105 (r : (List UInt8 × Bool × Int × Int × Int × Bool) × Int) (v : PV D) (st : Y D) (h : K_105 v st = some r) : v = O_105 r := by
  unfold K_105 at h
  split at h <;> first | (cases h; rfl) | (cases h)
def T_105 (N : Nat) : Tbl D := tblOf [(141, ent_141 N), (142, ent_142 N), (143, ent_143 N), (144, ent_144 N), (145, ent_145 N), (146, ent_146 N), (147, ent_147 N)]
theorem FE_105 (N : Nat) (a0 : List UInt8) : fsem (D := D) (T_105 N) N yc_105 rs_105 [.str a0] .leaf 0 K_105 = F_105 N a0 := by kernel_rfl
theorem TO_105 (hkn : HkS hk) (N : Nat) : TblOk Tryz.prog hk V (T_105 N) := tblOf_ok (tok1 (ent_141_ok hkn N) (tok1 (ent_142_ok hkn N) (tok1 (ent_143_ok hkn N) (tok1 (ent_144_ok hkn N) (tok1 (ent_145_ok hkn N) (tok1 (ent_146_ok hkn N) (tok1 (ent_147_ok hkn N) (tok0))))))))
theorem law_105 (hkn : HkS hk) {N : Nat} (a0 : List UInt8) {r : (List UInt8 × Bool × Int × Int × Int × Bool) × Int} (h : F_105 N a0 = some r) (B : Bt D) (m : Nat) : FunS Tryz.prog hk V 105 [.str a0] B m [] (O_105 r) B m :=
  fun_pure (TO_105 hkn N) cf_105 (hkn.no 105 rfl) (Nat.le_of_ble_eq_true rfl) (noO rfl) (.cons _ _ (.str _) .nil) (K := K_105) (by rw [FE_105]; exact h) (KO_105 r) (.tup _ (.cons _ _ (.agg _ (.cons _ _ (.str _) (.cons _ _ (.bool _) (.cons _ _ (.int _ _) (.cons _ _ (.int _ _) (.cons _ _ (.int _ _) (.cons _ _ (.bool _) .nil))))))) (.cons _ _ (.int _ _) .nil))) B m
def ent_105 (N : Nat) : List (PV D) → Bt D → Nat → CallR D := fun args _ _ => match args with
  | [.str a0] => .opt ((List UInt8 × Bool × Int × Int × Int × Bool) × Int) (F_105 N a0) default (fun r => O_105 r)
  | _ => .bad
theorem ent_105_ok (hkn : HkS hk) (N : Nat) (args : List (PV D)) (B : Bt D) (m : Nat) : CallOk Tryz.prog hk V 105 args B m (ent_105 N args B m) := by
  unfold ent_105
  split
  · intro r hr; exact law_105 hkn _ hr B m
  · trivial
def yc_98 : YC := ycOf Tryz.prog 98 []
def rs_98 : List RV := [.t 2]
theorem cf_98 : compF Tryz.prog 98 [] = some (yc_98, rs_98, 11) := by kernel_rfl
def K_98 : PV D → Y D → Option (Int) := fun v _ => match v with
  | .int .i64 q0 => some q0
  | _ => none
def O_98 (r : Int) : PV D := .int .i64 r
theorem KO_98 (r : Int) (v : PV D) (st : Y D) (h : K_98 v st = some r) : v = O_98 r := by
  unfold K_98 at h
  split at h <;> first | (cases h; rfl) | (cases h)
def T_98 (N : Nat) : Tbl D := tblOf [(105, ent_105 N)]
theorem FE_98 (N : Nat) (a0 : List UInt8) : fsem (D := D) (T_98 N) N yc_98 rs_98 [.str a0] .leaf 0 K_98 = F_98 N a0 := by kernel_rfl
theorem TO_98 (hkn : HkS hk) (N : Nat) : TblOk Tryz.prog hk V (T_98 N) := tblOf_ok (tok1 (ent_105_ok hkn N) (tok0))
theorem law_98 (hkn : HkS hk) {N : Nat} (a0 : List UInt8) {r : Int} (h : F_98 N a0 = some r) (B : Bt D) (m : Nat) : FunS Tryz.prog hk V 98 [.str a0] B m [] (O_98 r) B m :=
  fun_pure (TO_98 hkn N) cf_98 (hkn.no 98 rfl) (Nat.le_of_ble_eq_true rfl) (noO rfl) (.cons _ _ (.str _) .nil) (K := K_98) (by rw [FE_98]; exact h) (KO_98 r) (.int _ _) B m
def ent_98 (N : Nat) : List (PV D) → Bt D → Nat → CallR D := fun args _ _ => match args with
  | [.str a0] => .opt (Int) (F_98 N a0) default (fun r => O_98 r)
  | _ => .bad
theorem ent_98_ok (hkn : HkS hk) (N : Nat) (args : List (PV D)) (B : Bt D) (m : Nat) : CallOk Tryz.prog hk V 98 args B m (ent_98 N args B m) := by
  unfold ent_98
  split
  · intro r hr; exact law_98 hkn _ hr B m
  · trivial
def yc_61 : YC := ycOf Tryz.prog 61 []
def rs_61 : List RV := [.t 2]
theorem cf_61 : compF Tryz.prog 61 [] = some (yc_61, rs_61, 81) := by kernel_rfl
def K_61 : PV D → Y D → Option (Int) := fun v _ => match v with
  | .int .i64 q0 => some q0
  | _ => none
def O_61 (r : Int) : PV D := .int .i64 r
theorem KO_61 (r : Int) (v : PV D) (st : Y D) (h : K_61 v st = some r) : v = O_61 r := by
  unfold K_61 at h
  split at h <;> first | (cases h; rfl) | (cases h)
def T_61 (N : Nat) : Tbl D := tblOf [(97, ent_97 N), (98, ent_98 N)]
theorem FE_61 (N : Nat) (a0 : Int) (a1 : Int) (a2 : Int) (a3 : Bool) (a4 : List UInt8) : fsem (D := D) (T_61 N) N yc_61 rs_61 [.agg [.int .i64 a0, .int .i64 a1, .int .i64 a2, .bool a3, .str a4]] .leaf 0 K_61 = F_61 N a0 a1 a2 a3 a4 := by kernel_rfl
theorem TO_61 (hkn : HkS hk) (N : Nat) : TblOk Tryz.prog hk V (T_61 N) := tblOf_ok (tok1 (ent_97_ok hkn N) (tok1 (ent_98_ok hkn N) (tok0)))
theorem law_61 (hkn : HkS hk) {N : Nat} (a0 : Int) (a1 : Int) (a2 : Int) (a3 : Bool) (a4 : List UInt8) {r : Int} (h : F_61 N a0 a1 a2 a3 a4 = some r) (B : Bt D) (m : Nat) : FunS Tryz.prog hk V 61 [.agg [.int .i64 a0, .int .i64 a1, .int .i64 a2, .bool a3, .str a4]] B m [] (O_61 r) B m :=
  fun_pure (TO_61 hkn N) cf_61 (hkn.no 61 rfl) (Nat.le_of_ble_eq_true rfl) (noO rfl) (.cons _ _ (.agg _ (.cons _ _ (.int _ _) (.cons _ _ (.int _ _) (.cons _ _ (.int _ _) (.cons _ _ (.bool _) (.cons _ _ (.str _) .nil)))))) .nil) (K := K_61) (by rw [FE_61]; exact h) (KO_61 r) (.int _ _) B m
def ent_61 (N : Nat) : List (PV D) → Bt D → Nat → CallR D := fun args _ _ => match args with
  | [.agg [.int .i64 a0, .int .i64 a1, .int .i64 a2, .bool a3, .str a4]] => .opt (Int) (F_61 N a0 a1 a2 a3 a4) default (fun r => O_61 r)
  | _ => .bad
theorem ent_61_ok (hkn : HkS hk) (N : Nat) (args : List (PV D)) (B : Bt D) (m : Nat) : CallOk Tryz.prog hk V 61 args B m (ent_61 N args B m) := by
  unfold ent_61
  split
  · intro r hr; exact law_61 hkn _ _ _ _ _ hr B m
  · trivial
def yc_16 : YC := ycOf Tryz.prog 16 []
def rs_16 : List RV := [.t 2]
theorem cf_16 : compF Tryz.prog 16 [] = some (yc_16, rs_16, 36) := by kernel_rfl
def K_16 : PV D → Y D → Option (Int) := fun v _ => match v with
  | .int .i64 q0 => some q0
  | _ => none
def O_16 (r : Int) : PV D := .int .i64 r
theorem KO_16 (r : Int) (v : PV D) (st : Y D) (h : K_16 v st = some r) : v = O_16 r := by
  unfold K_16 at h
  split at h <;> first | (cases h; rfl) | (cases h)
def T_16 (N : Nat) : Tbl D := tblOf [(61, ent_61 N)]
theorem FE_16 (N : Nat) (a0 : Int) (a1 : Int) (a2 : Int) (a3 : Bool) (a4 : List UInt8) : fsem (D := D) (T_16 N) N yc_16 rs_16 [.agg [.int .i64 a0, .int .i64 a1, .int .i64 a2, .bool a3, .str a4]] .leaf 0 K_16 = F_16 N a0 a1 a2 a3 a4 := by kernel_rfl
theorem TO_16 (hkn : HkS hk) (N : Nat) : TblOk Tryz.prog hk V (T_16 N) := tblOf_ok (tok1 (ent_61_ok hkn N) (tok0))
theorem law_16 (hkn : HkS hk) {N : Nat} (a0 : Int) (a1 : Int) (a2 : Int) (a3 : Bool) (a4 : List UInt8) {r : Int} (h : F_16 N a0 a1 a2 a3 a4 = some r) (B : Bt D) (m : Nat) : FunS Tryz.prog hk V 16 [.agg [.int .i64 a0, .int .i64 a1, .int .i64 a2, .bool a3, .str a4]] B m [] (O_16 r) B m :=
  fun_pure (TO_16 hkn N) cf_16 (hkn.no 16 rfl) (Nat.le_of_ble_eq_true rfl) (noO rfl) (.cons _ _ (.agg _ (.cons _ _ (.int _ _) (.cons _ _ (.int _ _) (.cons _ _ (.int _ _) (.cons _ _ (.bool _) (.cons _ _ (.str _) .nil)))))) .nil) (K := K_16) (by rw [FE_16]; exact h) (KO_16 r) (.int _ _) B m
def ent_16 (N : Nat) : List (PV D) → Bt D → Nat → CallR D := fun args _ _ => match args with
  | [.agg [.int .i64 a0, .int .i64 a1, .int .i64 a2, .bool a3, .str a4]] => .opt (Int) (F_16 N a0 a1 a2 a3 a4) default (fun r => O_16 r)
  | _ => .bad
theorem ent_16_ok (hkn : HkS hk) (N : Nat) (args : List (PV D)) (B : Bt D) (m : Nat) : CallOk Tryz.prog hk V 16 args B m (ent_16 N args B m) := by
  unfold ent_16
  split
  · intro r hr; exact law_16 hkn _ _ _ _ _ hr B m
  · trivial
def yc_152 : YC := ycOf Tryz.prog 152 []
def rs_152 : List RV := [.t 4, .t 5]
theorem cf_152 : compF Tryz.prog 152 [] = some (yc_152, rs_152, 29) := by kernel_rfl
def K_152 : PV D → Y D → Option (Int × Bool) := fun v _ => match v with
  | .tup [.int .i64 q0, .bool q1] => some (q0, q1)
  | _ => none
def O_152 (r : Int × Bool) : PV D := .tup [.int .i64 r.1, .bool r.2]
theorem KO_152 (r : Int × Bool) (v : PV D) (st : Y D) (h : K_152 v st = some r) : v = O_152 r := by
  unfold K_152 at h
  split at h <;> first | (cases h; rfl) | (cases h)
def T_152 (N : Nat) : Tbl D := tblOf []
theorem FE_152 (N : Nat) (a0 : Int) (a1 : Int) : fsem (D := D) (T_152 N) N yc_152 rs_152 [.int .i64 a0, .int .i32 a1] .leaf 0 K_152 = F_152 N a0 a1 := by kernel_rfl
theorem TO_152 (hkn : HkS hk) (N : Nat) : TblOk Tryz.prog hk V (T_152 N) := tblOf_ok (tok0)
theorem law_152 (hkn : HkS hk) {N : Nat} (a0 : Int) (a1 : Int) {r : Int × Bool} (h : F_152 N a0 a1 = some r) (B : Bt D) (m : Nat) : FunS Tryz.prog hk V 152 [.int .i64 a0, .int .i32 a1] B m [] (O_152 r) B m :=
  fun_pure (TO_152 hkn N) cf_152 (hkn.no 152 rfl) (Nat.le_of_ble_eq_true rfl) (noO rfl) (.cons _ _ (.int _ _) (.cons _ _ (.int _ _) .nil)) (K := K_152) (by rw [FE_152]; exact h) (KO_152 r) (.tup _ (.cons _ _ (.int _ _) (.cons _ _ (.bool _) .nil))) B m
def ent_152 (N : Nat) : List (PV D) → Bt D → Nat → CallR D := fun args _ _ => match args with
  | [.int .i64 a0, .int .i32 a1] => .opt (Int × Bool) (F_152 N a0 a1) default (fun r => O_152 r)
  | _ => .bad
theorem ent_152_ok (hkn : HkS hk) (N : Nat) (args : List (PV D)) (B : Bt D) (m : Nat) : CallOk Tryz.prog hk V 152 args B m (ent_152 N args B m) := by
  unfold ent_152
  split
  · intro r hr; exact law_152 hkn _ _ hr B m
  · trivial
def O_93 (r : Int) : PV D := .int .i64 r
def ent_93 (N : Nat) : List (PV D) → Bt D → Nat → CallR D := fun args _ _ => match args with
  | [.int .i64 a0, .int .i64 a1] => .opt (Int) (F_93 N a0 a1) default (fun r => O_93 r)
  | _ => .bad
def yc_102 : YC := ycOf Tryz.prog 102 [[((.tmp 17), (.int .i64))]]
def rs_102 : List RV := [.t 4]
theorem cf_102 : compF Tryz.prog 102 [[((.tmp 17), (.int .i64))]] = some (yc_102, rs_102, 69) := by kernel_rfl
def K_102 : PV D → Y D → Option (Bool) := fun v _ => match v with
  | .bool q0 => some q0
  | _ => none
def O_102 (r : Bool) : PV D := .bool r
theorem KO_102 (r : Bool) (v : PV D) (st : Y D) (h : K_102 v st = some r) : v = O_102 r := by
  unfold K_102 at h
  split at h <;> first | (cases h; rfl) | (cases h)
def T_102 (N : Nat) : Tbl D := tblOf []
theorem FE_102 (N : Nat) (a0 : List UInt8) (a1 : List UInt8) : fsem (D := D) (T_102 N) N yc_102 rs_102 [.str a0, .str a1] .leaf 0 K_102 = F_102 N a0 a1 := by kernel_rfl
theorem TO_102 (hkn : HkS hk) (N : Nat) : TblOk Tryz.prog hk V (T_102 N) := tblOf_ok (tok0)
theorem law_102 (hkn : HkS hk) {N : Nat} (a0 : List UInt8) (a1 : List UInt8) {r : Bool} (h : F_102 N a0 a1 = some r) (B : Bt D) (m : Nat) : FunS Tryz.prog hk V 102 [.str a0, .str a1] B m [] (O_102 r) B m :=
  fun_pure (TO_102 hkn N) cf_102 (hkn.no 102 rfl) (Nat.le_of_ble_eq_true rfl) (noO rfl) (.cons _ _ (.str _) (.cons _ _ (.str _) .nil)) (K := K_102) (by rw [FE_102]; exact h) (KO_102 r) (.bool _) B m
def ent_102 (N : Nat) : List (PV D) → Bt D → Nat → CallR D := fun args _ _ => match args with
  | [.str a0, .str a1] => .opt (Bool) (F_102 N a0 a1) default (fun r => O_102 r)
  | _ => .bad
theorem ent_102_ok (hkn : HkS hk) (N : Nat) (args : List (PV D)) (B : Bt D) (m : Nat) : CallOk Tryz.prog hk V 102 args B m (ent_102 N args B m) := by
  unfold ent_102
  split
  · intro r hr; exact law_102 hkn _ _ hr B m
  · trivial
def yc_153_h1 : YC := ycOf Tryz.prog 153 [[((.tmp 0), (.rowI 5 .u8)), ((.tmp 32), (.int .i64))]]
theorem cf_153_h1 : compF Tryz.prog 153 [[((.tmp 0), (.rowI 5 .u8)), ((.tmp 32), (.int .i64))]] = some (yc_153_h1, [.t 6, .t 7], 41) := by kernel_rfl
def T_153_1 (N : Nat) : Tbl D := tblOf [(189, ent_189 N)]
theorem TO_153_1 (hkn : HkS hk) (N : Nat) : TblOk Tryz.prog hk V (T_153_1 N) := tblOf_ok (tok1 (ent_189_ok hkn N) (tok0))
def ent_153_1 (N : Nat) : List (PV D) → Bt D → Nat → CallR D := fun args B m => inlC (T_153_1 N) N yc_153_h1 [.t 6, .t 7] 41 (.tup [.nils, (.bool false)]) args B m
theorem ent_153_1_ok (hkn : HkS hk) (N : Nat) (args : List (PV D)) (B : Bt D) (m : Nat) : CallOk Tryz.prog hk V 153 args B m (ent_153_1 N args B m) := inlC_ok (TO_153_1 hkn N) cf_153_h1 (hkn.no 153 rfl) _ args B m
def yc_130_h1 : YC := ycOf Tryz.prog 130 [[((.tmp 4), (.rowI 5 .u8)), ((.tmp 5), (.int .i64)), ((.tmp 6), (.int .i64)), ((.tmp 7), .bool), ((.row 1), .iter)]]
theorem cf_130_h1 : compF Tryz.prog 130 [[((.tmp 4), (.rowI 5 .u8)), ((.tmp 5), (.int .i64)), ((.tmp 6), (.int .i64)), ((.tmp 7), .bool), ((.row 1), .iter)]] = some (yc_130_h1, [.t 2, .t 3], 74) := by kernel_rfl
def T_130_1 (N : Nat) : Tbl D := tblOf [(152, ent_152 N), (153, ent_153_1 N)]
theorem TO_130_1 (hkn : HkS hk) (N : Nat) : TblOk Tryz.prog hk V (T_130_1 N) := tblOf_ok (tok1 (ent_152_ok hkn N) (tok1 (ent_153_1_ok hkn N) (tok0)))
def ent_130_1 (N : Nat) : List (PV D) → Bt D → Nat → CallR D := fun args B m => inlC (T_130_1 N) N yc_130_h1 [.t 2, .t 3] 74 (.tup [(.str []), (.bool false)]) args B m
theorem ent_130_1_ok (hkn : HkS hk) (N : Nat) (args : List (PV D)) (B : Bt D) (m : Nat) : CallOk Tryz.prog hk V 130 args B m (ent_130_1 N args B m) := inlC_ok (TO_130_1 hkn N) cf_130_h1 (hkn.no 130 rfl) _ args B m
def yc_163_h1 : YC := ycOf Tryz.prog 163 [[((.tmp 16), (.int .i64)), ((.cell 2 0), .str), ((.cell 2 1), .bool), ((.cell 2 2), (.int .i64)), ((.cell 2 3), (.int .i64)), ((.cell 2 4), (.int .i64)), ((.cell 2 5), .bool), ((.cell 2 7), (.int .u8)), ((.cell 2 8), (.int .i64)), ((.cell 2 9), .bool), ((.cell 2 10), (.int .u8)), ((.cell 2 11), (.int .i64))], [((.tmp 60), (.int .i64))]]
theorem cf_163_h1 : compF Tryz.prog 163 [[((.tmp 16), (.int .i64)), ((.cell 2 0), .str), ((.cell 2 1), .bool), ((.cell 2 2), (.int .i64)), ((.cell 2 3), (.int .i64)), ((.cell 2 4), (.int .i64)), ((.cell 2 5), .bool), ((.cell 2 7), (.int .u8)), ((.cell 2 8), (.int .i64)), ((.cell 2 9), .bool), ((.cell 2 10), (.int .u8)), ((.cell 2 11), (.int .i64))], [((.tmp 60), (.int .i64))]] = some (yc_163_h1, [.t 4], 74) := by kernel_rfl
def T_163_1 (N : Nat) : Tbl D := tblOf [(164, ent_164 N), (189, ent_189 N), (197, ent_197 N), (198, ent_198 N)]
theorem TO_163_1 (hkn : HkS hk) (N : Nat) : TblOk Tryz.prog hk V (T_163_1 N) := tblOf_ok (tok1 (ent_164_ok hkn N) (tok1 (ent_189_ok hkn N) (tok1 (ent_197_ok hkn N) (tok1 (ent_198_ok hkn N) (tok0)))))
def ent_163_1 (N : Nat) : List (PV D) → Bt D → Nat → CallR D := fun args B m => inlC (T_163_1 N) N yc_163_h1 [.t 4] 74 (.bool false) args B m
theorem ent_163_1_ok (hkn : HkS hk) (N : Nat) (args : List (PV D)) (B : Bt D) (m : Nat) : CallOk Tryz.prog hk V 163 args B m (ent_163_1 N args B m) := inlC_ok (TO_163_1 hkn N) cf_163_h1 (hkn.no 163 rfl) _ args B m
def yc_200_h1 : YC := ycOf Tryz.prog 200 []
theorem cf_200_h1 : compF Tryz.prog 200 [] = some (yc_200_h1, [.t 6], 51) := by kernel_rfl
def T_200_1 (N : Nat) : Tbl D := tblOf [(189, ent_189 N)]
theorem TO_200_1 (hkn : HkS hk) (N : Nat) : TblOk Tryz.prog hk V (T_200_1 N) := tblOf_ok (tok1 (ent_189_ok hkn N) (tok0))
def ent_200_1 (N : Nat) : List (PV D) → Bt D → Nat → CallR D := fun args B m => inlC (T_200_1 N) N yc_200_h1 [.t 6] 51 (.int .i64 0) args B m
theorem ent_200_1_ok (hkn : HkS hk) (N : Nat) (args : List (PV D)) (B : Bt D) (m : Nat) : CallOk Tryz.prog hk V 200 args B m (ent_200_1 N args B m) := inlC_ok (TO_200_1 hkn N) cf_200_h1 (hkn.no 200 rfl) _ args B m
def yc_165_h1 : YC := ycOf Tryz.prog 165 [[((.tmp 5), (.int .i64)), ((.tmp 6), .bool), ((.tmp 13), (.int .i64)), ((.cell 2 0), .str), ((.cell 2 1), .bool), ((.cell 2 2), (.int .i64)), ((.cell 2 3), (.int .i64)), ((.cell 2 4), (.int .i64)), ((.cell 2 5), .bool), ((.cell 2 6), (.rowI 208 .i64)), ((.cell 2 7), (.int .u8)), ((.cell 2 8), (.int .i64)), ((.cell 2 9), .bool), ((.cell 2 10), (.int .u8)), ((.cell 2 11), (.int .i64))]]
theorem cf_165_h1 : compF Tryz.prog 165 [[((.tmp 5), (.int .i64)), ((.tmp 6), .bool), ((.tmp 13), (.int .i64)), ((.cell 2 0), .str), ((.cell 2 1), .bool), ((.cell 2 2), (.int .i64)), ((.cell 2 3), (.int .i64)), ((.cell 2 4), (.int .i64)), ((.cell 2 5), .bool), ((.cell 2 6), (.rowI 208 .i64)), ((.cell 2 7), (.int .u8)), ((.cell 2 8), (.int .i64)), ((.cell 2 9), .bool), ((.cell 2 10), (.int .u8)), ((.cell 2 11), (.int .i64))]] = some (yc_165_h1, [.t 4], 122) := by kernel_rfl
def T_165_1 (N : Nat) : Tbl D := tblOf [(200, ent_200_1 N)]
theorem TO_165_1 (hkn : HkS hk) (N : Nat) : TblOk Tryz.prog hk V (T_165_1 N) := tblOf_ok (tok1 (ent_200_1_ok hkn N) (tok0))
def ent_165_1 (N : Nat) : List (PV D) → Bt D → Nat → CallR D := fun args B m => inlC (T_165_1 N) N yc_165_h1 [.t 4] 122 (.bool false) args B m
theorem ent_165_1_ok (hkn : HkS hk) (N : Nat) (args : List (PV D)) (B : Bt D) (m : Nat) : CallOk Tryz.prog hk V 165 args B m (ent_165_1 N args B m) := inlC_ok (TO_165_1 hkn N) cf_165_h1 (hkn.no 165 rfl) _ args B m
def yc_166_h1 : YC := ycOf Tryz.prog 166 [[((.tmp 5), (.int .i64)), ((.tmp 6), (.int .i64)), ((.tmp 18), (.int .i64))], [((.tmp 49), (.int .i64))]]
theorem cf_166_h1 : compF Tryz.prog 166 [[((.tmp 5), (.int .i64)), ((.tmp 6), (.int .i64)), ((.tmp 18), (.int .i64))], [((.tmp 49), (.int .i64))]] = some (yc_166_h1, [.t 4], 79) := by kernel_rfl
def T_166_1 (N : Nat) : Tbl D := tblOf []
theorem TO_166_1 (hkn : HkS hk) (N : Nat) : TblOk Tryz.prog hk V (T_166_1 N) := tblOf_ok (tok0)
def ent_166_1 (N : Nat) : List (PV D) → Bt D → Nat → CallR D := fun args B m => inlC (T_166_1 N) N yc_166_h1 [.t 4] 79 (.bool false) args B m
theorem ent_166_1_ok (hkn : HkS hk) (N : Nat) (args : List (PV D)) (B : Bt D) (m : Nat) : CallOk Tryz.prog hk V 166 args B m (ent_166_1 N args B m) := inlC_ok (TO_166_1 hkn N) cf_166_h1 (hkn.no 166 rfl) _ args B m
def yc_167_h1 : YC := ycOf Tryz.prog 167 [[((.tmp 5), (.int .i64)), ((.tmp 11), (.int .i64))]]
theorem cf_167_h1 : compF Tryz.prog 167 [[((.tmp 5), (.int .i64)), ((.tmp 11), (.int .i64))]] = some (yc_167_h1, [.t 4], 39) := by kernel_rfl
def T_167_1 (N : Nat) : Tbl D := tblOf [(189, ent_189 N)]
theorem TO_167_1 (hkn : HkS hk) (N : Nat) : TblOk Tryz.prog hk V (T_167_1 N) := tblOf_ok (tok1 (ent_189_ok hkn N) (tok0))
def ent_167_1 (N : Nat) : List (PV D) → Bt D → Nat → CallR D := fun args B m => inlC (T_167_1 N) N yc_167_h1 [.t 4] 39 (.int .i64 0) args B m
theorem ent_167_1_ok (hkn : HkS hk) (N : Nat) (args : List (PV D)) (B : Bt D) (m : Nat) : CallOk Tryz.prog hk V 167 args B m (ent_167_1 N args B m) := inlC_ok (TO_167_1 hkn N) cf_167_h1 (hkn.no 167 rfl) _ args B m
def yc_133_h1 : YC := ycOf Tryz.prog 133 []
theorem cf_133_h1 : compF Tryz.prog 133 [] = some (yc_133_h1, [.t 2, .t 3], 114) := by kernel_rfl
def T_133_1 (N : Nat) : Tbl D := tblOf [(132, ent_132 N), (162, ent_162 N), (163, ent_163_1 N), (164, ent_164 N), (165, ent_165_1 N), (166, ent_166_1 N), (167, ent_167_1 N)]
theorem TO_133_1 (hkn : HkS hk) (N : Nat) : TblOk Tryz.prog hk V (T_133_1 N) := tblOf_ok (tok1 (ent_132_ok hkn N) (tok1 (ent_162_ok hkn N) (tok1 (ent_163_1_ok hkn N) (tok1 (ent_164_ok hkn N) (tok1 (ent_165_1_ok hkn N) (tok1 (ent_166_1_ok hkn N) (tok1 (ent_167_1_ok hkn N) (tok0))))))))
def ent_133_1 (N : Nat) : List (PV D) → Bt D → Nat → CallR D := fun args B m => inlC (T_133_1 N) N yc_133_h1 [.t 2, .t 3] 114 (.tup [.nilp, (.bool false)]) args B m
theorem ent_133_1_ok (hkn : HkS hk) (N : Nat) (args : List (PV D)) (B : Bt D) (m : Nat) : CallOk Tryz.prog hk V 133 args B m (ent_133_1 N args B m) := inlC_ok (TO_133_1 hkn N) cf_133_h1 (hkn.no 133 rfl) _ args B m
def yc_100_h1 : YC := ycOf Tryz.prog 100 []
theorem cf_100_h1 : compF Tryz.prog 100 [] = some (yc_100_h1, [.t 2, .t 3], 30) := by kernel_rfl
def T_100_1 (N : Nat) : Tbl D := tblOf [(130, ent_130_1 N), (131, ent_131 N), (132, ent_132 N), (133, ent_133_1 N)]
theorem TO_100_1 (hkn : HkS hk) (N : Nat) : TblOk Tryz.prog hk V (T_100_1 N) := tblOf_ok (tok1 (ent_130_1_ok hkn N) (tok1 (ent_131_ok hkn N) (tok1 (ent_132_ok hkn N) (tok1 (ent_133_1_ok hkn N) (tok0)))))
def ent_100_1 (N : Nat) : List (PV D) → Bt D → Nat → CallR D := fun args B m => inlC (T_100_1 N) N yc_100_h1 [.t 2, .t 3] 30 (.tup [.nilp, (.bool false)]) args B m
theorem ent_100_1_ok (hkn : HkS hk) (N : Nat) (args : List (PV D)) (B : Bt D) (m : Nat) : CallOk Tryz.prog hk V 100 args B m (ent_100_1 N args B m) := inlC_ok (TO_100_1 hkn N) cf_100_h1 (hkn.no 100 rfl) _ args B m
def yc_67 : YC := ycOf Tryz.prog 67 []
def rs_67 : List RV := [.c 2 6 true, .t 3]
theorem cf_67 : compF Tryz.prog 67 [] = some (yc_67, rs_67, 18) := by kernel_rfl
def K_67 : PV D → Y D → Option ((List UInt8 × Bool × Int × Int × Int × Bool) × Int) := fun v _ => match v with
  | .tup [.agg [.str q0, .bool q1, .int .i64 q2, .int .i64 q3, .int .i64 q4, .bool q5], .int .i64 q6] => some ((q0, q1, q2, q3, q4, q5), q6)
  | _ => none
def O_67 (r : (List UInt8 × Bool × Int × Int × Int × Bool) × Int) : PV D := .tup [.agg [.str r.1.1, .bool r.1.2.1, .int .i64 r.1.2.2.1, .int .i64 r.1.2.2.2.1, .int .i64 r.1.2.2.2.2.1, .bool r.1.2.2.2.2.2], .int .i64 r.2]
theorem KO_67 (r : (List UInt8 × Bool × Int × Int × Int × Bool) × Int) (v : PV D) (st : Y D) (h : K_67 v st = some r) : v = O_67 r := by
  unfold K_67 at h
  split at h <;> first | (cases h; rfl) | (cases h)
def T_67 (N : Nat) : Tbl D := tblOf [(100, ent_100_1 N)]
theorem FE_67 (N : Nat) (a0 : List UInt8) : fsem (D := D) (T_67 N) N yc_67 rs_67 [.str a0] .leaf 0 K_67 = F_67 N a0 := by kernel_rfl
theorem TO_67 (hkn : HkS hk) (N : Nat) : TblOk Tryz.prog hk V (T_67 N) := tblOf_ok (tok1 (ent_100_1_ok hkn N) (tok0))
theorem law_67 (hkn : HkS hk) {N : Nat} (a0 : List UInt8) {r : (List UInt8 × Bool × Int × Int × Int × Bool) × Int} (h : F_67 N a0 = some r) (B : Bt D) (m : Nat) : FunS Tryz.prog hk V 67 [.str a0] B m [] (O_67 r) B m :=
  fun_pure (TO_67 hkn N) cf_67 (hkn.no 67 rfl) (Nat.le_of_ble_eq_true rfl) (noO rfl) (.cons _ _ (.str _) .nil) (K := K_67) (by rw [FE_67]; exact h) (KO_67 r) (.tup _ (.cons _ _ (.agg _ (.cons _ _ (.str _) (.cons _ _ (.bool _) (.cons _ _ (.int _ _) (.cons _ _ (.int _ _) (.cons _ _ (.int _ _) (.cons _ _ (.bool _) .nil))))))) (.cons _ _ (.int _ _) .nil))) B m
def ent_67 (N : Nat) : List (PV D) → Bt D → Nat → CallR D := fun args _ _ => match args with
  | [.str a0] => .opt ((List UInt8 × Bool × Int × Int × Int × Bool) × Int) (F_67 N a0) default (fun r => O_67 r)
  | _ => .bad
theorem ent_67_ok (hkn : HkS hk) (N : Nat) (args : List (PV D)) (B : Bt D) (m : Nat) : CallOk Tryz.prog hk V 67 args B m (ent_67 N args B m) := by
  unfold ent_67
  split
  · intro r hr; exact law_67 hkn _ hr B m
  · trivial
def yc_60 : YC := ycOf Tryz.prog 60 []
def rs_60 : List RV := [.t 2]
theorem cf_60 : compF Tryz.prog 60 [] = some (yc_60, rs_60, 11) := by kernel_rfl
def K_60 : PV D → Y D → Option (Int) := fun v _ => match v with
  | .int .i64 q0 => some q0
  | _ => none
def O_60 (r : Int) : PV D := .int .i64 r
theorem KO_60 (r : Int) (v : PV D) (st : Y D) (h : K_60 v st = some r) : v = O_60 r := by
  unfold K_60 at h
  split at h <;> first | (cases h; rfl) | (cases h)
def T_60 (N : Nat) : Tbl D := tblOf [(67, ent_67 N)]
theorem FE_60 (N : Nat) (a0 : List UInt8) : fsem (D := D) (T_60 N) N yc_60 rs_60 [.str a0] .leaf 0 K_60 = F_60 N a0 := by kernel_rfl
theorem TO_60 (hkn : HkS hk) (N : Nat) : TblOk Tryz.prog hk V (T_60 N) := tblOf_ok (tok1 (ent_67_ok hkn N) (tok0))
theorem law_60 (hkn : HkS hk) {N : Nat} (a0 : List UInt8) {r : Int} (h : F_60 N a0 = some r) (B : Bt D) (m : Nat) : FunS Tryz.prog hk V 60 [.str a0] B m [] (O_60 r) B m :=
  fun_pure (TO_60 hkn N) cf_60 (hkn.no 60 rfl) (Nat.le_of_ble_eq_true rfl) (noO rfl) (.cons _ _ (.str _) .nil) (K := K_60) (by rw [FE_60]; exact h) (KO_60 r) (.int _ _) B m
def ent_60 (N : Nat) : List (PV D) → Bt D → Nat → CallR D := fun args _ _ => match args with
  | [.str a0] => .opt (Int) (F_60 N a0) default (fun r => O_60 r)
  | _ => .bad
theorem ent_60_ok (hkn : HkS hk) (N : Nat) (args : List (PV D)) (B : Bt D) (m : Nat) : CallOk Tryz.prog hk V 60 args B m (ent_60 N args B m) := by
  unfold ent_60
  split
  · intro r hr; exact law_60 hkn _ hr B m
  · trivial
def yc_15 : YC := ycOf Tryz.prog 15 []
def rs_15 : List RV := [.t 2]
theorem cf_15 : compF Tryz.prog 15 [] = some (yc_15, rs_15, 81) := by kernel_rfl
def K_15 : PV D → Y D → Option (Int) := fun v _ => match v with
  | .int .i64 q0 => some q0
  | _ => none
def O_15 (r : Int) : PV D := .int .i64 r
theorem KO_15 (r : Int) (v : PV D) (st : Y D) (h : K_15 v st = some r) : v = O_15 r := by
  unfold K_15 at h
  split at h <;> first | (cases h; rfl) | (cases h)
def T_15 (N : Nat) : Tbl D := tblOf [(58, ent_58 N), (59, ent_59 N), (60, ent_60 N)]
theorem FE_15 (N : Nat) (a0 : Int) (a1 : Int) (a2 : Int) (a3 : Bool) (a4 : List UInt8) : fsem (D := D) (T_15 N) N yc_15 rs_15 [.agg [.int .i64 a0, .int .i64 a1, .int .i64 a2, .bool a3, .str a4]] .leaf 0 K_15 = F_15 N a0 a1 a2 a3 a4 := by kernel_rfl
theorem TO_15 (hkn : HkS hk) (N : Nat) : TblOk Tryz.prog hk V (T_15 N) := tblOf_ok (tok1 (ent_58_ok hkn N) (tok1 (ent_59_ok hkn N) (tok1 (ent_60_ok hkn N) (tok0))))
theorem law_15 (hkn : HkS hk) {N : Nat} (a0 : Int) (a1 : Int) (a2 : Int) (a3 : Bool) (a4 : List UInt8) {r : Int} (h : F_15 N a0 a1 a2 a3 a4 = some r) (B : Bt D) (m : Nat) : FunS Tryz.prog hk V 15 [.agg [.int .i64 a0, .int .i64 a1, .int .i64 a2, .bool a3, .str a4]] B m [] (O_15 r) B m :=
  fun_pure (TO_15 hkn N) cf_15 (hkn.no 15 rfl) (Nat.le_of_ble_eq_true rfl) (noO rfl) (.cons _ _ (.agg _ (.cons _ _ (.int _ _) (.cons _ _ (.int _ _) (.cons _ _ (.int _ _) (.cons _ _ (.bool _) (.cons _ _ (.str _) .nil)))))) .nil) (K := K_15) (by rw [FE_15]; exact h) (KO_15 r) (.int _ _) B m
def ent_15 (N : Nat) : List (PV D) → Bt D → Nat → CallR D := fun args _ _ => match args with
  | [.agg [.int .i64 a0, .int .i64 a1, .int .i64 a2, .bool a3, .str a4]] => .opt (Int) (F_15 N a0 a1 a2 a3 a4) default (fun r => O_15 r)
  | _ => .bad
theorem ent_15_ok (hkn : HkS hk) (N : Nat) (args : List (PV D)) (B : Bt D) (m : Nat) : CallOk Tryz.prog hk V 15 args B m (ent_15 N args B m) := by
  unfold ent_15
  split
  · intro r hr; exact law_15 hkn _ _ _ _ _ hr B m
  · trivial
def yc_62 : YC := ycOf Tryz.prog 62 []
def rs_62 : List RV := [.t 2]
theorem cf_62 : compF Tryz.prog 62 [] = some (yc_62, rs_62, 11) := by kernel_rfl
def K_62 : PV D → Y D → Option (Bool) := fun v _ => match v with
  | .bool q0 => some q0
  | _ => none
def O_62 (r : Bool) : PV D := .bool r
theorem KO_62 (r : Bool) (v : PV D) (st : Y D) (h : K_62 v st = some r) : v = O_62 r := by
  unfold K_62 at h
  split at h <;> first | (cases h; rfl) | (cases h)
def T_62 (N : Nat) : Tbl D := tblOf [(15, ent_15 N)]
theorem FE_62 (N : Nat) (a0 : Int) (a1 : Int) (a2 : Int) (a3 : Bool) (a4 : List UInt8) : fsem (D := D) (T_62 N) N yc_62 rs_62 [.agg [.int .i64 a0, .int .i64 a1, .int .i64 a2, .bool a3, .str a4]] .leaf 0 K_62 = F_62 N a0 a1 a2 a3 a4 := by kernel_rfl
theorem TO_62 (hkn : HkS hk) (N : Nat) : TblOk Tryz.prog hk V (T_62 N) := tblOf_ok (tok1 (ent_15_ok hkn N) (tok0))
theorem law_62 (hkn : HkS hk) {N : Nat} (a0 : Int) (a1 : Int) (a2 : Int) (a3 : Bool) (a4 : List UInt8) {r : Bool} (h : F_62 N a0 a1 a2 a3 a4 = some r) (B : Bt D) (m : Nat) : FunS Tryz.prog hk V 62 [.agg [.int .i64 a0, .int .i64 a1, .int .i64 a2, .bool a3, .str a4]] B m [] (O_62 r) B m :=
  fun_pure (TO_62 hkn N) cf_62 (hkn.no 62 rfl) (Nat.le_of_ble_eq_true rfl) (noO rfl) (.cons _ _ (.agg _ (.cons _ _ (.int _ _) (.cons _ _ (.int _ _) (.cons _ _ (.int _ _) (.cons _ _ (.bool _) (.cons _ _ (.str _) .nil)))))) .nil) (K := K_62) (by rw [FE_62]; exact h) (KO_62 r) (.bool _) B m
def ent_62 (N : Nat) : List (PV D) → Bt D → Nat → CallR D := fun args _ _ => match args with
  | [.agg [.int .i64 a0, .int .i64 a1, .int .i64 a2, .bool a3, .str a4]] => .opt (Bool) (F_62 N a0 a1 a2 a3 a4) default (fun r => O_62 r)
  | _ => .bad
theorem ent_62_ok (hkn : HkS hk) (N : Nat) (args : List (PV D)) (B : Bt D) (m : Nat) : CallOk Tryz.prog hk V 62 args B m (ent_62 N args B m) := by
  unfold ent_62
  split
  · intro r hr; exact law_62 hkn _ _ _ _ _ hr B m
  · trivial
def yc_99 : YC := ycOf Tryz.prog 99 []
def rs_99 : List RV := [.t 2]
theorem cf_99 : compF Tryz.prog 99 [] = some (yc_99, rs_99, 13) := by kernel_rfl
def K_99 : PV D → Y D → Option (Int) := fun v _ => match v with
  | .int .i64 q0 => some q0
  | _ => none
def O_99 (r : Int) : PV D := .int .i64 r
theorem KO_99 (r : Int) (v : PV D) (st : Y D) (h : K_99 v st = some r) : v = O_99 r := by
  unfold K_99 at h
  split at h <;> first | (cases h; rfl) | (cases h)
def T_99 (N : Nat) : Tbl D := tblOf [(129, ent_129 N)]
theorem FE_99 (N : Nat) (a0 : Int) (a1 : Int) (a2 : Int) (a3 : Bool) (a4 : List UInt8) : fsem (D := D) (T_99 N) N yc_99 rs_99 [.agg [.int .i64 a0, .int .i64 a1, .int .i64 a2, .bool a3, .str a4]] .leaf 0 K_99 = F_99 N a0 a1 a2 a3 a4 := by kernel_rfl
theorem TO_99 (hkn : HkS hk) (N : Nat) : TblOk Tryz.prog hk V (T_99 N) := tblOf_ok (tok1 (ent_129_ok hkn N) (tok0))
theorem law_99 (hkn : HkS hk) {N : Nat} (a0 : Int) (a1 : Int) (a2 : Int) (a3 : Bool) (a4 : List UInt8) {r : Int} (h : F_99 N a0 a1 a2 a3 a4 = some r) (B : Bt D) (m : Nat) : FunS Tryz.prog hk V 99 [.agg [.int .i64 a0, .int .i64 a1, .int .i64 a2, .bool a3, .str a4]] B m [] (O_99 r) B m :=
  fun_pure (TO_99 hkn N) cf_99 (hkn.no 99 rfl) (Nat.le_of_ble_eq_true rfl) (noO rfl) (.cons _ _ (.agg _ (.cons _ _ (.int _ _) (.cons _ _ (.int _ _) (.cons _ _ (.int _ _) (.cons _ _ (.bool _) (.cons _ _ (.str _) .nil)))))) .nil) (K := K_99) (by rw [FE_99]; exact h) (KO_99 r) (.int _ _) B m
def ent_99 (N : Nat) : List (PV D) → Bt D → Nat → CallR D := fun args _ _ => match args with
  | [.agg [.int .i64 a0, .int .i64 a1, .int .i64 a2, .bool a3, .str a4]] => .opt (Int) (F_99 N a0 a1 a2 a3 a4) default (fun r => O_99 r)
  | _ => .bad
theorem ent_99_ok (hkn : HkS hk) (N : Nat) (args : List (PV D)) (B : Bt D) (m : Nat) : CallOk Tryz.prog hk V 99 args B m (ent_99 N args B m) := by
  unfold ent_99
  split
  · intro r hr; exact law_99 hkn _ _ _ _ _ hr B m
  · trivial
def yc_63 : YC := ycOf Tryz.prog 63 []
def rs_63 : List RV := [.t 4]
theorem cf_63 : compF Tryz.prog 63 [] = some (yc_63, rs_63, 30) := by kernel_rfl
def K_63 : PV D → Y D → Option (Int) := fun v _ => match v with
  | .int .i64 q0 => some q0
  | _ => none
def O_63 (r : Int) : PV D := .int .i64 r
theorem KO_63 (r : Int) (v : PV D) (st : Y D) (h : K_63 v st = some r) : v = O_63 r := by
  unfold K_63 at h
  split at h <;> first | (cases h; rfl) | (cases h)
def T_63 (N : Nat) : Tbl D := tblOf [(59, ent_59 N), (99, ent_99 N)]
theorem FE_63 (N : Nat) (a0 : Int) (a1 : List UInt8) (a2 : Int) (a3 : Int) (a4 : Int) (a5 : Bool) (a6 : List UInt8) : fsem (D := D) (T_63 N) N yc_63 rs_63 [.agg [.int .i64 a0, .str a1], .agg [.int .i64 a2, .int .i64 a3, .int .i64 a4, .bool a5, .str a6]] .leaf 0 K_63 = F_63 N a0 a1 a2 a3 a4 a5 a6 := by kernel_rfl
theorem TO_63 (hkn : HkS hk) (N : Nat) : TblOk Tryz.prog hk V (T_63 N) := tblOf_ok (tok1 (ent_59_ok hkn N) (tok1 (ent_99_ok hkn N) (tok0)))
theorem law_63 (hkn : HkS hk) {N : Nat} (a0 : Int) (a1 : List UInt8) (a2 : Int) (a3 : Int) (a4 : Int) (a5 : Bool) (a6 : List UInt8) {r : Int} (h : F_63 N a0 a1 a2 a3 a4 a5 a6 = some r) (B : Bt D) (m : Nat) : FunS Tryz.prog hk V 63 [.agg [.int .i64 a0, .str a1], .agg [.int .i64 a2, .int .i64 a3, .int .i64 a4, .bool a5, .str a6]] B m [] (O_63 r) B m :=
  fun_pure (TO_63 hkn N) cf_63 (hkn.no 63 rfl) (Nat.le_of_ble_eq_true rfl) (noO rfl) (.cons _ _ (.agg _ (.cons _ _ (.int _ _) (.cons _ _ (.str _) .nil))) (.cons _ _ (.agg _ (.cons _ _ (.int _ _) (.cons _ _ (.int _ _) (.cons _ _ (.int _ _) (.cons _ _ (.bool _) (.cons _ _ (.str _) .nil)))))) .nil)) (K := K_63) (by rw [FE_63]; exact h) (KO_63 r) (.int _ _) B m
def ent_63 (N : Nat) : List (PV D) → Bt D → Nat → CallR D := fun args _ _ => match args with
  | [.agg [.int .i64 a0, .str a1], .agg [.int .i64 a2, .int .i64 a3, .int .i64 a4, .bool a5, .str a6]] => .opt (Int) (F_63 N a0 a1 a2 a3 a4 a5 a6) default (fun r => O_63 r)
  | _ => .bad
theorem ent_63_ok (hkn : HkS hk) (N : Nat) (args : List (PV D)) (B : Bt D) (m : Nat) : CallOk Tryz.prog hk V 63 args B m (ent_63 N args B m) := by
  unfold ent_63
  split
  · intro r hr; exact law_63 hkn _ _ _ _ _ _ _ hr B m
  · trivial
def yc_64 : YC := ycOf Tryz.prog 64 [[((.tmp 6), (.int .i64))]]
def rs_64 : List RV := [.t 2]
theorem cf_64 : compF Tryz.prog 64 [[((.tmp 6), (.int .i64))]] = some (yc_64, rs_64, 20) := by kernel_rfl
def K_64 : PV D → Y D → Option (Bool) := fun v _ => match v with
  | .bool q0 => some q0
  | _ => none
def O_64 (r : Bool) : PV D := .bool r
theorem KO_64 (r : Bool) (v : PV D) (st : Y D) (h : K_64 v st = some r) : v = O_64 r := by
  unfold K_64 at h
  split at h <;> first | (cases h; rfl) | (cases h)
def T_64 (N : Nat) : Tbl D := tblOf []
theorem FE_64 (N : Nat) (a0 : List UInt8) : fsem (D := D) (T_64 N) N yc_64 rs_64 [.str a0] .leaf 0 K_64 = F_64 N a0 := by kernel_rfl
theorem TO_64 (hkn : HkS hk) (N : Nat) : TblOk Tryz.prog hk V (T_64 N) := tblOf_ok (tok0)
theorem law_64 (hkn : HkS hk) {N : Nat} (a0 : List UInt8) {r : Bool} (h : F_64 N a0 = some r) (B : Bt D) (m : Nat) : FunS Tryz.prog hk V 64 [.str a0] B m [] (O_64 r) B m :=
  fun_pure (TO_64 hkn N) cf_64 (hkn.no 64 rfl) (Nat.le_of_ble_eq_true rfl) (noO rfl) (.cons _ _ (.str _) .nil) (K := K_64) (by rw [FE_64]; exact h) (KO_64 r) (.bool _) B m
def ent_64 (N : Nat) : List (PV D) → Bt D → Nat → CallR D := fun args _ _ => match args with
  | [.str a0] => .opt (Bool) (F_64 N a0) default (fun r => O_64 r)
  | _ => .bad
theorem ent_64_ok (hkn : HkS hk) (N : Nat) (args : List (PV D)) (B : Bt D) (m : Nat) : CallOk Tryz.prog hk V 64 args B m (ent_64 N args B m) := by
  unfold ent_64
  split
  · intro r hr; exact law_64 hkn _ hr B m
  · trivial
def yc_228 : YC := ycOf Tryz.prog 228 []
def rs_228 : List RV := [.t 2]
theorem cf_228 : compF Tryz.prog 228 [] = some (yc_228, rs_228, 12) := by kernel_rfl
def K_228 : PV D → Y D → Option (Int) := fun v _ => match v with
  | .int .u64 q0 => some q0
  | _ => none
def O_228 (r : Int) : PV D := .int .u64 r
theorem KO_228 (r : Int) (v : PV D) (st : Y D) (h : K_228 v st = some r) : v = O_228 r := by
  unfold K_228 at h
  split at h <;> first | (cases h; rfl) | (cases h)
def T_228 (N : Nat) : Tbl D := tblOf []
theorem FE_228 (N : Nat) (a0 : Int) : fsem (D := D) (T_228 N) N yc_228 rs_228 [.int .i64 a0] .leaf 0 K_228 = F_228 N a0 := by kernel_rfl
theorem TO_228 (hkn : HkS hk) (N : Nat) : TblOk Tryz.prog hk V (T_228 N) := tblOf_ok (tok0)
theorem law_228 (hkn : HkS hk) {N : Nat} (a0 : Int) {r : Int} (h : F_228 N a0 = some r) (B : Bt D) (m : Nat) : FunS Tryz.prog hk V 228 [.int .i64 a0] B m [] (O_228 r) B m :=
  fun_pure (TO_228 hkn N) cf_228 (hkn.no 228 rfl) (Nat.le_of_ble_eq_true rfl) (noO rfl) (.cons _ _ (.int _ _) .nil) (K := K_228) (by rw [FE_228]; exact h) (KO_228 r) (.int _ _) B m
def ent_228 (N : Nat) : List (PV D) → Bt D → Nat → CallR D := fun args _ _ => match args with
  | [.int .i64 a0] => .opt (Int) (F_228 N a0) default (fun r => O_228 r)
  | _ => .bad
theorem ent_228_ok (hkn : HkS hk) (N : Nat) (args : List (PV D)) (B : Bt D) (m : Nat) : CallOk Tryz.prog hk V 228 args B m (ent_228 N args B m) := by
  unfold ent_228
  split
  · intro r hr; exact law_228 hkn _ hr B m
  · trivial
def yc_208 : YC := ycOf Tryz.prog 208 [[((.tmp 5), (.int .u64)), ((.tmp 7), (.int .i64)), ((.row 0), (.rowI 5 .u8))]]
def rs_208 : List RV := [.t 4]
theorem cf_208 : compF Tryz.prog 208 [[((.tmp 5), (.int .u64)), ((.tmp 7), (.int .i64)), ((.row 0), (.rowI 5 .u8))]] = some (yc_208, rs_208, 29) := by kernel_rfl
def K_208 : PV D → Y D → Option (List UInt8) := fun v _ => match v with
  | .str q0 => some q0
  | _ => none
def O_208 (r : List UInt8) : PV D := .str r
theorem KO_208 (r : List UInt8) (v : PV D) (st : Y D) (h : K_208 v st = some r) : v = O_208 r := by
  unfold K_208 at h
  split at h <;> first | (cases h; rfl) | (cases h)
def T_208 (N : Nat) : Tbl D := tblOf [(228, ent_228 N)]
theorem FE_208 (N : Nat) (a0 : Int) (a1 : Int) : fsem (D := D) (T_208 N) N yc_208 rs_208 [.int .i64 a0, .int .i64 a1] .leaf 0 K_208 = F_208 N a0 a1 := by kernel_rfl
theorem TO_208 (hkn : HkS hk) (N : Nat) : TblOk Tryz.prog hk V (T_208 N) := tblOf_ok (tok1 (ent_228_ok hkn N) (tok0))
theorem law_208 (hkn : HkS hk) {N : Nat} (a0 : Int) (a1 : Int) {r : List UInt8} (h : F_208 N a0 a1 = some r) (B : Bt D) (m : Nat) : FunS Tryz.prog hk V 208 [.int .i64 a0, .int .i64 a1] B m [] (O_208 r) B m :=
  fun_pure (TO_208 hkn N) cf_208 (hkn.no 208 rfl) (Nat.le_of_ble_eq_true rfl) (noO rfl) (.cons _ _ (.int _ _) (.cons _ _ (.int _ _) .nil)) (K := K_208) (by rw [FE_208]; exact h) (KO_208 r) (.str _) B m
def ent_208 (N : Nat) : List (PV D) → Bt D → Nat → CallR D := fun args _ _ => match args with
  | [.int .i64 a0, .int .i64 a1] => .opt (List UInt8) (F_208 N a0 a1) default (fun r => O_208 r)
  | _ => .bad
theorem ent_208_ok (hkn : HkS hk) (N : Nat) (args : List (PV D)) (B : Bt D) (m : Nat) : CallOk Tryz.prog hk V 208 args B m (ent_208 N args B m) := by
  unfold ent_208
  split
  · intro r hr; exact law_208 hkn _ _ hr B m
  · trivial
def yc_213 : YC := ycOf Tryz.prog 213 []
def rs_213 : List RV := [.t 4]
theorem cf_213 : compF Tryz.prog 213 [] = some (yc_213, rs_213, 12) := by kernel_rfl
def K_213 : PV D → Y D → Option (Int) := fun v _ => match v with
  | .int .u8 q0 => some q0
  | _ => none
def O_213 (r : Int) : PV D := .int .u8 r
theorem KO_213 (r : Int) (v : PV D) (st : Y D) (h : K_213 v st = some r) : v = O_213 r := by
  unfold K_213 at h
  split at h <;> first | (cases h; rfl) | (cases h)
def T_213 (N : Nat) : Tbl D := tblOf []
theorem FE_213 (N : Nat) (a0 : Int) (a1 : Bool) : fsem (D := D) (T_213 N) N yc_213 rs_213 [.int .u8 a0, .bool a1] .leaf 0 K_213 = F_213 N a0 a1 := by kernel_rfl
theorem TO_213 (hkn : HkS hk) (N : Nat) : TblOk Tryz.prog hk V (T_213 N) := tblOf_ok (tok0)
theorem law_213 (hkn : HkS hk) {N : Nat} (a0 : Int) (a1 : Bool) {r : Int} (h : F_213 N a0 a1 = some r) (B : Bt D) (m : Nat) : FunS Tryz.prog hk V 213 [.int .u8 a0, .bool a1] B m [] (O_213 r) B m :=
  fun_pure (TO_213 hkn N) cf_213 (hkn.no 213 rfl) (Nat.le_of_ble_eq_true rfl) (noO rfl) (.cons _ _ (.int _ _) (.cons _ _ (.bool _) .nil)) (K := K_213) (by rw [FE_213]; exact h) (KO_213 r) (.int _ _) B m
def ent_213 (N : Nat) : List (PV D) → Bt D → Nat → CallR D := fun args _ _ => match args with
  | [.int .u8 a0, .bool a1] => .opt (Int) (F_213 N a0 a1) default (fun r => O_213 r)
  | _ => .bad
theorem ent_213_ok (hkn : HkS hk) (N : Nat) (args : List (PV D)) (B : Bt D) (m : Nat) : CallOk Tryz.prog hk V 213 args B m (ent_213 N args B m) := by
  unfold ent_213
  split
  · intro r hr; exact law_213 hkn _ _ hr B m
  · trivial
def yc_212 : YC := ycOf Tryz.prog 212 []
def rs_212 : List RV := [.t 6]
theorem cf_212 : compF Tryz.prog 212 [] = some (yc_212, rs_212, 21) := by kernel_rfl
def K_212 : PV D → Y D → Option (Int) := fun v _ => match v with
  | .int .u8 q0 => some q0
  | _ => none
def O_212 (r : Int) : PV D := .int .u8 r
theorem KO_212 (r : Int) (v : PV D) (st : Y D) (h : K_212 v st = some r) : v = O_212 r := by
  unfold K_212 at h
  split at h <;> first | (cases h; rfl) | (cases h)
def T_212 (N : Nat) : Tbl D := tblOf [(147, ent_147 N), (213, ent_213 N)]
theorem FE_212 (N : Nat) (a0 : Int) (a1 : Int) (a2 : Bool) : fsem (D := D) (T_212 N) N yc_212 rs_212 [.int .u8 a0, .int .u8 a1, .bool a2] .leaf 0 K_212 = F_212 N a0 a1 a2 := by kernel_rfl
theorem TO_212 (hkn : HkS hk) (N : Nat) : TblOk Tryz.prog hk V (T_212 N) := tblOf_ok (tok1 (ent_147_ok hkn N) (tok1 (ent_213_ok hkn N) (tok0)))
theorem law_212 (hkn : HkS hk) {N : Nat} (a0 : Int) (a1 : Int) (a2 : Bool) {r : Int} (h : F_212 N a0 a1 a2 = some r) (B : Bt D) (m : Nat) : FunS Tryz.prog hk V 212 [.int .u8 a0, .int .u8 a1, .bool a2] B m [] (O_212 r) B m :=
  fun_pure (TO_212 hkn N) cf_212 (hkn.no 212 rfl) (Nat.le_of_ble_eq_true rfl) (noO rfl) (.cons _ _ (.int _ _) (.cons _ _ (.int _ _) (.cons _ _ (.bool _) .nil))) (K := K_212) (by rw [FE_212]; exact h) (KO_212 r) (.int _ _) B m
def ent_212 (N : Nat) : List (PV D) → Bt D → Nat → CallR D := fun args _ _ => match args with
  | [.int .u8 a0, .int .u8 a1, .bool a2] => .opt (Int) (F_212 N a0 a1 a2) default (fun r => O_212 r)
  | _ => .bad
theorem ent_212_ok (hkn : HkS hk) (N : Nat) (args : List (PV D)) (B : Bt D) (m : Nat) : CallOk Tryz.prog hk V 212 args B m (ent_212 N args B m) := by
  unfold ent_212
  split
  · intro r hr; exact law_212 hkn _ _ _ hr B m
  · trivial
def yc_229 : YC := ycOf Tryz.prog 229 []
def rs_229 : List RV := [.t 4, .t 5]
theorem cf_229 : compF Tryz.prog 229 [] = some (yc_229, rs_229, 17) := by kernel_rfl
def K_229 : PV D → Y D → Option (Int × Bool) := fun v _ => match v with
  | .tup [.int .u8 q0, .bool q1] => some (q0, q1)
  | _ => none
def O_229 (r : Int × Bool) : PV D := .tup [.int .u8 r.1, .bool r.2]
theorem KO_229 (r : Int × Bool) (v : PV D) (st : Y D) (h : K_229 v st = some r) : v = O_229 r := by
  unfold K_229 at h
  split at h <;> first | (cases h; rfl) | (cases h)
def T_229 (N : Nat) : Tbl D := tblOf []
theorem FE_229 (N : Nat) (a0 : Int) (a1 : Bool) : fsem (D := D) (T_229 N) N yc_229 rs_229 [.int .i64 a0, .bool a1] .leaf 0 K_229 = F_229 N a0 a1 := by kernel_rfl
theorem TO_229 (hkn : HkS hk) (N : Nat) : TblOk Tryz.prog hk V (T_229 N) := tblOf_ok (tok0)
theorem law_229 (hkn : HkS hk) {N : Nat} (a0 : Int) (a1 : Bool) {r : Int × Bool} (h : F_229 N a0 a1 = some r) (B : Bt D) (m : Nat) : FunS Tryz.prog hk V 229 [.int .i64 a0, .bool a1] B m [] (O_229 r) B m :=
  fun_pure (TO_229 hkn N) cf_229 (hkn.no 229 rfl) (Nat.le_of_ble_eq_true rfl) (noO rfl) (.cons _ _ (.int _ _) (.cons _ _ (.bool _) .nil)) (K := K_229) (by rw [FE_229]; exact h) (KO_229 r) (.tup _ (.cons _ _ (.int _ _) (.cons _ _ (.bool _) .nil))) B m
def ent_229 (N : Nat) : List (PV D) → Bt D → Nat → CallR D := fun args _ _ => match args with
  | [.int .i64 a0, .bool a1] => .opt (Int × Bool) (F_229 N a0 a1) default (fun r => O_229 r)
  | _ => .bad
theorem ent_229_ok (hkn : HkS hk) (N : Nat) (args : List (PV D)) (B : Bt D) (m : Nat) : CallOk Tryz.prog hk V 229 args B m (ent_229 N args B m) := by
  unfold ent_229
  split
  · intro r hr; exact law_229 hkn _ _ hr B m
  · trivial
def yc_211 : YC := ycOf Tryz.prog 211 []
def rs_211 : List RV := [.t 6]
theorem cf_211 : compF Tryz.prog 211 [] = some (yc_211, rs_211, 42) := by kernel_rfl
def K_211 : PV D → Y D → Option (Int) := fun v _ => match v with
  | .int .u8 q0 => some q0
  | _ => none
def O_211 (r : Int) : PV D := .int .u8 r
theorem KO_211 (r : Int) (v : PV D) (st : Y D) (h : K_211 v st = some r) : v = O_211 r := by
  unfold K_211 at h
  split at h <;> first | (cases h; rfl) | (cases h)
def T_211 (N : Nat) : Tbl D := tblOf [(229, ent_229 N)]
theorem FE_211 (N : Nat) (a0 : Int) (a1 : Int) (a2 : Bool) : fsem (D := D) (T_211 N) N yc_211 rs_211 [.int .u8 a0, .int .u8 a1, .bool a2] .leaf 0 K_211 = F_211 N a0 a1 a2 := by kernel_rfl
theorem TO_211 (hkn : HkS hk) (N : Nat) : TblOk Tryz.prog hk V (T_211 N) := tblOf_ok (tok1 (ent_229_ok hkn N) (tok0))
theorem law_211 (hkn : HkS hk) {N : Nat} (a0 : Int) (a1 : Int) (a2 : Bool) {r : Int} (h : F_211 N a0 a1 a2 = some r) (B : Bt D) (m : Nat) : FunS Tryz.prog hk V 211 [.int .u8 a0, .int .u8 a1, .bool a2] B m [] (O_211 r) B m :=
  fun_pure (TO_211 hkn N) cf_211 (hkn.no 211 rfl) (Nat.le_of_ble_eq_true rfl) (noO rfl) (.cons _ _ (.int _ _) (.cons _ _ (.int _ _) (.cons _ _ (.bool _) .nil))) (K := K_211) (by rw [FE_211]; exact h) (KO_211 r) (.int _ _) B m
def ent_211 (N : Nat) : List (PV D) → Bt D → Nat → CallR D := fun args _ _ => match args with
  | [.int .u8 a0, .int .u8 a1, .bool a2] => .opt (Int) (F_211 N a0 a1 a2) default (fun r => O_211 r)
  | _ => .bad
theorem ent_211_ok (hkn : HkS hk) (N : Nat) (args : List (PV D)) (B : Bt D) (m : Nat) : CallOk Tryz.prog hk V 211 args B m (ent_211 N args B m) := by
  unfold ent_211
  split
  · intro r hr; exact law_211 hkn _ _ _ hr B m
  · trivial
def yc_210 : YC := ycOf Tryz.prog 210 []
def rs_210 : List RV := [.t 2]
theorem cf_210 : compF Tryz.prog 210 [] = some (yc_210, rs_210, 5) := by kernel_rfl
def K_210 : PV D → Y D → Option (Int) := fun v _ => match v with
  | .int .u8 q0 => some q0
  | _ => none
def O_210 (r : Int) : PV D := .int .u8 r
theorem KO_210 (r : Int) (v : PV D) (st : Y D) (h : K_210 v st = some r) : v = O_210 r := by
  unfold K_210 at h
  split at h <;> first | (cases h; rfl) | (cases h)
def T_210 (N : Nat) : Tbl D := tblOf [(147, ent_147 N)]
theorem FE_210 (N : Nat) (a0 : List UInt8) : fsem (D := D) (T_210 N) N yc_210 rs_210 [.str a0] .leaf 0 K_210 = F_210 N a0 := by kernel_rfl
theorem TO_210 (hkn : HkS hk) (N : Nat) : TblOk Tryz.prog hk V (T_210 N) := tblOf_ok (tok1 (ent_147_ok hkn N) (tok0))
theorem law_210 (hkn : HkS hk) {N : Nat} (a0 : List UInt8) {r : Int} (h : F_210 N a0 = some r) (B : Bt D) (m : Nat) : FunS Tryz.prog hk V 210 [.str a0] B m [] (O_210 r) B m :=
  fun_pure (TO_210 hkn N) cf_210 (hkn.no 210 rfl) (Nat.le_of_ble_eq_true rfl) (noO rfl) (.cons _ _ (.str _) .nil) (K := K_210) (by rw [FE_210]; exact h) (KO_210 r) (.int _ _) B m
def ent_210 (N : Nat) : List (PV D) → Bt D → Nat → CallR D := fun args _ _ => match args with
  | [.str a0] => .opt (Int) (F_210 N a0) default (fun r => O_210 r)
  | _ => .bad
theorem ent_210_ok (hkn : HkS hk) (N : Nat) (args : List (PV D)) (B : Bt D) (m : Nat) : CallOk Tryz.prog hk V 210 args B m (ent_210 N args B m) := by
  unfold ent_210
  split
  · intro r hr; exact law_210 hkn _ hr B m
  · trivial
def yc_209 : YC := ycOf Tryz.prog 209 [[((.tmp 6), (.int .i64)), ((.tmp 7), (.int .i64)), ((.tmp 8), (.int .i64))]]
def rs_209 : List RV := [.t 4]
theorem cf_209 : compF Tryz.prog 209 [[((.tmp 6), (.int .i64)), ((.tmp 7), (.int .i64)), ((.tmp 8), (.int .i64))]] = some (yc_209, rs_209, 65) := by kernel_rfl
def K_209 : PV D → Y D → Option (Int) := fun v _ => match v with
  | .int .i64 q0 => some q0
  | _ => none
def O_209 (r : Int) : PV D := .int .i64 r
theorem KO_209 (r : Int) (v : PV D) (st : Y D) (h : K_209 v st = some r) : v = O_209 r := by
  unfold K_209 at h
  split at h <;> first | (cases h; rfl) | (cases h)
def T_209 (N : Nat) : Tbl D := tblOf [(146, ent_146 N), (147, ent_147 N), (183, ent_183 N)]
theorem FE_209 (N : Nat) (a0 : List UInt8) (a1 : Bool) (a2 : Int) (a3 : Int) (a4 : Int) (a5 : Bool) (a6 : List UInt8) : fsem (D := D) (T_209 N) N yc_209 rs_209 [.agg [.str a0, .bool a1, .int .i64 a2, .int .i64 a3, .int .i64 a4, .bool a5], .str a6] .leaf 0 K_209 = F_209 N a0 a1 a2 a3 a4 a5 a6 := by kernel_rfl
theorem TO_209 (hkn : HkS hk) (N : Nat) : TblOk Tryz.prog hk V (T_209 N) := tblOf_ok (tok1 (ent_146_ok hkn N) (tok1 (ent_147_ok hkn N) (tok1 (ent_183_ok hkn N) (tok0))))
theorem law_209 (hkn : HkS hk) {N : Nat} (a0 : List UInt8) (a1 : Bool) (a2 : Int) (a3 : Int) (a4 : Int) (a5 : Bool) (a6 : List UInt8) {r : Int} (h : F_209 N a0 a1 a2 a3 a4 a5 a6 = some r) (B : Bt D) (m : Nat) : FunS Tryz.prog hk V 209 [.agg [.str a0, .bool a1, .int .i64 a2, .int .i64 a3, .int .i64 a4, .bool a5], .str a6] B m [] (O_209 r) B m :=
  fun_pure (TO_209 hkn N) cf_209 (hkn.no 209 rfl) (Nat.le_of_ble_eq_true rfl) (noO rfl) (.cons _ _ (.agg _ (.cons _ _ (.str _) (.cons _ _ (.bool _) (.cons _ _ (.int _ _) (.cons _ _ (.int _ _) (.cons _ _ (.int _ _) (.cons _ _ (.bool _) .nil))))))) (.cons _ _ (.str _) .nil)) (K := K_209) (by rw [FE_209]; exact h) (KO_209 r) (.int _ _) B m
def ent_209 (N : Nat) : List (PV D) → Bt D → Nat → CallR D := fun args _ _ => match args with
  | [.agg [.str a0, .bool a1, .int .i64 a2, .int .i64 a3, .int .i64 a4, .bool a5], .str a6] => .opt (Int) (F_209 N a0 a1 a2 a3 a4 a5 a6) default (fun r => O_209 r)
  | _ => .bad
theorem ent_209_ok (hkn : HkS hk) (N : Nat) (args : List (PV D)) (B : Bt D) (m : Nat) : CallOk Tryz.prog hk V 209 args B m (ent_209 N args B m) := by
  unfold ent_209
  split
  · intro r hr; exact law_209 hkn _ _ _ _ _ _ _ hr B m
  · trivial
def yc_180 : YC := ycOf Tryz.prog 180 [[((.tmp 10), (.rowI 5 .u8)), ((.tmp 11), (.int .i64)), ((.tmp 12), (.int .i64))]]
def rs_180 : List RV := [.t 4]
theorem cf_180 : compF Tryz.prog 180 [[((.tmp 10), (.rowI 5 .u8)), ((.tmp 11), (.int .i64)), ((.tmp 12), (.int .i64))]] = some (yc_180, rs_180, 156) := by kernel_rfl
def K_180 : PV D → Y D → Option (List UInt8) := fun v _ => match v with
  | .str q0 => some q0
  | _ => none
def O_180 (r : List UInt8) : PV D := .str r
theorem KO_180 (r : List UInt8) (v : PV D) (st : Y D) (h : K_180 v st = some r) : v = O_180 r := by
  unfold K_180 at h
  split at h <;> first | (cases h; rfl) | (cases h)
def T_180 (N : Nat) : Tbl D := tblOf [(146, ent_146 N), (147, ent_147 N), (183, ent_183 N), (188, ent_188 N), (208, ent_208 N), (209, ent_209 N), (210, ent_210 N), (211, ent_211 N), (212, ent_212 N), (213, ent_213 N)]
theorem FE_180 (N : Nat) (a0 : List UInt8) (a1 : Bool) (a2 : Int) (a3 : Int) (a4 : Int) (a5 : Bool) (a6 : Int) : fsem (D := D) (T_180 N) N yc_180 rs_180 [.agg [.str a0, .bool a1, .int .i64 a2, .int .i64 a3, .int .i64 a4, .bool a5], .int .i64 a6] .leaf 0 K_180 = F_180 N a0 a1 a2 a3 a4 a5 a6 := by kernel_rfl
theorem TO_180 (hkn : HkS hk) (N : Nat) : TblOk Tryz.prog hk V (T_180 N) := tblOf_ok (tok1 (ent_146_ok hkn N) (tok1 (ent_147_ok hkn N) (tok1 (ent_183_ok hkn N) (tok1 (ent_188_ok hkn N) (tok1 (ent_208_ok hkn N) (tok1 (ent_209_ok hkn N) (tok1 (ent_210_ok hkn N) (tok1 (ent_211_ok hkn N) (tok1 (ent_212_ok hkn N) (tok1 (ent_213_ok hkn N) (tok0)))))))))))
theorem law_180 (hkn : HkS hk) {N : Nat} (a0 : List UInt8) (a1 : Bool) (a2 : Int) (a3 : Int) (a4 : Int) (a5 : Bool) (a6 : Int) {r : List UInt8} (h : F_180 N a0 a1 a2 a3 a4 a5 a6 = some r) (B : Bt D) (m : Nat) : FunS Tryz.prog hk V 180 [.agg [.str a0, .bool a1, .int .i64 a2, .int .i64 a3, .int .i64 a4, .bool a5], .int .i64 a6] B m [] (O_180 r) B m :=
  fun_pure (TO_180 hkn N) cf_180 (hkn.no 180 rfl) (Nat.le_of_ble_eq_true rfl) (noO rfl) (.cons _ _ (.agg _ (.cons _ _ (.str _) (.cons _ _ (.bool _) (.cons _ _ (.int _ _) (.cons _ _ (.int _ _) (.cons _ _ (.int _ _) (.cons _ _ (.bool _) .nil))))))) (.cons _ _ (.int _ _) .nil)) (K := K_180) (by rw [FE_180]; exact h) (KO_180 r) (.str _) B m
def ent_180 (N : Nat) : List (PV D) → Bt D → Nat → CallR D := fun args _ _ => match args with
  | [.agg [.str a0, .bool a1, .int .i64 a2, .int .i64 a3, .int .i64 a4, .bool a5], .int .i64 a6] => .opt (List UInt8) (F_180 N a0 a1 a2 a3 a4 a5 a6) default (fun r => O_180 r)
  | _ => .bad
theorem ent_180_ok (hkn : HkS hk) (N : Nat) (args : List (PV D)) (B : Bt D) (m : Nat) : CallOk Tryz.prog hk V 180 args B m (ent_180 N args B m) := by
  unfold ent_180
  split
  · intro r hr; exact law_180 hkn _ _ _ _ _ _ _ hr B m
  · trivial
def yc_179 : YC := ycOf Tryz.prog 179 [[((.tmp 5), (.int .i64))]]
def rs_179 : List RV := [.t 2, .t 3, .t 4]
theorem cf_179 : compF Tryz.prog 179 [[((.tmp 5), (.int .i64))]] = some (yc_179, rs_179, 20) := by kernel_rfl
def K_179 : PV D → Y D → Option (Int × Bool × Bool) := fun v _ => match v with
  | .tup [.int .i64 q0, .bool q1, .bool q2] => some (q0, q1, q2)
  | _ => none
def O_179 (r : Int × Bool × Bool) : PV D := .tup [.int .i64 r.1, .bool r.2.1, .bool r.2.2]
theorem KO_179 (r : Int × Bool × Bool) (v : PV D) (st : Y D) (h : K_179 v st = some r) : v = O_179 r := by
  unfold K_179 at h
  split at h <;> first | (cases h; rfl) | (cases h)
def T_179 (N : Nat) : Tbl D := tblOf []
theorem FE_179 (N : Nat) (a0 : Int) : fsem (D := D) (T_179 N) N yc_179 rs_179 [.int .u8 a0] .leaf 0 K_179 = F_179 N a0 := by kernel_rfl
theorem TO_179 (hkn : HkS hk) (N : Nat) : TblOk Tryz.prog hk V (T_179 N) := tblOf_ok (tok0)
theorem law_179 (hkn : HkS hk) {N : Nat} (a0 : Int) {r : Int × Bool × Bool} (h : F_179 N a0 = some r) (B : Bt D) (m : Nat) : FunS Tryz.prog hk V 179 [.int .u8 a0] B m [] (O_179 r) B m :=
  fun_pure (TO_179 hkn N) cf_179 (hkn.no 179 rfl) (Nat.le_of_ble_eq_true rfl) (noO rfl) (.cons _ _ (.int _ _) .nil) (K := K_179) (by rw [FE_179]; exact h) (KO_179 r) (.tup _ (.cons _ _ (.int _ _) (.cons _ _ (.bool _) (.cons _ _ (.bool _) .nil)))) B m
def ent_179 (N : Nat) : List (PV D) → Bt D → Nat → CallR D := fun args _ _ => match args with
  | [.int .u8 a0] => .opt (Int × Bool × Bool) (F_179 N a0) default (fun r => O_179 r)
  | _ => .bad
theorem ent_179_ok (hkn : HkS hk) (N : Nat) (args : List (PV D)) (B : Bt D) (m : Nat) : CallOk Tryz.prog hk V 179 args B m (ent_179 N args B m) := by
  unfold ent_179
  split
  · intro r hr; exact law_179 hkn _ hr B m
  · trivial
def yc_139 : YC := ycOf Tryz.prog 139 [[((.tmp 8), (.int .i64)), ((.tmp 10), (.int .i64)), ((.tmp 11), (.int .i64))]]
def rs_139 : List RV := [.t 4, .t 5]
theorem cf_139 : compF Tryz.prog 139 [[((.tmp 8), (.int .i64)), ((.tmp 10), (.int .i64)), ((.tmp 11), (.int .i64))]] = some (yc_139, rs_139, 110) := by kernel_rfl
def K_139 : PV D → Y D → Option (Int × Int) := fun v _ => match v with
  | .tup [.int .i64 q0, .int .i64 q1] => some (q0, q1)
  | _ => none
def O_139 (r : Int × Int) : PV D := .tup [.int .i64 r.1, .int .i64 r.2]
theorem KO_139 (r : Int × Int) (v : PV D) (st : Y D) (h : K_139 v st = some r) : v = O_139 r := by
  unfold K_139 at h
  split at h <;> first | (cases h; rfl) | (cases h)
def T_139 (N : Nat) : Tbl D := tblOf [(105, ent_105 N), (146, ent_146 N), (179, ent_179 N), (180, ent_180 N)]
theorem FE_139 (N : Nat) (a0 : List UInt8) (a1 : List UInt8) : fsem (D := D) (T_139 N) N yc_139 rs_139 [.str a0, .str a1] .leaf 0 K_139 = F_139 N a0 a1 := by kernel_rfl
theorem TO_139 (hkn : HkS hk) (N : Nat) : TblOk Tryz.prog hk V (T_139 N) := tblOf_ok (tok1 (ent_105_ok hkn N) (tok1 (ent_146_ok hkn N) (tok1 (ent_179_ok hkn N) (tok1 (ent_180_ok hkn N) (tok0)))))
theorem law_139 (hkn : HkS hk) {N : Nat} (a0 : List UInt8) (a1 : List UInt8) {r : Int × Int} (h : F_139 N a0 a1 = some r) (B : Bt D) (m : Nat) : FunS Tryz.prog hk V 139 [.str a0, .str a1] B m [] (O_139 r) B m :=
  fun_pure (TO_139 hkn N) cf_139 (hkn.no 139 rfl) (Nat.le_of_ble_eq_true rfl) (noO rfl) (.cons _ _ (.str _) (.cons _ _ (.str _) .nil)) (K := K_139) (by rw [FE_139]; exact h) (KO_139 r) (.tup _ (.cons _ _ (.int _ _) (.cons _ _ (.int _ _) .nil))) B m
def ent_139 (N : Nat) : List (PV D) → Bt D → Nat → CallR D := fun args _ _ => match args with
  | [.str a0, .str a1] => .opt (Int × Int) (F_139 N a0 a1) default (fun r => O_139 r)
  | _ => .bad
theorem ent_139_ok (hkn : HkS hk) (N : Nat) (args : List (PV D)) (B : Bt D) (m : Nat) : CallOk Tryz.prog hk V 139 args B m (ent_139 N args B m) := by
  unfold ent_139
  split
  · intro r hr; exact law_139 hkn _ _ hr B m
  · trivial
def yc_140 : YC := ycOf Tryz.prog 140 []
def rs_140 : List RV := [.t 4]
theorem cf_140 : compF Tryz.prog 140 [] = some (yc_140, rs_140, 27) := by kernel_rfl
def K_140 : PV D → Y D → Option (Bool) := fun v _ => match v with
  | .bool q0 => some q0
  | _ => none
def O_140 (r : Bool) : PV D := .bool r
theorem KO_140 (r : Bool) (v : PV D) (st : Y D) (h : K_140 v st = some r) : v = O_140 r := by
  unfold K_140 at h
  split at h <;> first | (cases h; rfl) | (cases h)
def T_140 (N : Nat) : Tbl D := tblOf [(181, ent_181 N)]
theorem FE_140 (N : Nat) (a0 : Int) (a1 : Int) : fsem (D := D) (T_140 N) N yc_140 rs_140 [.int .u8 a0, .int .u8 a1] .leaf 0 K_140 = F_140 N a0 a1 := by kernel_rfl
theorem TO_140 (hkn : HkS hk) (N : Nat) : TblOk Tryz.prog hk V (T_140 N) := tblOf_ok (tok1 (ent_181_ok hkn N) (tok0))
theorem law_140 (hkn : HkS hk) {N : Nat} (a0 : Int) (a1 : Int) {r : Bool} (h : F_140 N a0 a1 = some r) (B : Bt D) (m : Nat) : FunS Tryz.prog hk V 140 [.int .u8 a0, .int .u8 a1] B m [] (O_140 r) B m :=
  fun_pure (TO_140 hkn N) cf_140 (hkn.no 140 rfl) (Nat.le_of_ble_eq_true rfl) (noO rfl) (.cons _ _ (.int _ _) (.cons _ _ (.int _ _) .nil)) (K := K_140) (by rw [FE_140]; exact h) (KO_140 r) (.bool _) B m
def ent_140 (N : Nat) : List (PV D) → Bt D → Nat → CallR D := fun args _ _ => match args with
  | [.int .u8 a0, .int .u8 a1] => .opt (Bool) (F_140 N a0 a1) default (fun r => O_140 r)
  | _ => .bad
theorem ent_140_ok (hkn : HkS hk) (N : Nat) (args : List (PV D)) (B : Bt D) (m : Nat) : CallOk Tryz.prog hk V 140 args B m (ent_140 N args B m) := by
  unfold ent_140
  split
  · intro r hr; exact law_140 hkn _ _ hr B m
  · trivial
def yc_104 : YC := ycOf Tryz.prog 104 [[((.tmp 7), (.int .i64))]]
def rs_104 : List RV := [.t 4]
theorem cf_104 : compF Tryz.prog 104 [[((.tmp 7), (.int .i64))]] = some (yc_104, rs_104, 45) := by kernel_rfl
def K_104 : PV D → Y D → Option (Bool) := fun v _ => match v with
  | .bool q0 => some q0
  | _ => none
def O_104 (r : Bool) : PV D := .bool r
theorem KO_104 (r : Bool) (v : PV D) (st : Y D) (h : K_104 v st = some r) : v = O_104 r := by
  unfold K_104 at h
  split at h <;> first | (cases h; rfl) | (cases h)
def T_104 (N : Nat) : Tbl D := tblOf [(105, ent_105 N), (139, ent_139 N), (140, ent_140 N)]
theorem FE_104 (N : Nat) (a0 : List UInt8) (a1 : List UInt8) : fsem (D := D) (T_104 N) N yc_104 rs_104 [.str a0, .str a1] .leaf 0 K_104 = F_104 N a0 a1 := by kernel_rfl
theorem TO_104 (hkn : HkS hk) (N : Nat) : TblOk Tryz.prog hk V (T_104 N) := tblOf_ok (tok1 (ent_105_ok hkn N) (tok1 (ent_139_ok hkn N) (tok1 (ent_140_ok hkn N) (tok0))))
theorem law_104 (hkn : HkS hk) {N : Nat} (a0 : List UInt8) (a1 : List UInt8) {r : Bool} (h : F_104 N a0 a1 = some r) (B : Bt D) (m : Nat) : FunS Tryz.prog hk V 104 [.str a0, .str a1] B m [] (O_104 r) B m :=
  fun_pure (TO_104 hkn N) cf_104 (hkn.no 104 rfl) (Nat.le_of_ble_eq_true rfl) (noO rfl) (.cons _ _ (.str _) (.cons _ _ (.str _) .nil)) (K := K_104) (by rw [FE_104]; exact h) (KO_104 r) (.bool _) B m
def ent_104 (N : Nat) : List (PV D) → Bt D → Nat → CallR D := fun args _ _ => match args with
  | [.str a0, .str a1] => .opt (Bool) (F_104 N a0 a1) default (fun r => O_104 r)
  | _ => .bad
theorem ent_104_ok (hkn : HkS hk) (N : Nat) (args : List (PV D)) (B : Bt D) (m : Nat) : CallOk Tryz.prog hk V 104 args B m (ent_104 N args B m) := by
  unfold ent_104
  split
  · intro r hr; exact law_104 hkn _ _ hr B m
  · trivial
def yc_171_h1 : YC := ycOf Tryz.prog 171 [[((.tmp 6), .bool), ((.tmp 25), (.int .i64))], [((.tmp 3), (.int .i64)), ((.tmp 4), (.int .i64)), ((.tmp 48), (.int .i64))]]
theorem cf_171_h1 : compF Tryz.prog 171 [[((.tmp 6), .bool), ((.tmp 25), (.int .i64))], [((.tmp 3), (.int .i64)), ((.tmp 4), (.int .i64)), ((.tmp 48), (.int .i64))]] = some (yc_171_h1, [.t 2], 86) := by kernel_rfl
def T_171_1 (N : Nat) : Tbl D := tblOf [(131, ent_131 N)]
theorem TO_171_1 (hkn : HkS hk) (N : Nat) : TblOk Tryz.prog hk V (T_171_1 N) := tblOf_ok (tok1 (ent_131_ok hkn N) (tok0))
def ent_171_1 (N : Nat) : List (PV D) → Bt D → Nat → CallR D := fun args B m => inlC (T_171_1 N) N yc_171_h1 [.t 2] 86 (.int .i64 0) args B m
theorem ent_171_1_ok (hkn : HkS hk) (N : Nat) (args : List (PV D)) (B : Bt D) (m : Nat) : CallOk Tryz.prog hk V 171 args B m (ent_171_1 N args B m) := inlC_ok (TO_171_1 hkn N) cf_171_h1 (hkn.no 171 rfl) _ args B m
def yc_206_h1 : YC := ycOf Tryz.prog 206 []
theorem cf_206_h1 : compF Tryz.prog 206 [] = some (yc_206_h1, [.t 2], 20) := by kernel_rfl
def T_206_1 (N : Nat) : Tbl D := tblOf []
theorem TO_206_1 (hkn : HkS hk) (N : Nat) : TblOk Tryz.prog hk V (T_206_1 N) := tblOf_ok (tok0)
def ent_206_1 (N : Nat) : List (PV D) → Bt D → Nat → CallR D := fun args B m => inlC (T_206_1 N) N yc_206_h1 [.t 2] 20 (.int .u8 0) args B m
theorem ent_206_1_ok (hkn : HkS hk) (N : Nat) (args : List (PV D)) (B : Bt D) (m : Nat) : CallOk Tryz.prog hk V 206 args B m (ent_206_1 N args B m) := inlC_ok (TO_206_1 hkn N) cf_206_h1 (hkn.no 206 rfl) _ args B m
def yc_172_h1 : YC := ycOf Tryz.prog 172 []
theorem cf_172_h1 : compF Tryz.prog 172 [] = some (yc_172_h1, [.t 4], 54) := by kernel_rfl
def T_172_1 (N : Nat) : Tbl D := tblOf [(206, ent_206_1 N), (207, ent_207 N)]
theorem TO_172_1 (hkn : HkS hk) (N : Nat) : TblOk Tryz.prog hk V (T_172_1 N) := tblOf_ok (tok1 (ent_206_1_ok hkn N) (tok1 (ent_207_ok hkn N) (tok0)))
def ent_172_1 (N : Nat) : List (PV D) → Bt D → Nat → CallR D := fun args B m => inlC (T_172_1 N) N yc_172_h1 [.t 4] 54 (.int .u8 0) args B m
theorem ent_172_1_ok (hkn : HkS hk) (N : Nat) (args : List (PV D)) (B : Bt D) (m : Nat) : CallOk Tryz.prog hk V 172 args B m (ent_172_1 N args B m) := inlC_ok (TO_172_1 hkn N) cf_172_h1 (hkn.no 172 rfl) _ args B m
def yc_173_h1 : YC := ycOf Tryz.prog 173 []
theorem cf_173_h1 : compF Tryz.prog 173 [] = some (yc_173_h1, [.t 4], 25) := by kernel_rfl
def T_173_1 (N : Nat) : Tbl D := tblOf [(206, ent_206_1 N)]
theorem TO_173_1 (hkn : HkS hk) (N : Nat) : TblOk Tryz.prog hk V (T_173_1 N) := tblOf_ok (tok1 (ent_206_1_ok hkn N) (tok0))
def ent_173_1 (N : Nat) : List (PV D) → Bt D → Nat → CallR D := fun args B m => inlC (T_173_1 N) N yc_173_h1 [.t 4] 25 (.int .u8 0) args B m
theorem ent_173_1_ok (hkn : HkS hk) (N : Nat) (args : List (PV D)) (B : Bt D) (m : Nat) : CallOk Tryz.prog hk V 173 args B m (ent_173_1 N args B m) := inlC_ok (TO_173_1 hkn N) cf_173_h1 (hkn.no 173 rfl) _ args B m
def yc_174_h1 : YC := ycOf Tryz.prog 174 []
theorem cf_174_h1 : compF Tryz.prog 174 [] = some (yc_174_h1, [.t 4], 26) := by kernel_rfl
def T_174_1 (N : Nat) : Tbl D := tblOf []
theorem TO_174_1 (hkn : HkS hk) (N : Nat) : TblOk Tryz.prog hk V (T_174_1 N) := tblOf_ok (tok0)
def ent_174_1 (N : Nat) : List (PV D) → Bt D → Nat → CallR D := fun args B m => inlC (T_174_1 N) N yc_174_h1 [.t 4] 26 (.int .u8 0) args B m
theorem ent_174_1_ok (hkn : HkS hk) (N : Nat) (args : List (PV D)) (B : Bt D) (m : Nat) : CallOk Tryz.prog hk V 174 args B m (ent_174_1 N args B m) := inlC_ok (TO_174_1 hkn N) cf_174_h1 (hkn.no 174 rfl) _ args B m
def yc_175_h1 : YC := ycOf Tryz.prog 175 []
theorem cf_175_h1 : compF Tryz.prog 175 [] = some (yc_175_h1, [.t 4], 26) := by kernel_rfl
def T_175_1 (N : Nat) : Tbl D := tblOf []
theorem TO_175_1 (hkn : HkS hk) (N : Nat) : TblOk Tryz.prog hk V (T_175_1 N) := tblOf_ok (tok0)
def ent_175_1 (N : Nat) : List (PV D) → Bt D → Nat → CallR D := fun args B m => inlC (T_175_1 N) N yc_175_h1 [.t 4] 26 (.int .u8 0) args B m
theorem ent_175_1_ok (hkn : HkS hk) (N : Nat) (args : List (PV D)) (B : Bt D) (m : Nat) : CallOk Tryz.prog hk V 175 args B m (ent_175_1 N args B m) := inlC_ok (TO_175_1 hkn N) cf_175_h1 (hkn.no 175 rfl) _ args B m
def yc_176_h1 : YC := ycOf Tryz.prog 176 []
theorem cf_176_h1 : compF Tryz.prog 176 [] = some (yc_176_h1, [.t 4], 6) := by kernel_rfl
def T_176_1 (N : Nat) : Tbl D := tblOf []
theorem TO_176_1 (hkn : HkS hk) (N : Nat) : TblOk Tryz.prog hk V (T_176_1 N) := tblOf_ok (tok0)
def ent_176_1 (N : Nat) : List (PV D) → Bt D → Nat → CallR D := fun args B m => inlC (T_176_1 N) N yc_176_h1 [.t 4] 6 (.int .u8 0) args B m
theorem ent_176_1_ok (hkn : HkS hk) (N : Nat) (args : List (PV D)) (B : Bt D) (m : Nat) : CallOk Tryz.prog hk V 176 args B m (ent_176_1 N args B m) := inlC_ok (TO_176_1 hkn N) cf_176_h1 (hkn.no 176 rfl) _ args B m
def yc_137 : YC := ycOf Tryz.prog 137 [[((.tmp 10), (.rowI 5 .u8)), ((.tmp 51), (.int .i64)), ((.cell 2 1), .str), ((.cell 2 2), .bool), ((.cell 2 3), (.int .i64)), ((.cell 2 4), (.int .i64)), ((.cell 2 5), (.int .i64))]]
def rs_137 : List RV := [.t 6, .t 7]
theorem cf_137 : compF Tryz.prog 137 [[((.tmp 10), (.rowI 5 .u8)), ((.tmp 51), (.int .i64)), ((.cell 2 1), .str), ((.cell 2 2), .bool), ((.cell 2 3), (.int .i64)), ((.cell 2 4), (.int .i64)), ((.cell 2 5), (.int .i64))]] = some (yc_137, rs_137, 171) := by kernel_rfl
def B0_137 (a0 : List UInt8) (a1 : Bool) (a2 : Int) (a3 : Int) (a4 : Int) (a5 : Bool) (a6 : List Int) (a7 : Int) (a8 : Int) (a9 : Bool) (a10 : Int) (a11 : Int) (a12 : List UInt8) (a13 : Bool) : Bt D := bset (bset .leaf 0 (some (0, .cells [.str a0, .bool a1, .int .i64 a2, .int .i64 a3, .int .i64 a4, .bool a5, .lsl 1, .int .u8 a7, .int .i64 a8, .bool a9, .int .u8 a10, .int .i64 a11]))) 1 (some (1, .rowI 208 .i64 a6))
def K_137 (a0 : List UInt8) (a1 : Bool) (a2 : Int) (a3 : Int) (a4 : Int) (a5 : Bool) (a6 : List Int) (a7 : Int) (a8 : Int) (a9 : Bool) (a10 : Int) (a11 : Int) (a12 : List UInt8) (a13 : Bool) : PV D → Y D → Option (List UInt8 × Int) := fun v st => match v with
  | .tup [.str q0, .int .i64 q1] => cond (roB (B0_137 a0 a1 a2 a3 a4 a5 a6 a7 a8 a9 a10 a11 a12 a13) st.B 2) (some (q0, q1)) none
  | _ => none
def O_137 (r : List UInt8 × Int) : PV D := .tup [.str r.1, .int .i64 r.2]
theorem KO_137 (a0 : List UInt8) (a1 : Bool) (a2 : Int) (a3 : Int) (a4 : Int) (a5 : Bool) (a6 : List Int) (a7 : Int) (a8 : Int) (a9 : Bool) (a10 : Int) (a11 : Int) (a12 : List UInt8) (a13 : Bool) (r : List UInt8 × Int) (v : PV D) (st : Y D) (h : K_137 a0 a1 a2 a3 a4 a5 a6 a7 a8 a9 a10 a11 a12 a13 v st = some r) : v = O_137 r ∧ roB (B0_137 a0 a1 a2 a3 a4 a5 a6 a7 a8 a9 a10 a11 a12 a13) st.B 2 = true := by
  unfold K_137 at h
  split at h
  · obtain ⟨h1, h2⟩ := cond_some h
    cases h2
    exact ⟨rfl, h1⟩
  · cases h
def T_137 (N : Nat) : Tbl D := tblOf [(28, ent_28 N), (171, ent_171_1 N), (172, ent_172_1 N), (173, ent_173_1 N), (174, ent_174_1 N), (175, ent_175_1 N), (176, ent_176_1 N)]
theorem FE_137 (N : Nat) (a0 : List UInt8) (a1 : Bool) (a2 : Int) (a3 : Int) (a4 : Int) (a5 : Bool) (a6 : List Int) (a7 : Int) (a8 : Int) (a9 : Bool) (a10 : Int) (a11 : Int) (a12 : List UInt8) (a13 : Bool) : fsem (D := D) (T_137 N) N yc_137 rs_137 [.lptr 0 0, .str a12, .bool a13] (B0_137 a0 a1 a2 a3 a4 a5 a6 a7 a8 a9 a10 a11 a12 a13) 2 (K_137 a0 a1 a2 a3 a4 a5 a6 a7 a8 a9 a10 a11 a12 a13) = F_137 N a0 a1 a2 a3 a4 a5 a6 a7 a8 a9 a10 a11 a12 a13 := by kernel_rfl
theorem TO_137 (hkn : HkS hk) (N : Nat) : TblOk Tryz.prog hk V (T_137 N) := tblOf_ok (tok1 (ent_28_ok hkn N) (tok1 (ent_171_1_ok hkn N) (tok1 (ent_172_1_ok hkn N) (tok1 (ent_173_1_ok hkn N) (tok1 (ent_174_1_ok hkn N) (tok1 (ent_175_1_ok hkn N) (tok1 (ent_176_1_ok hkn N) (tok0))))))))
theorem law_137 (hkn : HkS hk) {N : Nat} {a0 : List UInt8} {a1 : Bool} {a2 : Int} {a3 : Int} {a4 : Int} {a5 : Bool} {a6 : List Int} {a7 : Int} {a8 : Int} {a9 : Bool} {a10 : Int} {a11 : Int} {a12 : List UInt8} {a13 : Bool} (i s : Nat) (sl : PV D) (o : Option Nat) (B : Bt D) (m : Nat) (hb : bget B i = some (s, .cells [.str a0, .bool a1, .int .i64 a2, .int .i64 a3, .int .i64 a4, .bool a5, sl, .int .u8 a7, .int .i64 a8, .bool a9, .int .u8 a10, .int .i64 a11])) (hrow : rowIn 208 .i64 B sl = some (a6, o)) {r : List UInt8 × Int} (h : F_137 N a0 a1 a2 a3 a4 a5 a6 a7 a8 a9 a10 a11 a12 a13 = some r) : FunS Tryz.prog hk V 137 [.lptr i 0, .str a12, .bool a13] B m [] (O_137 r) B m :=
  fun_ro (TO_137 hkn N) cf_137 (hkn.no 137 rfl) (args0 := [.lptr 0 0, .str a12, .bool a13]) (Nat.le_of_ble_eq_true rfl) (noO rfl) (ins := [some i, o]) (B0 := B0_137 a0 a1 a2 a3 a4 a5 a6 a7 a8 a9 a10 a11 a12 a13) (ro_nd hb hrow) (ro_B0 hb hrow (.cons _ _ _ _ (.flat _ (.str _)) (.cons _ _ _ _ (.flat _ (.bool _)) (.cons _ _ _ _ (.flat _ (.int _ _)) (.cons _ _ _ _ (.flat _ (.int _ _)) (.cons _ _ _ _ (.flat _ (.int _ _)) (.cons _ _ _ _ (.flat _ (.bool _)) (.cons _ _ _ _ (ro_row hrow) (.cons _ _ _ _ (.flat _ (.int _ _)) (.cons _ _ _ _ (.flat _ (.int _ _)) (.cons _ _ _ _ (.flat _ (.bool _)) (.cons _ _ _ _ (.flat _ (.int _ _)) (.cons _ _ _ _ (.flat _ (.int _ _)) .nil))))))))))))) (.cons _ _ _ _ (.lptr 0 i 0 rfl) (.cons _ _ _ _ (.flat _ (.str _)) (.cons _ _ _ _ (.flat _ (.bool _)) .nil))) (K := K_137 a0 a1 a2 a3 a4 a5 a6 a7 a8 a9 a10 a11 a12 a13) (r := r) ((FE_137 N a0 a1 a2 a3 a4 a5 a6 a7 a8 a9 a10 a11 a12 a13).trans h) (KO_137 a0 a1 a2 a3 a4 a5 a6 a7 a8 a9 a10 a11 a12 a13 r) (.tup _ (.cons _ _ (.str _) (.cons _ _ (.int _ _) .nil)))
def ent_137 (N : Nat) : List (PV D) → Bt D → Nat → CallR D := fun args B _ => match args with
  | [.lptr i 0, .str a12, .bool a13] => match bget B i with
    | some (_, .cells [.str a0, .bool a1, .int .i64 a2, .int .i64 a3, .int .i64 a4, .bool a5, sl, .int .u8 a7, .int .i64 a8, .bool a9, .int .u8 a10, .int .i64 a11]) => match rowIn 208 .i64 B sl with
      | some (a6, _) => .opt (List UInt8 × Int) (F_137 N a0 a1 a2 a3 a4 a5 a6 a7 a8 a9 a10 a11 a12 a13) default (fun r => O_137 r)
      | none => .bad
    | _ => .bad
  | _ => .bad
theorem ent_137_ok (hkn : HkS hk) (N : Nat) (args : List (PV D)) (B : Bt D) (m : Nat) : CallOk Tryz.prog hk V 137 args B m (ent_137 N args B m) := by
  unfold ent_137
  split
  · split
    · split
      · intro r hr; exact law_137 hkn _ _ _ _ B m (by assumption) (by assumption) hr
      · trivial
    · trivial
  · trivial
def yc_130_h2 : YC := ycOf Tryz.prog 130 [[((.tmp 4), (.rowI 5 .u8)), ((.tmp 5), (.int .i64)), ((.tmp 6), (.int .i64)), ((.tmp 7), .bool), ((.row 0), .iter)]]
theorem cf_130_h2 : compF Tryz.prog 130 [[((.tmp 4), (.rowI 5 .u8)), ((.tmp 5), (.int .i64)), ((.tmp 6), (.int .i64)), ((.tmp 7), .bool), ((.row 0), .iter)]] = some (yc_130_h2, [.t 2, .t 3], 74) := by kernel_rfl
def T_130_2 (N : Nat) : Tbl D := tblOf [(152, ent_152 N), (153, ent_153_1 N)]
theorem TO_130_2 (hkn : HkS hk) (N : Nat) : TblOk Tryz.prog hk V (T_130_2 N) := tblOf_ok (tok1 (ent_152_ok hkn N) (tok1 (ent_153_1_ok hkn N) (tok0)))
def ent_130_2 (N : Nat) : List (PV D) → Bt D → Nat → CallR D := fun args B m => inlC (T_130_2 N) N yc_130_h2 [.t 2, .t 3] 74 (.tup [(.str []), (.bool false)]) args B m
theorem ent_130_2_ok (hkn : HkS hk) (N : Nat) (args : List (PV D)) (B : Bt D) (m : Nat) : CallOk Tryz.prog hk V 130 args B m (ent_130_2 N args B m) := inlC_ok (TO_130_2 hkn N) cf_130_h2 (hkn.no 130 rfl) _ args B m
def yc_163_h2 : YC := ycOf Tryz.prog 163 [[((.tmp 16), (.int .i64)), ((.cell 1 0), .str), ((.cell 1 1), .bool), ((.cell 1 2), (.int .i64)), ((.cell 1 3), (.int .i64)), ((.cell 1 4), (.int .i64)), ((.cell 1 5), .bool), ((.cell 1 7), (.int .u8)), ((.cell 1 8), (.int .i64)), ((.cell 1 9), .bool), ((.cell 1 10), (.int .u8)), ((.cell 1 11), (.int .i64))], [((.tmp 60), (.int .i64))]]
theorem cf_163_h2 : compF Tryz.prog 163 [[((.tmp 16), (.int .i64)), ((.cell 1 0), .str), ((.cell 1 1), .bool), ((.cell 1 2), (.int .i64)), ((.cell 1 3), (.int .i64)), ((.cell 1 4), (.int .i64)), ((.cell 1 5), .bool), ((.cell 1 7), (.int .u8)), ((.cell 1 8), (.int .i64)), ((.cell 1 9), .bool), ((.cell 1 10), (.int .u8)), ((.cell 1 11), (.int .i64))], [((.tmp 60), (.int .i64))]] = some (yc_163_h2, [.t 4], 74) := by kernel_rfl
def T_163_2 (N : Nat) : Tbl D := tblOf [(164, ent_164 N), (189, ent_189 N), (197, ent_197 N), (198, ent_198 N)]
theorem TO_163_2 (hkn : HkS hk) (N : Nat) : TblOk Tryz.prog hk V (T_163_2 N) := tblOf_ok (tok1 (ent_164_ok hkn N) (tok1 (ent_189_ok hkn N) (tok1 (ent_197_ok hkn N) (tok1 (ent_198_ok hkn N) (tok0)))))
def ent_163_2 (N : Nat) : List (PV D) → Bt D → Nat → CallR D := fun args B m => inlC (T_163_2 N) N yc_163_h2 [.t 4] 74 (.bool false) args B m
theorem ent_163_2_ok (hkn : HkS hk) (N : Nat) (args : List (PV D)) (B : Bt D) (m : Nat) : CallOk Tryz.prog hk V 163 args B m (ent_163_2 N args B m) := inlC_ok (TO_163_2 hkn N) cf_163_h2 (hkn.no 163 rfl) _ args B m
def yc_165_h2 : YC := ycOf Tryz.prog 165 [[((.tmp 5), (.int .i64)), ((.tmp 6), .bool), ((.tmp 13), (.int .i64)), ((.cell 1 0), .str), ((.cell 1 1), .bool), ((.cell 1 2), (.int .i64)), ((.cell 1 3), (.int .i64)), ((.cell 1 4), (.int .i64)), ((.cell 1 5), .bool), ((.cell 1 6), (.rowI 208 .i64)), ((.cell 1 7), (.int .u8)), ((.cell 1 8), (.int .i64)), ((.cell 1 9), .bool), ((.cell 1 10), (.int .u8)), ((.cell 1 11), (.int .i64))]]
theorem cf_165_h2 : compF Tryz.prog 165 [[((.tmp 5), (.int .i64)), ((.tmp 6), .bool), ((.tmp 13), (.int .i64)), ((.cell 1 0), .str), ((.cell 1 1), .bool), ((.cell 1 2), (.int .i64)), ((.cell 1 3), (.int .i64)), ((.cell 1 4), (.int .i64)), ((.cell 1 5), .bool), ((.cell 1 6), (.rowI 208 .i64)), ((.cell 1 7), (.int .u8)), ((.cell 1 8), (.int .i64)), ((.cell 1 9), .bool), ((.cell 1 10), (.int .u8)), ((.cell 1 11), (.int .i64))]] = some (yc_165_h2, [.t 4], 122) := by kernel_rfl
def T_165_2 (N : Nat) : Tbl D := tblOf [(200, ent_200_1 N)]
theorem TO_165_2 (hkn : HkS hk) (N : Nat) : TblOk Tryz.prog hk V (T_165_2 N) := tblOf_ok (tok1 (ent_200_1_ok hkn N) (tok0))
def ent_165_2 (N : Nat) : List (PV D) → Bt D → Nat → CallR D := fun args B m => inlC (T_165_2 N) N yc_165_h2 [.t 4] 122 (.bool false) args B m
theorem ent_165_2_ok (hkn : HkS hk) (N : Nat) (args : List (PV D)) (B : Bt D) (m : Nat) : CallOk Tryz.prog hk V 165 args B m (ent_165_2 N args B m) := inlC_ok (TO_165_2 hkn N) cf_165_h2 (hkn.no 165 rfl) _ args B m
def T_133_2 (N : Nat) : Tbl D := tblOf [(132, ent_132 N), (162, ent_162 N), (163, ent_163_2 N), (164, ent_164 N), (165, ent_165_2 N), (166, ent_166_1 N), (167, ent_167_1 N)]
theorem TO_133_2 (hkn : HkS hk) (N : Nat) : TblOk Tryz.prog hk V (T_133_2 N) := tblOf_ok (tok1 (ent_132_ok hkn N) (tok1 (ent_162_ok hkn N) (tok1 (ent_163_2_ok hkn N) (tok1 (ent_164_ok hkn N) (tok1 (ent_165_2_ok hkn N) (tok1 (ent_166_1_ok hkn N) (tok1 (ent_167_1_ok hkn N) (tok0))))))))
def ent_133_2 (N : Nat) : List (PV D) → Bt D → Nat → CallR D := fun args B m => inlC (T_133_2 N) N yc_133_h1 [.t 2, .t 3] 114 (.tup [.nilp, (.bool false)]) args B m
theorem ent_133_2_ok (hkn : HkS hk) (N : Nat) (args : List (PV D)) (B : Bt D) (m : Nat) : CallOk Tryz.prog hk V 133 args B m (ent_133_2 N args B m) := inlC_ok (TO_133_2 hkn N) cf_133_h1 (hkn.no 133 rfl) _ args B m
def T_100_2 (N : Nat) : Tbl D := tblOf [(130, ent_130_2 N), (131, ent_131 N), (132, ent_132 N), (133, ent_133_2 N)]
theorem TO_100_2 (hkn : HkS hk) (N : Nat) : TblOk Tryz.prog hk V (T_100_2 N) := tblOf_ok (tok1 (ent_130_2_ok hkn N) (tok1 (ent_131_ok hkn N) (tok1 (ent_132_ok hkn N) (tok1 (ent_133_2_ok hkn N) (tok0)))))
def ent_100_2 (N : Nat) : List (PV D) → Bt D → Nat → CallR D := fun args B m => inlC (T_100_2 N) N yc_100_h1 [.t 2, .t 3] 30 (.tup [.nilp, (.bool false)]) args B m
theorem ent_100_2_ok (hkn : HkS hk) (N : Nat) (args : List (PV D)) (B : Bt D) (m : Nat) : CallOk Tryz.prog hk V 100 args B m (ent_100_2 N args B m) := inlC_ok (TO_100_2 hkn N) cf_100_h1 (hkn.no 100 rfl) _ args B m
def yc_134_h1 : YC := ycOf Tryz.prog 134 []
theorem cf_134_h1 : compF Tryz.prog 134 [] = some (yc_134_h1, [.t 2, .t 3], 22) := by kernel_rfl
def T_134_1 (N : Nat) : Tbl D := tblOf [(100, ent_100_2 N)]
theorem TO_134_1 (hkn : HkS hk) (N : Nat) : TblOk Tryz.prog hk V (T_134_1 N) := tblOf_ok (tok1 (ent_100_2_ok hkn N) (tok0))
def ent_134_1 (N : Nat) : List (PV D) → Bt D → Nat → CallR D := fun args B m => inlC (T_134_1 N) N yc_134_h1 [.t 2, .t 3] 22 (.tup [.nilp, (.bool false)]) args B m
theorem ent_134_1_ok (hkn : HkS hk) (N : Nat) (args : List (PV D)) (B : Bt D) (m : Nat) : CallOk Tryz.prog hk V 134 args B m (ent_134_1 N args B m) := inlC_ok (TO_134_1 hkn N) cf_134_h1 (hkn.no 134 rfl) _ args B m
def yc_135_h1 : YC := ycOf Tryz.prog 135 [[((.tmp 5), (.rowI 5 .u8)), ((.tmp 6), (.int .i64)), ((.tmp 18), (.int .i64))]]
theorem cf_135_h1 : compF Tryz.prog 135 [[((.tmp 5), (.rowI 5 .u8)), ((.tmp 6), (.int .i64)), ((.tmp 18), (.int .i64))]] = some (yc_135_h1, [.t 4], 66) := by kernel_rfl
def T_135_1 (N : Nat) : Tbl D := tblOf [(168, ent_168 N)]
theorem TO_135_1 (hkn : HkS hk) (N : Nat) : TblOk Tryz.prog hk V (T_135_1 N) := tblOf_ok (tok1 (ent_168_ok hkn N) (tok0))
def ent_135_1 (N : Nat) : List (PV D) → Bt D → Nat → CallR D := fun args B m => inlC (T_135_1 N) N yc_135_h1 [.t 4] 66 (.str []) args B m
theorem ent_135_1_ok (hkn : HkS hk) (N : Nat) (args : List (PV D)) (B : Bt D) (m : Nat) : CallOk Tryz.prog hk V 135 args B m (ent_135_1 N args B m) := inlC_ok (TO_135_1 hkn N) cf_135_h1 (hkn.no 135 rfl) _ args B m
def yc_101 : YC := ycOf Tryz.prog 101 []
def rs_101 : List RV := [.t 4, .t 5]
theorem cf_101 : compF Tryz.prog 101 [] = some (yc_101, rs_101, 70) := by kernel_rfl
def K_101 : PV D → Y D → Option (Int × Int) := fun v _ => match v with
  | .tup [.int .i64 q0, .int .i64 q1] => some (q0, q1)
  | _ => none
def O_101 (r : Int × Int) : PV D := .tup [.int .i64 r.1, .int .i64 r.2]
theorem KO_101 (r : Int × Int) (v : PV D) (st : Y D) (h : K_101 v st = some r) : v = O_101 r := by
  unfold K_101 at h
  split at h <;> first | (cases h; rfl) | (cases h)
def T_101 (N : Nat) : Tbl D := tblOf [(134, ent_134_1 N), (135, ent_135_1 N), (136, ent_136 N), (137, ent_137 N)]
theorem FE_101 (N : Nat) (a0 : List UInt8) (a1 : List UInt8) : fsem (D := D) (T_101 N) N yc_101 rs_101 [.str a0, .str a1] .leaf 0 K_101 = F_101 N a0 a1 := by kernel_rfl
theorem TO_101 (hkn : HkS hk) (N : Nat) : TblOk Tryz.prog hk V (T_101 N) := tblOf_ok (tok1 (ent_134_1_ok hkn N) (tok1 (ent_135_1_ok hkn N) (tok1 (ent_136_ok hkn N) (tok1 (ent_137_ok hkn N) (tok0)))))
theorem law_101 (hkn : HkS hk) {N : Nat} (a0 : List UInt8) (a1 : List UInt8) {r : Int × Int} (h : F_101 N a0 a1 = some r) (B : Bt D) (m : Nat) : FunS Tryz.prog hk V 101 [.str a0, .str a1] B m [] (O_101 r) B m :=
  fun_pure (TO_101 hkn N) cf_101 (hkn.no 101 rfl) (Nat.le_of_ble_eq_true rfl) (noO rfl) (.cons _ _ (.str _) (.cons _ _ (.str _) .nil)) (K := K_101) (by rw [FE_101]; exact h) (KO_101 r) (.tup _ (.cons _ _ (.int _ _) (.cons _ _ (.int _ _) .nil))) B m
def ent_101 (N : Nat) : List (PV D) → Bt D → Nat → CallR D := fun args _ _ => match args with
  | [.str a0, .str a1] => .opt (Int × Int) (F_101 N a0 a1) default (fun r => O_101 r)
  | _ => .bad
theorem ent_101_ok (hkn : HkS hk) (N : Nat) (args : List (PV D)) (B : Bt D) (m : Nat) : CallOk Tryz.prog hk V 101 args B m (ent_101 N args B m) := by
  unfold ent_101
  split
  · intro r hr; exact law_101 hkn _ _ hr B m
  · trivial
def yc_65 : YC := ycOf Tryz.prog 65 []
def rs_65 : List RV := [.t 4]
theorem cf_65 : compF Tryz.prog 65 [] = some (yc_65, rs_65, 36) := by kernel_rfl
def K_65 : PV D → Y D → Option (Bool) := fun v _ => match v with
  | .bool q0 => some q0
  | _ => none
def O_65 (r : Bool) : PV D := .bool r
theorem KO_65 (r : Bool) (v : PV D) (st : Y D) (h : K_65 v st = some r) : v = O_65 r := by
  unfold K_65 at h
  split at h <;> first | (cases h; rfl) | (cases h)
def T_65 (N : Nat) : Tbl D := tblOf [(100, ent_100_2 N), (101, ent_101 N), (102, ent_102 N)]
theorem FE_65 (N : Nat) (a0 : List UInt8) (a1 : List UInt8) : fsem (D := D) (T_65 N) N yc_65 rs_65 [.str a0, .str a1] .leaf 0 K_65 = F_65 N a0 a1 := by kernel_rfl
theorem TO_65 (hkn : HkS hk) (N : Nat) : TblOk Tryz.prog hk V (T_65 N) := tblOf_ok (tok1 (ent_100_2_ok hkn N) (tok1 (ent_101_ok hkn N) (tok1 (ent_102_ok hkn N) (tok0))))
theorem law_65 (hkn : HkS hk) {N : Nat} (a0 : List UInt8) (a1 : List UInt8) {r : Bool} (h : F_65 N a0 a1 = some r) (B : Bt D) (m : Nat) : FunS Tryz.prog hk V 65 [.str a0, .str a1] B m [] (O_65 r) B m :=
  fun_pure (TO_65 hkn N) cf_65 (hkn.no 65 rfl) (Nat.le_of_ble_eq_true rfl) (noO rfl) (.cons _ _ (.str _) (.cons _ _ (.str _) .nil)) (K := K_65) (by rw [FE_65]; exact h) (KO_65 r) (.bool _) B m
def ent_65 (N : Nat) : List (PV D) → Bt D → Nat → CallR D := fun args _ _ => match args with
  | [.str a0, .str a1] => .opt (Bool) (F_65 N a0 a1) default (fun r => O_65 r)
  | _ => .bad
theorem ent_65_ok (hkn : HkS hk) (N : Nat) (args : List (PV D)) (B : Bt D) (m : Nat) : CallOk Tryz.prog hk V 65 args B m (ent_65 N args B m) := by
  unfold ent_65
  split
  · intro r hr; exact law_65 hkn _ _ hr B m
  · trivial
def yc_17 : YC := ycOf Tryz.prog 17 []
def rs_17 : List RV := [.t 4]
theorem cf_17 : compF Tryz.prog 17 [] = some (yc_17, rs_17, 86) := by kernel_rfl
def K_17 : PV D → Y D → Option (Int) := fun v _ => match v with
  | .int .i64 q0 => some q0
  | _ => none
def O_17 (r : Int) : PV D := .int .i64 r
theorem KO_17 (r : Int) (v : PV D) (st : Y D) (h : K_17 v st = some r) : v = O_17 r := by
  unfold K_17 at h
  split at h <;> first | (cases h; rfl) | (cases h)
def T_17 (N : Nat) : Tbl D := tblOf [(62, ent_62 N), (63, ent_63 N), (64, ent_64 N), (65, ent_65 N)]
theorem FE_17 (N : Nat) (a0 : Int) (a1 : Int) (a2 : Int) (a3 : Bool) (a4 : List UInt8) (a5 : Int) (a6 : List UInt8) : fsem (D := D) (T_17 N) N yc_17 rs_17 [.agg [.int .i64 a0, .int .i64 a1, .int .i64 a2, .bool a3, .str a4], .agg [.int .i64 a5, .str a6]] .leaf 0 K_17 = F_17 N a0 a1 a2 a3 a4 a5 a6 := by kernel_rfl
theorem TO_17 (hkn : HkS hk) (N : Nat) : TblOk Tryz.prog hk V (T_17 N) := tblOf_ok (tok1 (ent_62_ok hkn N) (tok1 (ent_63_ok hkn N) (tok1 (ent_64_ok hkn N) (tok1 (ent_65_ok hkn N) (tok0)))))
theorem law_17 (hkn : HkS hk) {N : Nat} (a0 : Int) (a1 : Int) (a2 : Int) (a3 : Bool) (a4 : List UInt8) (a5 : Int) (a6 : List UInt8) {r : Int} (h : F_17 N a0 a1 a2 a3 a4 a5 a6 = some r) (B : Bt D) (m : Nat) : FunS Tryz.prog hk V 17 [.agg [.int .i64 a0, .int .i64 a1, .int .i64 a2, .bool a3, .str a4], .agg [.int .i64 a5, .str a6]] B m [] (O_17 r) B m :=
  fun_pure (TO_17 hkn N) cf_17 (hkn.no 17 rfl) (Nat.le_of_ble_eq_true rfl) (noO rfl) (.cons _ _ (.agg _ (.cons _ _ (.int _ _) (.cons _ _ (.int _ _) (.cons _ _ (.int _ _) (.cons _ _ (.bool _) (.cons _ _ (.str _) .nil)))))) (.cons _ _ (.agg _ (.cons _ _ (.int _ _) (.cons _ _ (.str _) .nil))) .nil)) (K := K_17) (by rw [FE_17]; exact h) (KO_17 r) (.int _ _) B m
def yc_19 : YC := ycOf Tryz.prog 19 []
def rs_19 : List RV := [.t 2]
theorem cf_19 : compF Tryz.prog 19 [] = some (yc_19, rs_19, 53) := by kernel_rfl
def K_19 : PV D → Y D → Option (Int) := fun v _ => match v with
  | .int .i64 q0 => some q0
  | _ => none
def O_19 (r : Int) : PV D := .int .i64 r
theorem KO_19 (r : Int) (v : PV D) (st : Y D) (h : K_19 v st = some r) : v = O_19 r := by
  unfold K_19 at h
  split at h <;> first | (cases h; rfl) | (cases h)
def T_19 (N : Nat) : Tbl D := tblOf [(15, ent_15 N), (67, ent_67 N)]
theorem FE_19 (N : Nat) (a0 : Int) (a1 : Int) (a2 : Int) (a3 : Bool) (a4 : List UInt8) : fsem (D := D) (T_19 N) N yc_19 rs_19 [.agg [.int .i64 a0, .int .i64 a1, .int .i64 a2, .bool a3, .str a4]] .leaf 0 K_19 = F_19 N a0 a1 a2 a3 a4 := by kernel_rfl
theorem TO_19 (hkn : HkS hk) (N : Nat) : TblOk Tryz.prog hk V (T_19 N) := tblOf_ok (tok1 (ent_15_ok hkn N) (tok1 (ent_67_ok hkn N) (tok0)))
theorem law_19 (hkn : HkS hk) {N : Nat} (a0 : Int) (a1 : Int) (a2 : Int) (a3 : Bool) (a4 : List UInt8) {r : Int} (h : F_19 N a0 a1 a2 a3 a4 = some r) (B : Bt D) (m : Nat) : FunS Tryz.prog hk V 19 [.agg [.int .i64 a0, .int .i64 a1, .int .i64 a2, .bool a3, .str a4]] B m [] (O_19 r) B m :=
  fun_pure (TO_19 hkn N) cf_19 (hkn.no 19 rfl) (Nat.le_of_ble_eq_true rfl) (noO rfl) (.cons _ _ (.agg _ (.cons _ _ (.int _ _) (.cons _ _ (.int _ _) (.cons _ _ (.int _ _) (.cons _ _ (.bool _) (.cons _ _ (.str _) .nil)))))) .nil) (K := K_19) (by rw [FE_19]; exact h) (KO_19 r) (.int _ _) B m
def ent_19 (N : Nat) : List (PV D) → Bt D → Nat → CallR D := fun args _ _ => match args with
  | [.agg [.int .i64 a0, .int .i64 a1, .int .i64 a2, .bool a3, .str a4]] => .opt (Int) (F_19 N a0 a1 a2 a3 a4) default (fun r => O_19 r)
  | _ => .bad
theorem ent_19_ok (hkn : HkS hk) (N : Nat) (args : List (PV D)) (B : Bt D) (m : Nat) : CallOk Tryz.prog hk V 19 args B m (ent_19 N args B m) := by
  unfold ent_19
  split
  · intro r hr; exact law_19 hkn _ _ _ _ _ hr B m
  · trivial
def yc_21 : YC := ycOf Tryz.prog 21 []
def rs_21 : List RV := [.t 2]
theorem cf_21 : compF Tryz.prog 21 [] = some (yc_21, rs_21, 17) := by kernel_rfl
def K_21 : PV D → Y D → Option (Int) := fun v _ => match v with
  | .int .i64 q0 => some q0
  | _ => none
def O_21 (r : Int) : PV D := .int .i64 r
theorem KO_21 (r : Int) (v : PV D) (st : Y D) (h : K_21 v st = some r) : v = O_21 r := by
  unfold K_21 at h
  split at h <;> first | (cases h; rfl) | (cases h)
def T_21 (N : Nat) : Tbl D := tblOf [(15, ent_15 N), (19, ent_19 N)]
theorem FE_21 (N : Nat) (a0 : Int) (a1 : Int) (a2 : Int) (a3 : Bool) (a4 : List UInt8) : fsem (D := D) (T_21 N) N yc_21 rs_21 [.agg [.int .i64 a0, .int .i64 a1, .int .i64 a2, .bool a3, .str a4]] .leaf 0 K_21 = F_21 N a0 a1 a2 a3 a4 := by kernel_rfl
theorem TO_21 (hkn : HkS hk) (N : Nat) : TblOk Tryz.prog hk V (T_21 N) := tblOf_ok (tok1 (ent_15_ok hkn N) (tok1 (ent_19_ok hkn N) (tok0)))
theorem law_21 (hkn : HkS hk) {N : Nat} (a0 : Int) (a1 : Int) (a2 : Int) (a3 : Bool) (a4 : List UInt8) {r : Int} (h : F_21 N a0 a1 a2 a3 a4 = some r) (B : Bt D) (m : Nat) : FunS Tryz.prog hk V 21 [.agg [.int .i64 a0, .int .i64 a1, .int .i64 a2, .bool a3, .str a4]] B m [] (O_21 r) B m :=
  fun_pure (TO_21 hkn N) cf_21 (hkn.no 21 rfl) (Nat.le_of_ble_eq_true rfl) (noO rfl) (.cons _ _ (.agg _ (.cons _ _ (.int _ _) (.cons _ _ (.int _ _) (.cons _ _ (.int _ _) (.cons _ _ (.bool _) (.cons _ _ (.str _) .nil)))))) .nil) (K := K_21) (by rw [FE_21]; exact h) (KO_21 r) (.int _ _) B m
def yc_178 : YC := ycOf Tryz.prog 178 []
def rs_178 : List RV := [.t 2]
theorem cf_178 : compF Tryz.prog 178 [] = some (yc_178, rs_178, 5) := by kernel_rfl
def K_178 : PV D → Y D → Option (Int) := fun v _ => match v with
  | .int .i64 q0 => some q0
  | _ => none
def O_178 (r : Int) : PV D := .int .i64 r
theorem KO_178 (r : Int) (v : PV D) (st : Y D) (h : K_178 v st = some r) : v = O_178 r := by
  unfold K_178 at h
  split at h <;> first | (cases h; rfl) | (cases h)
def T_178 (N : Nat) : Tbl D := tblOf []
theorem FE_178 (N : Nat) (a0 : Int) : fsem (D := D) (T_178 N) N yc_178 rs_178 [.int .i64 a0] .leaf 0 K_178 = F_178 N a0 := by kernel_rfl
theorem TO_178 (hkn : HkS hk) (N : Nat) : TblOk Tryz.prog hk V (T_178 N) := tblOf_ok (tok0)
theorem law_178 (hkn : HkS hk) {N : Nat} (a0 : Int) {r : Int} (h : F_178 N a0 = some r) (B : Bt D) (m : Nat) : FunS Tryz.prog hk V 178 [.int .i64 a0] B m [] (O_178 r) B m :=
  fun_pure (TO_178 hkn N) cf_178 (hkn.no 178 rfl) (Nat.le_of_ble_eq_true rfl) (noO rfl) (.cons _ _ (.int _ _) .nil) (K := K_178) (by rw [FE_178]; exact h) (KO_178 r) (.int _ _) B m
def ent_178 (N : Nat) : List (PV D) → Bt D → Nat → CallR D := fun args _ _ => match args with
  | [.int .i64 a0] => .opt (Int) (F_178 N a0) default (fun r => O_178 r)
  | _ => .bad
theorem ent_178_ok (hkn : HkS hk) (N : Nat) (args : List (PV D)) (B : Bt D) (m : Nat) : CallOk Tryz.prog hk V 178 args B m (ent_178 N args B m) := by
  unfold ent_178
  split
  · intro r hr; exact law_178 hkn _ hr B m
  · trivial
def yc_177 : YC := ycOf Tryz.prog 177 [[((.tmp 5), (.int .i64)), ((.tmp 6), (.int .i64))]]
def rs_177 : List RV := [.t 4]
theorem cf_177 : compF Tryz.prog 177 [[((.tmp 5), (.int .i64)), ((.tmp 6), (.int .i64))]] = some (yc_177, rs_177, 16) := by kernel_rfl
def K_177 : PV D → Y D → Option (Int) := fun v _ => match v with
  | .int .i64 q0 => some q0
  | _ => none
def O_177 (r : Int) : PV D := .int .i64 r
theorem KO_177 (r : Int) (v : PV D) (st : Y D) (h : K_177 v st = some r) : v = O_177 r := by
  unfold K_177 at h
  split at h <;> first | (cases h; rfl) | (cases h)
def T_177 (N : Nat) : Tbl D := tblOf []
theorem FE_177 (N : Nat) (a0 : Int) (a1 : Int) : fsem (D := D) (T_177 N) N yc_177 rs_177 [.int .i64 a0, .int .i64 a1] .leaf 0 K_177 = F_177 N a0 a1 := by kernel_rfl
theorem TO_177 (hkn : HkS hk) (N : Nat) : TblOk Tryz.prog hk V (T_177 N) := tblOf_ok (tok0)
theorem law_177 (hkn : HkS hk) {N : Nat} (a0 : Int) (a1 : Int) {r : Int} (h : F_177 N a0 a1 = some r) (B : Bt D) (m : Nat) : FunS Tryz.prog hk V 177 [.int .i64 a0, .int .i64 a1] B m [] (O_177 r) B m :=
  fun_pure (TO_177 hkn N) cf_177 (hkn.no 177 rfl) (Nat.le_of_ble_eq_true rfl) (noO rfl) (.cons _ _ (.int _ _) (.cons _ _ (.int _ _) .nil)) (K := K_177) (by rw [FE_177]; exact h) (KO_177 r) (.int _ _) B m
def ent_177 (N : Nat) : List (PV D) → Bt D → Nat → CallR D := fun args _ _ => match args with
  | [.int .i64 a0, .int .i64 a1] => .opt (Int) (F_177 N a0 a1) default (fun r => O_177 r)
  | _ => .bad
theorem ent_177_ok (hkn : HkS hk) (N : Nat) (args : List (PV D)) (B : Bt D) (m : Nat) : CallOk Tryz.prog hk V 177 args B m (ent_177 N args B m) := by
  unfold ent_177
  split
  · intro r hr; exact law_177 hkn _ _ hr B m
  · trivial
def yc_138 : YC := ycOf Tryz.prog 138 []
def rs_138 : List RV := [.t 2]
theorem cf_138 : compF Tryz.prog 138 [] = some (yc_138, rs_138, 9) := by kernel_rfl
def K_138 : PV D → Y D → Option (Int) := fun v _ => match v with
  | .int .i64 q0 => some q0
  | _ => none
def O_138 (r : Int) : PV D := .int .i64 r
theorem KO_138 (r : Int) (v : PV D) (st : Y D) (h : K_138 v st = some r) : v = O_138 r := by
  unfold K_138 at h
  split at h <;> first | (cases h; rfl) | (cases h)
def T_138 (N : Nat) : Tbl D := tblOf [(177, ent_177 N), (178, ent_178 N)]
theorem FE_138 (N : Nat) (a0 : Int) (a1 : Int) (a2 : Int) (a3 : Bool) (a4 : List UInt8) : fsem (D := D) (T_138 N) N yc_138 rs_138 [.agg [.int .i64 a0, .int .i64 a1, .int .i64 a2, .bool a3, .str a4]] .leaf 0 K_138 = F_138 N a0 a1 a2 a3 a4 := by kernel_rfl
theorem TO_138 (hkn : HkS hk) (N : Nat) : TblOk Tryz.prog hk V (T_138 N) := tblOf_ok (tok1 (ent_177_ok hkn N) (tok1 (ent_178_ok hkn N) (tok0)))
theorem law_138 (hkn : HkS hk) {N : Nat} (a0 : Int) (a1 : Int) (a2 : Int) (a3 : Bool) (a4 : List UInt8) {r : Int} (h : F_138 N a0 a1 a2 a3 a4 = some r) (B : Bt D) (m : Nat) : FunS Tryz.prog hk V 138 [.agg [.int .i64 a0, .int .i64 a1, .int .i64 a2, .bool a3, .str a4]] B m [] (O_138 r) B m :=
  fun_pure (TO_138 hkn N) cf_138 (hkn.no 138 rfl) (Nat.le_of_ble_eq_true rfl) (noO rfl) (.cons _ _ (.agg _ (.cons _ _ (.int _ _) (.cons _ _ (.int _ _) (.cons _ _ (.int _ _) (.cons _ _ (.bool _) (.cons _ _ (.str _) .nil)))))) .nil) (K := K_138) (by rw [FE_138]; exact h) (KO_138 r) (.int _ _) B m
def ent_138 (N : Nat) : List (PV D) → Bt D → Nat → CallR D := fun args _ _ => match args with
  | [.agg [.int .i64 a0, .int .i64 a1, .int .i64 a2, .bool a3, .str a4]] => .opt (Int) (F_138 N a0 a1 a2 a3 a4) default (fun r => O_138 r)
  | _ => .bad
theorem ent_138_ok (hkn : HkS hk) (N : Nat) (args : List (PV D)) (B : Bt D) (m : Nat) : CallOk Tryz.prog hk V 138 args B m (ent_138 N args B m) := by
  unfold ent_138
  split
  · intro r hr; exact law_138 hkn _ _ _ _ _ hr B m
  · trivial
def yc_103 : YC := ycOf Tryz.prog 103 []
def rs_103 : List RV := [.t 4]
theorem cf_103 : compF Tryz.prog 103 [] = some (yc_103, rs_103, 29) := by kernel_rfl
def K_103 : PV D → Y D → Option (Int) := fun v _ => match v with
  | .int .i64 q0 => some q0
  | _ => none
def O_103 (r : Int) : PV D := .int .i64 r
theorem KO_103 (r : Int) (v : PV D) (st : Y D) (h : K_103 v st = some r) : v = O_103 r := by
  unfold K_103 at h
  split at h <;> first | (cases h; rfl) | (cases h)
def T_103 (N : Nat) : Tbl D := tblOf [(128, ent_128 N), (138, ent_138 N)]
theorem FE_103 (N : Nat) (a0 : Int) (a1 : List UInt8) (a2 : Int) (a3 : Int) (a4 : Int) (a5 : Bool) (a6 : List UInt8) : fsem (D := D) (T_103 N) N yc_103 rs_103 [.agg [.int .i64 a0, .str a1], .agg [.int .i64 a2, .int .i64 a3, .int .i64 a4, .bool a5, .str a6]] .leaf 0 K_103 = F_103 N a0 a1 a2 a3 a4 a5 a6 := by kernel_rfl
theorem TO_103 (hkn : HkS hk) (N : Nat) : TblOk Tryz.prog hk V (T_103 N) := tblOf_ok (tok1 (ent_128_ok hkn N) (tok1 (ent_138_ok hkn N) (tok0)))
theorem law_103 (hkn : HkS hk) {N : Nat} (a0 : Int) (a1 : List UInt8) (a2 : Int) (a3 : Int) (a4 : Int) (a5 : Bool) (a6 : List UInt8) {r : Int} (h : F_103 N a0 a1 a2 a3 a4 a5 a6 = some r) (B : Bt D) (m : Nat) : FunS Tryz.prog hk V 103 [.agg [.int .i64 a0, .str a1], .agg [.int .i64 a2, .int .i64 a3, .int .i64 a4, .bool a5, .str a6]] B m [] (O_103 r) B m :=
  fun_pure (TO_103 hkn N) cf_103 (hkn.no 103 rfl) (Nat.le_of_ble_eq_true rfl) (noO rfl) (.cons _ _ (.agg _ (.cons _ _ (.int _ _) (.cons _ _ (.str _) .nil))) (.cons _ _ (.agg _ (.cons _ _ (.int _ _) (.cons _ _ (.int _ _) (.cons _ _ (.int _ _) (.cons _ _ (.bool _) (.cons _ _ (.str _) .nil)))))) .nil)) (K := K_103) (by rw [FE_103]; exact h) (KO_103 r) (.int _ _) B m
def ent_103 (N : Nat) : List (PV D) → Bt D → Nat → CallR D := fun args _ _ => match args with
  | [.agg [.int .i64 a0, .str a1], .agg [.int .i64 a2, .int .i64 a3, .int .i64 a4, .bool a5, .str a6]] => .opt (Int) (F_103 N a0 a1 a2 a3 a4 a5 a6) default (fun r => O_103 r)
  | _ => .bad
theorem ent_103_ok (hkn : HkS hk) (N : Nat) (args : List (PV D)) (B : Bt D) (m : Nat) : CallOk Tryz.prog hk V 103 args B m (ent_103 N args B m) := by
  unfold ent_103
  split
  · intro r hr; exact law_103 hkn _ _ _ _ _ _ _ hr B m
  · trivial
def yc_75 : YC := ycOf Tryz.prog 75 [[((.tmp 3), (.int .i64))]]
def rs_75 : List RV := [.t 2]
theorem cf_75 : compF Tryz.prog 75 [[((.tmp 3), (.int .i64))]] = some (yc_75, rs_75, 20) := by kernel_rfl
def K_75 : PV D → Y D → Option (Bool) := fun v _ => match v with
  | .bool q0 => some q0
  | _ => none
def O_75 (r : Bool) : PV D := .bool r
theorem KO_75 (r : Bool) (v : PV D) (st : Y D) (h : K_75 v st = some r) : v = O_75 r := by
  unfold K_75 at h
  split at h <;> first | (cases h; rfl) | (cases h)
def T_75 (N : Nat) : Tbl D := tblOf []
theorem FE_75 (N : Nat) (a0 : List UInt8) : fsem (D := D) (T_75 N) N yc_75 rs_75 [.str a0] .leaf 0 K_75 = F_75 N a0 := by kernel_rfl
theorem TO_75 (hkn : HkS hk) (N : Nat) : TblOk Tryz.prog hk V (T_75 N) := tblOf_ok (tok0)
theorem law_75 (hkn : HkS hk) {N : Nat} (a0 : List UInt8) {r : Bool} (h : F_75 N a0 = some r) (B : Bt D) (m : Nat) : FunS Tryz.prog hk V 75 [.str a0] B m [] (O_75 r) B m :=
  fun_pure (TO_75 hkn N) cf_75 (hkn.no 75 rfl) (Nat.le_of_ble_eq_true rfl) (noO rfl) (.cons _ _ (.str _) .nil) (K := K_75) (by rw [FE_75]; exact h) (KO_75 r) (.bool _) B m
def ent_75 (N : Nat) : List (PV D) → Bt D → Nat → CallR D := fun args _ _ => match args with
  | [.str a0] => .opt (Bool) (F_75 N a0) default (fun r => O_75 r)
  | _ => .bad
theorem ent_75_ok (hkn : HkS hk) (N : Nat) (args : List (PV D)) (B : Bt D) (m : Nat) : CallOk Tryz.prog hk V 75 args B m (ent_75 N args B m) := by
  unfold ent_75
  split
  · intro r hr; exact law_75 hkn _ hr B m
  · trivial
def yc_66 : YC := ycOf Tryz.prog 66 []
def rs_66 : List RV := [.t 4]
theorem cf_66 : compF Tryz.prog 66 [] = some (yc_66, rs_66, 93) := by kernel_rfl
def K_66 : PV D → Y D → Option (Int) := fun v _ => match v with
  | .int .i64 q0 => some q0
  | _ => none
def O_66 (r : Int) : PV D := .int .i64 r
theorem KO_66 (r : Int) (v : PV D) (st : Y D) (h : K_66 v st = some r) : v = O_66 r := by
  unfold K_66 at h
  split at h <;> first | (cases h; rfl) | (cases h)
def T_66 (N : Nat) : Tbl D := tblOf [(61, ent_61 N), (75, ent_75 N), (103, ent_103 N), (104, ent_104 N)]
theorem FE_66 (N : Nat) (a0 : Int) (a1 : List UInt8) (a2 : Int) (a3 : Int) (a4 : Int) (a5 : Bool) (a6 : List UInt8) : fsem (D := D) (T_66 N) N yc_66 rs_66 [.agg [.int .i64 a0, .str a1], .agg [.int .i64 a2, .int .i64 a3, .int .i64 a4, .bool a5, .str a6]] .leaf 0 K_66 = F_66 N a0 a1 a2 a3 a4 a5 a6 := by kernel_rfl
theorem TO_66 (hkn : HkS hk) (N : Nat) : TblOk Tryz.prog hk V (T_66 N) := tblOf_ok (tok1 (ent_61_ok hkn N) (tok1 (ent_75_ok hkn N) (tok1 (ent_103_ok hkn N) (tok1 (ent_104_ok hkn N) (tok0)))))
theorem law_66 (hkn : HkS hk) {N : Nat} (a0 : Int) (a1 : List UInt8) (a2 : Int) (a3 : Int) (a4 : Int) (a5 : Bool) (a6 : List UInt8) {r : Int} (h : F_66 N a0 a1 a2 a3 a4 a5 a6 = some r) (B : Bt D) (m : Nat) : FunS Tryz.prog hk V 66 [.agg [.int .i64 a0, .str a1], .agg [.int .i64 a2, .int .i64 a3, .int .i64 a4, .bool a5, .str a6]] B m [] (O_66 r) B m :=
  fun_pure (TO_66 hkn N) cf_66 (hkn.no 66 rfl) (Nat.le_of_ble_eq_true rfl) (noO rfl) (.cons _ _ (.agg _ (.cons _ _ (.int _ _) (.cons _ _ (.str _) .nil))) (.cons _ _ (.agg _ (.cons _ _ (.int _ _) (.cons _ _ (.int _ _) (.cons _ _ (.int _ _) (.cons _ _ (.bool _) (.cons _ _ (.str _) .nil)))))) .nil)) (K := K_66) (by rw [FE_66]; exact h) (KO_66 r) (.int _ _) B m
def ent_66 (N : Nat) : List (PV D) → Bt D → Nat → CallR D := fun args _ _ => match args with
  | [.agg [.int .i64 a0, .str a1], .agg [.int .i64 a2, .int .i64 a3, .int .i64 a4, .bool a5, .str a6]] => .opt (Int) (F_66 N a0 a1 a2 a3 a4 a5 a6) default (fun r => O_66 r)
  | _ => .bad
theorem ent_66_ok (hkn : HkS hk) (N : Nat) (args : List (PV D)) (B : Bt D) (m : Nat) : CallOk Tryz.prog hk V 66 args B m (ent_66 N args B m) := by
  unfold ent_66
  split
  · intro r hr; exact law_66 hkn _ _ _ _ _ _ _ hr B m
  · trivial
def yc_18 : YC := ycOf Tryz.prog 18 []
def rs_18 : List RV := [.t 4]
theorem cf_18 : compF Tryz.prog 18 [] = some (yc_18, rs_18, 8) := by kernel_rfl
def K_18 : PV D → Y D → Option (Int) := fun v _ => match v with
  | .int .i64 q0 => some q0
  | _ => none
def O_18 (r : Int) : PV D := .int .i64 r
theorem KO_18 (r : Int) (v : PV D) (st : Y D) (h : K_18 v st = some r) : v = O_18 r := by
  unfold K_18 at h
  split at h <;> first | (cases h; rfl) | (cases h)
def T_18 (N : Nat) : Tbl D := tblOf [(66, ent_66 N)]
theorem FE_18 (N : Nat) (a0 : Int) (a1 : Int) (a2 : Int) (a3 : Bool) (a4 : List UInt8) (a5 : Int) (a6 : List UInt8) : fsem (D := D) (T_18 N) N yc_18 rs_18 [.agg [.int .i64 a0, .int .i64 a1, .int .i64 a2, .bool a3, .str a4], .agg [.int .i64 a5, .str a6]] .leaf 0 K_18 = F_18 N a0 a1 a2 a3 a4 a5 a6 := by kernel_rfl
theorem TO_18 (hkn : HkS hk) (N : Nat) : TblOk Tryz.prog hk V (T_18 N) := tblOf_ok (tok1 (ent_66_ok hkn N) (tok0))
theorem law_18 (hkn : HkS hk) {N : Nat} (a0 : Int) (a1 : Int) (a2 : Int) (a3 : Bool) (a4 : List UInt8) (a5 : Int) (a6 : List UInt8) {r : Int} (h : F_18 N a0 a1 a2 a3 a4 a5 a6 = some r) (B : Bt D) (m : Nat) : FunS Tryz.prog hk V 18 [.agg [.int .i64 a0, .int .i64 a1, .int .i64 a2, .bool a3, .str a4], .agg [.int .i64 a5, .str a6]] B m [] (O_18 r) B m :=
  fun_pure (TO_18 hkn N) cf_18 (hkn.no 18 rfl) (Nat.le_of_ble_eq_true rfl) (noO rfl) (.cons _ _ (.agg _ (.cons _ _ (.int _ _) (.cons _ _ (.int _ _) (.cons _ _ (.int _ _) (.cons _ _ (.bool _) (.cons _ _ (.str _) .nil)))))) (.cons _ _ (.agg _ (.cons _ _ (.int _ _) (.cons _ _ (.str _) .nil))) .nil)) (K := K_18) (by rw [FE_18]; exact h) (KO_18 r) (.int _ _) B m
def yc_68 : YC := ycOf Tryz.prog 68 []
def rs_68 : List RV := [.t 2]
theorem cf_68 : compF Tryz.prog 68 [] = some (yc_68, rs_68, 33) := by kernel_rfl
def K_68 : PV D → Y D → Option (Int) := fun v _ => match v with
  | .int .i64 q0 => some q0
  | _ => none
def O_68 (r : Int) : PV D := .int .i64 r
theorem KO_68 (r : Int) (v : PV D) (st : Y D) (h : K_68 v st = some r) : v = O_68 r := by
  unfold K_68 at h
  split at h <;> first | (cases h; rfl) | (cases h)
def T_68 (N : Nat) : Tbl D := tblOf [(105, ent_105 N)]
theorem FE_68 (N : Nat) (a0 : Int) (a1 : Int) (a2 : Int) (a3 : Bool) (a4 : List UInt8) : fsem (D := D) (T_68 N) N yc_68 rs_68 [.agg [.int .i64 a0, .int .i64 a1, .int .i64 a2, .bool a3, .str a4]] .leaf 0 K_68 = F_68 N a0 a1 a2 a3 a4 := by kernel_rfl
theorem TO_68 (hkn : HkS hk) (N : Nat) : TblOk Tryz.prog hk V (T_68 N) := tblOf_ok (tok1 (ent_105_ok hkn N) (tok0))
theorem law_68 (hkn : HkS hk) {N : Nat} (a0 : Int) (a1 : Int) (a2 : Int) (a3 : Bool) (a4 : List UInt8) {r : Int} (h : F_68 N a0 a1 a2 a3 a4 = some r) (B : Bt D) (m : Nat) : FunS Tryz.prog hk V 68 [.agg [.int .i64 a0, .int .i64 a1, .int .i64 a2, .bool a3, .str a4]] B m [] (O_68 r) B m :=
  fun_pure (TO_68 hkn N) cf_68 (hkn.no 68 rfl) (Nat.le_of_ble_eq_true rfl) (noO rfl) (.cons _ _ (.agg _ (.cons _ _ (.int _ _) (.cons _ _ (.int _ _) (.cons _ _ (.int _ _) (.cons _ _ (.bool _) (.cons _ _ (.str _) .nil)))))) .nil) (K := K_68) (by rw [FE_68]; exact h) (KO_68 r) (.int _ _) B m
def ent_68 (N : Nat) : List (PV D) → Bt D → Nat → CallR D := fun args _ _ => match args with
  | [.agg [.int .i64 a0, .int .i64 a1, .int .i64 a2, .bool a3, .str a4]] => .opt (Int) (F_68 N a0 a1 a2 a3 a4) default (fun r => O_68 r)
  | _ => .bad
theorem ent_68_ok (hkn : HkS hk) (N : Nat) (args : List (PV D)) (B : Bt D) (m : Nat) : CallOk Tryz.prog hk V 68 args B m (ent_68 N args B m) := by
  unfold ent_68
  split
  · intro r hr; exact law_68 hkn _ _ _ _ _ hr B m
  · trivial
def yc_20 : YC := ycOf Tryz.prog 20 []
def rs_20 : List RV := [.t 2]
theorem cf_20 : compF Tryz.prog 20 [] = some (yc_20, rs_20, 45) := by kernel_rfl
def K_20 : PV D → Y D → Option (Int) := fun v _ => match v with
  | .int .i64 q0 => some q0
  | _ => none
def O_20 (r : Int) : PV D := .int .i64 r
theorem KO_20 (r : Int) (v : PV D) (st : Y D) (h : K_20 v st = some r) : v = O_20 r := by
  unfold K_20 at h
  split at h <;> first | (cases h; rfl) | (cases h)
def T_20 (N : Nat) : Tbl D := tblOf [(16, ent_16 N), (68, ent_68 N)]
theorem FE_20 (N : Nat) (a0 : Int) (a1 : Int) (a2 : Int) (a3 : Bool) (a4 : List UInt8) : fsem (D := D) (T_20 N) N yc_20 rs_20 [.agg [.int .i64 a0, .int .i64 a1, .int .i64 a2, .bool a3, .str a4]] .leaf 0 K_20 = F_20 N a0 a1 a2 a3 a4 := by kernel_rfl
theorem TO_20 (hkn : HkS hk) (N : Nat) : TblOk Tryz.prog hk V (T_20 N) := tblOf_ok (tok1 (ent_16_ok hkn N) (tok1 (ent_68_ok hkn N) (tok0)))
theorem law_20 (hkn : HkS hk) {N : Nat} (a0 : Int) (a1 : Int) (a2 : Int) (a3 : Bool) (a4 : List UInt8) {r : Int} (h : F_20 N a0 a1 a2 a3 a4 = some r) (B : Bt D) (m : Nat) : FunS Tryz.prog hk V 20 [.agg [.int .i64 a0, .int .i64 a1, .int .i64 a2, .bool a3, .str a4]] B m [] (O_20 r) B m :=
  fun_pure (TO_20 hkn N) cf_20 (hkn.no 20 rfl) (Nat.le_of_ble_eq_true rfl) (noO rfl) (.cons _ _ (.agg _ (.cons _ _ (.int _ _) (.cons _ _ (.int _ _) (.cons _ _ (.int _ _) (.cons _ _ (.bool _) (.cons _ _ (.str _) .nil)))))) .nil) (K := K_20) (by rw [FE_20]; exact h) (KO_20 r) (.int _ _) B m
def ent_20 (N : Nat) : List (PV D) → Bt D → Nat → CallR D := fun args _ _ => match args with
  | [.agg [.int .i64 a0, .int .i64 a1, .int .i64 a2, .bool a3, .str a4]] => .opt (Int) (F_20 N a0 a1 a2 a3 a4) default (fun r => O_20 r)
  | _ => .bad
theorem ent_20_ok (hkn : HkS hk) (N : Nat) (args : List (PV D)) (B : Bt D) (m : Nat) : CallOk Tryz.prog hk V 20 args B m (ent_20 N args B m) := by
  unfold ent_20
  split
  · intro r hr; exact law_20 hkn _ _ _ _ _ hr B m
  · trivial
def yc_22 : YC := ycOf Tryz.prog 22 []
def rs_22 : List RV := [.t 2]
theorem cf_22 : compF Tryz.prog 22 [] = some (yc_22, rs_22, 17) := by kernel_rfl
def K_22 : PV D → Y D → Option (Int) := fun v _ => match v with
  | .int .i64 q0 => some q0
  | _ => none
def O_22 (r : Int) : PV D := .int .i64 r
theorem KO_22 (r : Int) (v : PV D) (st : Y D) (h : K_22 v st = some r) : v = O_22 r := by
  unfold K_22 at h
  split at h <;> first | (cases h; rfl) | (cases h)
def T_22 (N : Nat) : Tbl D := tblOf [(16, ent_16 N), (20, ent_20 N)]
theorem FE_22 (N : Nat) (a0 : Int) (a1 : Int) (a2 : Int) (a3 : Bool) (a4 : List UInt8) : fsem (D := D) (T_22 N) N yc_22 rs_22 [.agg [.int .i64 a0, .int .i64 a1, .int .i64 a2, .bool a3, .str a4]] .leaf 0 K_22 = F_22 N a0 a1 a2 a3 a4 := by kernel_rfl
theorem TO_22 (hkn : HkS hk) (N : Nat) : TblOk Tryz.prog hk V (T_22 N) := tblOf_ok (tok1 (ent_16_ok hkn N) (tok1 (ent_20_ok hkn N) (tok0)))
theorem law_22 (hkn : HkS hk) {N : Nat} (a0 : Int) (a1 : Int) (a2 : Int) (a3 : Bool) (a4 : List UInt8) {r : Int} (h : F_22 N a0 a1 a2 a3 a4 = some r) (B : Bt D) (m : Nat) : FunS Tryz.prog hk V 22 [.agg [.int .i64 a0, .int .i64 a1, .int .i64 a2, .bool a3, .str a4]] B m [] (O_22 r) B m :=
  fun_pure (TO_22 hkn N) cf_22 (hkn.no 22 rfl) (Nat.le_of_ble_eq_true rfl) (noO rfl) (.cons _ _ (.agg _ (.cons _ _ (.int _ _) (.cons _ _ (.int _ _) (.cons _ _ (.int _ _) (.cons _ _ (.bool _) (.cons _ _ (.str _) .nil)))))) .nil) (K := K_22) (by rw [FE_22]; exact h) (KO_22 r) (.int _ _) B m
end
end Go.Yec
