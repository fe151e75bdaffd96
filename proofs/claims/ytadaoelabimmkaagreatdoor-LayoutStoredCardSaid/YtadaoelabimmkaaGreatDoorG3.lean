/-
  THE PLAIN LEAN READINGS OF LAYOUTBITS (printed by ygen.py).; LAYOUTBITS: the functions walked (printed by ygen.py).
-/
import Derived.Test.YtadaoelabimmkaaGreatDoorG1
import Derived.Test.YtadaoelabimmkaaGreatDoorY14
import Derived.Test.YtadaoelabimmkaaGreatDoorG2
set_option linter.all false
namespace Go.Yec
open Go
noncomputable section
def u1A (N : Nat) (a0 : Int) (again1 : Int × List UInt8 × Int -> Option (List UInt8)) (x1 : Int × List UInt8 × Int) : Option (List UInt8):=(cond (decide (x1.2.2 < a0)) (Option.bind (z5W N (IntKind.wrap .u8 (Int.tmod x1.1 10)) 4) (fun (r2 : List UInt8)=>(cond (decide (List.length r2 + List.length x1.2.1 < 9223372036854775808)) (again1 ((IntKind.wrap .i64 (Int.tdiv x1.1 10)),(r2 ++ x1.2.1),(IntKind.wrap .i64 (x1.2.2 + 1)))) none))) (cond (decide ((Int.tmod a0 2) = 0)) (cond (decide (List.length ([48, 48, 48, 48] : List UInt8) + List.length x1.2.1 < 9223372036854775808)) (some (([48, 48, 48, 48] : List UInt8) ++ x1.2.1)) none) (some x1.2.1)))
def F_69 (N : Nat) (a0 : Int) (a1 : Int) : Option (List UInt8):=(cond (decide (a1 < 0)) (Option.bind (z5W N 13 4) (fun (r0 : List UInt8)=>(iter N (u1A N a0) ((IntKind.wrap .i64 (0 - a1)),r0, 0)))) (Option.bind (z5W N 12 4) (fun (r0 : List UInt8)=>(iter N (u1A N a0) (a1,r0, 0)))))
def u6F (N : Nat) (a0 : List UInt8) (again0 : Int × Int -> Option (Int)) (x0 : Int × Int) : Option (Int):=(cond (decide (x0.2 < (slen a0))) (cond (inB x0.2 (slen a0)) (again0 ((y2Q .or .u16 (IntKind.wrap .u16 (x0.1 * (2 ^ min (Int.toNat 1) (IntKind.bits .u16)))) (IntKind.wrap .u16 (IntKind.wrap .u8 ((sget a0 x0.2) - 48)))),(IntKind.wrap .i64 (x0.2 + 1)))) none) (some x0.1))
def z5V (N : Nat) (a0 : List UInt8) : Option (Int):=(iter N (u6F N a0) (0, 0))
def u6E (N : Nat) (a0 : List UInt8) (again0 : Int × Int -> Option (Int)) (x0 : Int × Int) : Option (Int):=(cond (decide (x0.2 < (slen a0))) (cond (inB x0.2 (slen a0)) (again0 ((y2Q .or .u32 (IntKind.wrap .u32 (x0.1 * (2 ^ min (Int.toNat 1) (IntKind.bits .u32)))) (IntKind.wrap .u32 (IntKind.wrap .u8 ((sget a0 x0.2) - 48)))),(IntKind.wrap .i64 (x0.2 + 1)))) none) (some x0.1))
def u1J (N : Nat) (a0 : List UInt8) : Option (Int):=(iter N (u6E N a0) (0, 0))
def u5Y (N : Nat) (a0 : List UInt8) (again0 : Int × Int -> Option (Int)) (x0 : Int × Int) : Option (Int):=(cond (decide (x0.2 < (slen a0))) (cond (inB x0.2 (slen a0)) (again0 ((y2Q .or .u8 (IntKind.wrap .u8 (x0.1 * (2 ^ min (Int.toNat 1) (IntKind.bits .u8)))) (IntKind.wrap .u8 ((sget a0 x0.2) - 48))),(IntKind.wrap .i64 (x0.2 + 1)))) none) (some x0.1))
def u6N (N : Nat) (a0 : List UInt8) : Option (Int):=(iter N (u5Y N a0) (0, 0))
def y3J (N : Nat)  (again0 : List UInt8 × Int -> Option (Int × Bool)) (x0 : List UInt8 × Int) : Option (Int × Bool):=(cond (decide (4 < (slen x0.1))) (cond (decide (0 <= (4 : Int) /\ 4 <= slen x0.1)) (Option.bind (u6N N (ssub x0.1 0 4)) (fun (r1 : Int)=>(cond (decide (9 < r1)) (some (0,false)) (cond (decide (0 <= (4 : Int) /\ 4 <= slen x0.1)) (again0 ((ssub x0.1 4 (slen x0.1)),(IntKind.wrap .i64 ((IntKind.wrap .i64 (10 * x0.2)) + (IntKind.wrap .i64 r1))))) none)))) none) (Option.bind (u6N N x0.1) (fun (r1 : Int)=>(cond (decide (r1 = 12)) (some (x0.2,true)) (cond (decide (r1 = 13)) (some ((IntKind.wrap .i64 (0 - x0.2)),true)) (some (0,false)))))))
def v4N (N : Nat) (a0 : Int) (a1 : List UInt8) : Option (Int × Bool):=(cond (decide ((Int.tmod a0 2) = 0)) (cond (decide (0 <= (4 : Int) /\ 4 <= slen a1)) (cond (!(decide ((ssub a1 0 4) = ([48, 48, 48, 48] : List UInt8)))) (some (0,false)) (cond (decide (0 <= (4 : Int) /\ 4 <= slen a1)) (iter N (y3J N) ((ssub a1 4 (slen a1)), 0)) none)) none) (iter N (y3J N) (a1, 0)))
def u6D (N : Nat) (a0 : List UInt8) (again0 : Int × List Int -> Option (List UInt8)) (x0 : Int × List Int) : Option (List UInt8):=(cond (decide (x0.1 < (ilen (repI (Int.toNat (IntKind.wrap .i64 (Int.tdiv (slen a0) 8))))))) (cond (decide (0 <= (IntKind.wrap .i64 (8 * x0.1)) /\ (IntKind.wrap .i64 (8 * x0.1)) <= (IntKind.wrap .i64 ((IntKind.wrap .i64 (8 * x0.1)) + 8)) /\ (IntKind.wrap .i64 ((IntKind.wrap .i64 (8 * x0.1)) + 8)) <= slen a0)) (Option.bind (u6N N (ssub a0 (IntKind.wrap .i64 (8 * x0.1)) (IntKind.wrap .i64 ((IntKind.wrap .i64 (8 * x0.1)) + 8)))) (fun (r1 : Int)=>(cond (inB x0.1 (ilen x0.2)) (again0 ((IntKind.wrap .i64 (x0.1 + 1)),(x4Y x0.2 x0.1 r1))) none))) none) (some (x0X x0.2)))
def u1H (N : Nat) (a0 : List UInt8) : Option (List UInt8):=(cond (decide (0 <= (IntKind.wrap .i64 (Int.tdiv (slen a0) 8)) /\ (IntKind.wrap .i64 (Int.tdiv (slen a0) 8)) <= 1000000)) (iter N (u6D N a0) (0,(repI (Int.toNat (IntKind.wrap .i64 (Int.tdiv (slen a0) 8)))))) none)
def F_74 (N : Nat) (a0 : Int) (a1 : Int) (a2 : Int) (a3 : Bool) (a4 : List UInt8) (a5 : List UInt8) : Option ((Int × List UInt8) × Bool):=(cond (decide (a0 = 1)) (Option.bind (v4N N a1 a5) (fun (r0 : Int × Bool)=>(some ((r0.1,([] : List UInt8)),r0.2)))) (cond (decide (a0 = 2)) (cond (decide ((slen a5) = 16)) (Option.bind (z5V N a5) (fun (r0 : Int)=>(some (((IntKind.wrap .i64 (IntKind.wrap .i16 r0)),([] : List UInt8)),true)))) (Option.bind (u1J N a5) (fun (r0 : Int)=>(some (((IntKind.wrap .i64 (IntKind.wrap .i32 r0)),([] : List UInt8)),true))))) (cond (decide (a0 = 6)) (Option.bind (u1J N a5) (fun (r0 : Int)=>(some (((IntKind.wrap .i64 r0),([] : List UInt8)),true)))) (cond (decide (a0 = 4)) (some ((0,a5),true)) (cond a3 (cond (decide (0 <= (16 : Int) /\ 16 <= slen a5)) (Option.bind (z5V N (ssub a5 0 16)) (fun (r0 : Int)=>(cond (decide (a1 < (IntKind.wrap .i64 r0))) (some ((0,([] : List UInt8)),false)) (cond (decide (0 <= (16 : Int) /\ 16 <= (IntKind.wrap .i64 (16 + (IntKind.wrap .i64 (8 * (IntKind.wrap .i64 r0))))) /\ (IntKind.wrap .i64 (16 + (IntKind.wrap .i64 (8 * (IntKind.wrap .i64 r0))))) <= slen a5)) (Option.bind (u1H N (ssub a5 16 (IntKind.wrap .i64 (16 + (IntKind.wrap .i64 (8 * (IntKind.wrap .i64 r0))))))) (fun (r1 : List UInt8)=>(some ((0,r1),true)))) none)))) none) (Option.bind (u1H N a5) (fun (r0 : List UInt8)=>(some ((0,r0),true)))))))))
def F_23 (N : Nat) (a0 : Int) (a1 : Int) (a2 : Int) (a3 : Bool) (a4 : List UInt8) (a5 : Int) (a6 : List UInt8) : Option (List UInt8 × Int):=(Option.bind (F_17 N a0 a1 a2 a3 a4 a5 a6) (fun (r0 : Int)=>(cond (!(decide (r0 = 0))) (some (([] : List UInt8),r0)) (cond (decide (a0 = 1)) (Option.bind (F_69 N a1 a5) (fun (r1 : List UInt8)=>(some (r1, 0)))) (cond (decide (a0 = 2)) (cond (decide (a0 = 2)) (Option.bind (F_19 N a0 a1 a2 a3 a4) (fun (r1 : Int)=>(Option.bind (F_70 N (IntKind.wrap .u64 a5) r1) (fun (r2 : List UInt8)=>(some (r2, 0)))))) (cond (decide (a0 = 4)) (some (a6, 0)) (cond a3 (Option.bind (F_71 N (IntKind.wrap .u16 (slen a6)) 16) (fun (r1 : List UInt8)=>(cond (x7K a6) (cond (decide (List.length r1 + List.length (hBits a6) < 9223372036854775808)) (some ((r1 ++ (hBits a6)), 0)) none) none))) (cond (x7K a6) (some ((hBits a6), 0)) none)))) (cond (decide (a0 = 6)) (Option.bind (F_19 N a0 a1 a2 a3 a4) (fun (r1 : Int)=>(Option.bind (F_70 N (IntKind.wrap .u64 a5) r1) (fun (r2 : List UInt8)=>(some (r2, 0)))))) (cond (decide (a0 = 4)) (some (a6, 0)) (cond a3 (Option.bind (F_71 N (IntKind.wrap .u16 (slen a6)) 16) (fun (r1 : List UInt8)=>(cond (x7K a6) (cond (decide (List.length r1 + List.length (hBits a6) < 9223372036854775808)) (some ((r1 ++ (hBits a6)), 0)) none) none))) (cond (x7K a6) (some ((hBits a6), 0)) none)))))))))
def F_25 (N : Nat) (a0 : Int) (a1 : Int) (a2 : Int) (a3 : Bool) (a4 : List UInt8) (a5 : List UInt8) : Option ((Int × List UInt8) × Int):=(Option.bind (F_62 N a0 a1 a2 a3 a4) (fun (r0 : Bool)=>(cond (!r0) (some ((0,([] : List UInt8)), 5)) (Option.bind (F_19 N a0 a1 a2 a3 a4) (fun (r1 : Int)=>(Option.bind (cond (!(!(decide ((slen a5) = r1)))) (F_64 N a5) (some (default : Bool))) (fun (r2 : Bool)=>(cond (cond (!(decide ((slen a5) = r1))) true (!r2)) (some ((0,([] : List UInt8)), 1)) (Option.bind (F_74 N a0 a1 a2 a3 a4 a5) (fun (r3 : (Int × List UInt8) × Bool)=>(Option.bind (cond (!(!r3.2)) (F_17 N a0 a1 a2 a3 a4 r3.1.1 r3.1.2) (some (default : Int))) (fun (r4 : Int)=>(cond (cond (!r3.2) true (!(decide (r4 = 0)))) (some ((0,([] : List UInt8)), 6)) (some ((r3.1.1,r3.1.2), 0)))))))))))))))
def u6C (N : Nat) (a0 : List UInt8) (again0 : Int × Int -> Option (Int)) (x0 : Int × Int) : Option (Int):=(cond (decide (x0.2 < (slen a0))) (cond (inB x0.2 (slen a0)) (again0 ((IntKind.wrap .i64 ((IntKind.wrap .i64 (2 * x0.1)) + (IntKind.wrap .i64 (IntKind.wrap .u8 ((sget a0 x0.2) - 48))))),(IntKind.wrap .i64 (x0.2 + 1)))) none) (some x0.1))
def F_115 (N : Nat) (a0 : List UInt8) : Option (Int):=(iter N (u6C N a0) (0, 0))
def z5P (N : Nat) (a0 : List UInt8) (again0 : Int × Int -> Option (Int × Bool)) (x0 : Int × Int) : Option (Int × Bool):=(cond (decide (x0.2 < (IntKind.wrap .i64 ((slen a0) - 4)))) (cond (decide (0 <= x0.2 /\ x0.2 <= (IntKind.wrap .i64 (x0.2 + 4)) /\ (IntKind.wrap .i64 (x0.2 + 4)) <= slen a0)) (Option.bind (F_115 N (ssub a0 x0.2 (IntKind.wrap .i64 (x0.2 + 4)))) (fun (r1 : Int)=>(cond (decide (9 < r1)) (some (0,false)) (again0 ((IntKind.wrap .i64 ((IntKind.wrap .i64 (10 * x0.1)) + r1)),(IntKind.wrap .i64 (x0.2 + 4))))))) none) (cond (decide (0 <= (IntKind.wrap .i64 ((slen a0) - 4)) /\ (IntKind.wrap .i64 ((slen a0) - 4)) <= slen a0)) (Option.bind (F_115 N (ssub a0 (IntKind.wrap .i64 ((slen a0) - 4)) (slen a0))) (fun (r1 : Int)=>(cond (decide (r1 = 13)) (some ((IntKind.wrap .i64 (0 - x0.1)),true)) (some (x0.1,(decide (r1 = 12))))))) none))
end
end Go.Yec
namespace Go.Yec
open Go Go.Xec Go.Proofs
noncomputable section
variable {D : Type} {V : D -> List (PV D)} {hk : Hook}
theorem FE_69 (N : Nat) (a0 : Int) (a1 : Int) : fsem (D:=D) (x0P [(106,u4L N)]) N (ycOf Tryz.prog 69 [[((.tmp 1),(.int .i64)),((.tmp 6), .str),((.tmp 14),(.int .i64))]]) [.t 4] [.int .i64 a0, .int .i64 a1] .leaf 0 K_r2 = F_69 N a0 a1:=by kernel_rfl
def v9L (N : Nat) : List (PV D) -> Bt D -> Nat -> CallR D:=fun args _ _=>match args with
  | [.int .i64 a0, .int .i64 a1]=> .opt (List UInt8) (F_69 N a0 a1) default O_r2
  | _=> .bad
theorem v9K (hkn : HkS hk) (N : Nat) : EOk hk V 69 (v9L N):=fun args B m=>by
  unfold v9L
  split
  . exact fun _ h=>eP hkn (x0E (tok1 (v3H hkn N) (tok0))) (sz:= 31) (by kernel_rfl) rfl rfl rfl rfl (FE_69 N _ _) z5S rfl h
  . trivial
def K_r12 : PV D -> Y D -> Option (Int):=fun v _=>match v with
  | .int .u16 q0=>some q0
  | _=>none
def O_r12 (r : Int) : PV D:= .int .u16 r
theorem KO_r12 {r : Int} (v : PV D) (st : Y D) (h : K_r12 v st = some r) : v = O_r12 r:=by
  unfold K_r12 at h
  split at h <;> first | (cases h; rfl) | (cases h)
theorem FE_111 (N : Nat) (a0 : List UInt8) : fsem (D:=D) (x0P []) N (ycOf Tryz.prog 111 [[((.tmp 3),(.int .u16)),((.tmp 7),(.int .i64))]]) [.t 2] [.str a0] .leaf 0 K_r12 = z5V N a0:=by kernel_rfl
def u4J (N : Nat) : List (PV D) -> Bt D -> Nat -> CallR D:=fun args _ _=>match args with
  | [.str a0]=> .opt (Int) (z5V N a0) default O_r12
  | _=> .bad
theorem v3F (hkn : HkS hk) (N : Nat) : EOk hk V 111 (u4J N):=fun args B m=>by
  unfold u4J
  split
  . exact fun _ h=>eP hkn (x0E (tok0)) (sz:= 20) (by kernel_rfl) rfl rfl rfl rfl (FE_111 N _) KO_r12 rfl h
  . trivial
def K_r13 : PV D -> Y D -> Option (Int):=fun v _=>match v with
  | .int .u32 q0=>some q0
  | _=>none
def O_r13 (r : Int) : PV D:= .int .u32 r
theorem KO_r13 {r : Int} (v : PV D) (st : Y D) (h : K_r13 v st = some r) : v = O_r13 r:=by
  unfold K_r13 at h
  split at h <;> first | (cases h; rfl) | (cases h)
theorem FE_112 (N : Nat) (a0 : List UInt8) : fsem (D:=D) (x0P []) N (ycOf Tryz.prog 112 [[((.tmp 3),(.int .u32)),((.tmp 7),(.int .i64))]]) [.t 2] [.str a0] .leaf 0 K_r13 = u1J N a0:=by kernel_rfl
def u4H (N : Nat) : List (PV D) -> Bt D -> Nat -> CallR D:=fun args _ _=>match args with
  | [.str a0]=> .opt (Int) (u1J N a0) default O_r13
  | _=> .bad
theorem v3E (hkn : HkS hk) (N : Nat) : EOk hk V 112 (u4H N):=fun args B m=>by
  unfold u4H
  split
  . exact fun _ h=>eP hkn (x0E (tok0)) (sz:= 20) (by kernel_rfl) rfl rfl rfl rfl (FE_112 N _) KO_r13 rfl h
  . trivial
theorem FE_148 (N : Nat) (a0 : List UInt8) : fsem (D:=D) (x0P []) N (ycOf Tryz.prog 148 [[((.tmp 3),(.int .u8)),((.tmp 7),(.int .i64))]]) [.t 2] [.str a0] .leaf 0 K_r3 = u6N N a0:=by kernel_rfl
def z4E (N : Nat) : List (PV D) -> Bt D -> Nat -> CallR D:=fun args _ _=>match args with
  | [.str a0]=> .opt (Int) (u6N N a0) default O_r3
  | _=> .bad
theorem z1Z (hkn : HkS hk) (N : Nat) : EOk hk V 148 (z4E N):=fun args B m=>by
  unfold z4E
  split
  . exact fun _ h=>eP hkn (x0E (tok0)) (sz:= 19) (by kernel_rfl) rfl rfl rfl rfl (FE_148 N _) u6J rfl h
  . trivial
theorem FE_110 (N : Nat) (a0 : Int) (a1 : List UInt8) : fsem (D:=D) (x0P [(148,z4E N)]) N (ycOf Tryz.prog 110 [[((.tmp 1), .str),((.tmp 6),(.int .i64))]]) [.t 4, .t 5] [.int .i64 a0, .str a1] .leaf 0 K_r7 = v4N N a0 a1:=by kernel_rfl
def u4K (N : Nat) : List (PV D) -> Bt D -> Nat -> CallR D:=fun args _ _=>match args with
  | [.int .i64 a0, .str a1]=> .opt (Int × Bool) (v4N N a0 a1) default O_r7
  | _=> .bad
theorem v3G (hkn : HkS hk) (N : Nat) : EOk hk V 110 (u4K N):=fun args B m=>by
  unfold u4K
  split
  . exact fun _ h=>eP hkn (x0E (tok1 (z1Z hkn N) (tok0))) (sz:= 40) (by kernel_rfl) rfl rfl rfl rfl (FE_110 N _ _) KO_r7 rfl h
  . trivial
theorem FE_113 (N : Nat) (a0 : List UInt8) : fsem (D:=D) (x0P [(148,z4E N)]) N (ycOf Tryz.prog 113 [[((.tmp 11),(.int .i64)),((.row 0),(.rowI 5 .u8))]]) [.t 2] [.str a0] .leaf 0 K_r2 = u1H N a0:=by kernel_rfl
def u4G (N : Nat) : List (PV D) -> Bt D -> Nat -> CallR D:=fun args _ _=>match args with
  | [.str a0]=> .opt (List UInt8) (u1H N a0) default O_r2
  | _=> .bad
theorem v3D (hkn : HkS hk) (N : Nat) : EOk hk V 113 (u4G N):=fun args B m=>by
  unfold u4G
  split
  . exact fun _ h=>eP hkn (x0E (tok1 (z1Z hkn N) (tok0))) (sz:= 28) (by kernel_rfl) rfl rfl rfl rfl (FE_113 N _) z5S rfl h
  . trivial
def K_r14 : PV D -> Y D -> Option ((Int × List UInt8) × Bool):=fun v _=>match v with
  | .tup [.agg [.int .i64 q0, .str q1], .bool q2]=>some ((q0,q1),q2)
  | _=>none
def O_r14 (r : (Int × List UInt8) × Bool) : PV D:= .tup [.agg [.int .i64 r.1.1, .str r.1.2], .bool r.2]
theorem KO_r14 {r : (Int × List UInt8) × Bool} (v : PV D) (st : Y D) (h : K_r14 v st = some r) : v = O_r14 r:=by
  unfold K_r14 at h
  split at h <;> first | (cases h; rfl) | (cases h)
theorem FE_74 (N : Nat) (a0 : Int) (a1 : Int) (a2 : Int) (a3 : Bool) (a4 : List UInt8) (a5 : List UInt8) : fsem (D:=D) (x0P [(110,u4K N),(111,u4J N),(112,u4H N),(113,u4G N)]) N (ycOf Tryz.prog 74 []) [.c 4 2 true, .t 5] [.agg [.int .i64 a0, .int .i64 a1, .int .i64 a2, .bool a3, .str a4], .str a5] .leaf 0 K_r14 = F_74 N a0 a1 a2 a3 a4 a5:=by kernel_rfl
def v9C (N : Nat) : List (PV D) -> Bt D -> Nat -> CallR D:=fun args _ _=>match args with
  | [.agg [.int .i64 a0, .int .i64 a1, .int .i64 a2, .bool a3, .str a4], .str a5]=> .opt ((Int × List UInt8) × Bool) (F_74 N a0 a1 a2 a3 a4 a5) default O_r14
  | _=> .bad
theorem v9B (hkn : HkS hk) (N : Nat) : EOk hk V 74 (v9C N):=fun args B m=>by
  unfold v9C
  split
  . exact fun _ h=>eP hkn (x0E (tok1 (v3G hkn N) (tok1 (v3F hkn N) (tok1 (v3E hkn N) (tok1 (v3D hkn N) (tok0)))))) (sz:= 67) (by kernel_rfl) rfl rfl rfl rfl (FE_74 N _ _ _ _ _ _) KO_r14 rfl h
  . trivial
theorem FE_23 (N : Nat) (a0 : Int) (a1 : Int) (a2 : Int) (a3 : Bool) (a4 : List UInt8) (a5 : Int) (a6 : List UInt8) : fsem (D:=D) (x0P [(17,u9L N),(19,u9K N),(69,v9L N),(70,v9J N),(71,v9G N),(72,v9E N)]) N (ycOf Tryz.prog 23 []) [.t 4, .t 5] [.agg [.int .i64 a0, .int .i64 a1, .int .i64 a2, .bool a3, .str a4], .agg [.int .i64 a5, .str a6]] .leaf 0 K_r5 = F_23 N a0 a1 a2 a3 a4 a5 a6:=by kernel_rfl
def ent_23 (N : Nat) : List (PV D) -> Bt D -> Nat -> CallR D:=fun args _ _=>match args with
  | [.agg [.int .i64 a0, .int .i64 a1, .int .i64 a2, .bool a3, .str a4], .agg [.int .i64 a5, .str a6]]=> .opt (List UInt8 × Int) (F_23 N a0 a1 a2 a3 a4 a5 a6) default O_r5
  | _=> .bad
theorem w0A (hkn : HkS hk) (N : Nat) : EOk hk V 23 (ent_23 N):=fun args B m=>by
  unfold ent_23
  split
  . exact fun _ h=>eP hkn (x0E (tok1 (y8B hkn N) (tok1 (y7Y hkn N) (tok1 (v9K hkn N) (tok1 (v9H hkn N) (tok1 (v9F hkn N) (tok1 (v9D hkn N) (tok0)))))))) (sz:= 49) (by kernel_rfl) rfl rfl rfl rfl (FE_23 N _ _ _ _ _ _ _) KO_r5 rfl h
  . trivial
def K_r15 : PV D -> Y D -> Option ((Int × List UInt8) × Int):=fun v _=>match v with
  | .tup [.agg [.int .i64 q0, .str q1], .int .i64 q2]=>some ((q0,q1),q2)
  | _=>none
def O_r15 (r : (Int × List UInt8) × Int) : PV D:= .tup [.agg [.int .i64 r.1.1, .str r.1.2], .int .i64 r.2]
theorem KO_r15 {r : (Int × List UInt8) × Int} (v : PV D) (st : Y D) (h : K_r15 v st = some r) : v = O_r15 r:=by
  unfold K_r15 at h
  split at h <;> first | (cases h; rfl) | (cases h)
theorem FE_25 (N : Nat) (a0 : Int) (a1 : Int) (a2 : Int) (a3 : Bool) (a4 : List UInt8) (a5 : List UInt8) : fsem (D:=D) (x0P [(17,u9L N),(19,u9K N),(62,u9G N),(64,u9F N),(74,v9C N)]) N (ycOf Tryz.prog 25 []) [.c 4 2 true, .t 5] [.agg [.int .i64 a0, .int .i64 a1, .int .i64 a2, .bool a3, .str a4], .str a5] .leaf 0 K_r15 = F_25 N a0 a1 a2 a3 a4 a5:=by kernel_rfl
def ent_25 (N : Nat) : List (PV D) -> Bt D -> Nat -> CallR D:=fun args _ _=>match args with
  | [.agg [.int .i64 a0, .int .i64 a1, .int .i64 a2, .bool a3, .str a4], .str a5]=> .opt ((Int × List UInt8) × Int) (F_25 N a0 a1 a2 a3 a4 a5) default O_r15
  | _=> .bad
theorem v9Z (hkn : HkS hk) (N : Nat) : EOk hk V 25 (ent_25 N):=fun args B m=>by
  unfold ent_25
  split
  . exact fun _ h=>eP hkn (x0E (tok1 (y8B hkn N) (tok1 (y7Y hkn N) (tok1 (y7V hkn N) (tok1 (z8Q hkn N) (tok1 (v9B hkn N) (tok0))))))) (sz:= 39) (by kernel_rfl) rfl rfl rfl rfl (FE_25 N _ _ _ _ _ _) KO_r15 rfl h
  . trivial
end
end Go.Yec
