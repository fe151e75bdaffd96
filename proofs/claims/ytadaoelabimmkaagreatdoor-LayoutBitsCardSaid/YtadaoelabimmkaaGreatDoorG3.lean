/-
  THE PLAIN LEAN READINGS OF LAYOUTBITS (printed by ygen.py).; LAYOUTBITS: the functions walked (printed by ygen.py).
-/
import Derived.Test.YtadaoelabimmkaaGreatDoorG1
import Derived.Test.YtadaoelabimmkaaGreatDoorY2
import Derived.Test.YtadaoelabimmkaaGreatDoorG2
set_option linter.all false
namespace Go.Yec
open Go
noncomputable section
def L_69_1 (N : Nat) (a0 : Int) (again1 : Int × List UInt8 × Int → Option (List UInt8)) (x1 : Int × List UInt8 × Int) : Option (List UInt8) := (cond (decide (x1.2.2 < a0)) (Option.bind (F_106 N (IntKind.wrap .u8 (Int.tmod x1.1 10)) 4) (fun (r2 : List UInt8) => (cond (decide (List.length r2 + List.length x1.2.1 < 9223372036854775808)) (again1 ((IntKind.wrap .i64 (Int.tdiv x1.1 10)), (r2 ++ x1.2.1), (IntKind.wrap .i64 (x1.2.2 + 1)))) none))) (cond (decide ((Int.tmod a0 2) = 0)) (cond (decide (List.length ([48, 48, 48, 48] : List UInt8) + List.length x1.2.1 < 9223372036854775808)) (some (([48, 48, 48, 48] : List UInt8) ++ x1.2.1)) none) (some x1.2.1)))
def F_69 (N : Nat) (a0 a1 : Int) : Option (List UInt8) := (cond (decide (a1 < 0)) (Option.bind (F_106 N 13 4) (fun (r0 : List UInt8) => (iter N (L_69_1 N a0) ((IntKind.wrap .i64 (0 - a1)), r0, 0)))) (Option.bind (F_106 N 12 4) (fun (r0 : List UInt8) => (iter N (L_69_1 N a0) (a1, r0, 0)))))
def L_111_1 (N : Nat) (a0 : List UInt8) (again0 : Int × Int → Option (Int)) (x0 : Int × Int) : Option (Int) := (cond (decide (x0.2 < (slen a0))) (cond (inB x0.2 (slen a0)) (again0 ((ibits .or .u16 (IntKind.wrap .u16 (x0.1 * (2 ^ min (Int.toNat 1) (IntKind.bits .u16)))) (IntKind.wrap .u16 (IntKind.wrap .u8 ((sget a0 x0.2) - 48)))), (IntKind.wrap .i64 (x0.2 + 1)))) none) (some x0.1))
def F_111 (N : Nat) (a0 : List UInt8) : Option (Int) := (iter N (L_111_1 N a0) (0, 0))
def L_112_1 (N : Nat) (a0 : List UInt8) (again0 : Int × Int → Option (Int)) (x0 : Int × Int) : Option (Int) := (cond (decide (x0.2 < (slen a0))) (cond (inB x0.2 (slen a0)) (again0 ((ibits .or .u32 (IntKind.wrap .u32 (x0.1 * (2 ^ min (Int.toNat 1) (IntKind.bits .u32)))) (IntKind.wrap .u32 (IntKind.wrap .u8 ((sget a0 x0.2) - 48)))), (IntKind.wrap .i64 (x0.2 + 1)))) none) (some x0.1))
def F_112 (N : Nat) (a0 : List UInt8) : Option (Int) := (iter N (L_112_1 N a0) (0, 0))
def L_148_1 (N : Nat) (a0 : List UInt8) (again0 : Int × Int → Option (Int)) (x0 : Int × Int) : Option (Int) := (cond (decide (x0.2 < (slen a0))) (cond (inB x0.2 (slen a0)) (again0 ((ibits .or .u8 (IntKind.wrap .u8 (x0.1 * (2 ^ min (Int.toNat 1) (IntKind.bits .u8)))) (IntKind.wrap .u8 ((sget a0 x0.2) - 48))), (IntKind.wrap .i64 (x0.2 + 1)))) none) (some x0.1))
def F_148 (N : Nat) (a0 : List UInt8) : Option (Int) := (iter N (L_148_1 N a0) (0, 0))
def L_110_1 (N : Nat)  (again0 : List UInt8 × Int → Option (Int × Bool)) (x0 : List UInt8 × Int) : Option (Int × Bool) := (cond (decide (4 < (slen x0.1))) (cond (decide (0 ≤ (4 : Int) ∧ 4 ≤ slen x0.1)) (Option.bind (F_148 N (ssub x0.1 0 4)) (fun (r1 : Int) => (cond (decide (9 < r1)) (some (0, false)) (cond (decide (0 ≤ (4 : Int) ∧ 4 ≤ slen x0.1)) (again0 ((ssub x0.1 4 (slen x0.1)), (IntKind.wrap .i64 ((IntKind.wrap .i64 (10 * x0.2)) + (IntKind.wrap .i64 r1))))) none)))) none) (Option.bind (F_148 N x0.1) (fun (r1 : Int) => (cond (decide (r1 = 12)) (some (x0.2, true)) (cond (decide (r1 = 13)) (some ((IntKind.wrap .i64 (0 - x0.2)), true)) (some (0, false)))))))
def F_110 (N : Nat) (a0 : Int) (a1 : List UInt8) : Option (Int × Bool) := (cond (decide ((Int.tmod a0 2) = 0)) (cond (decide (0 ≤ (4 : Int) ∧ 4 ≤ slen a1)) (cond (!(decide ((ssub a1 0 4) = ([48, 48, 48, 48] : List UInt8)))) (some (0, false)) (cond (decide (0 ≤ (4 : Int) ∧ 4 ≤ slen a1)) (iter N (L_110_1 N) ((ssub a1 4 (slen a1)), 0)) none)) none) (iter N (L_110_1 N) (a1, 0)))
def L_113_1 (N : Nat) (a0 : List UInt8) (again0 : Int × List Int → Option (List UInt8)) (x0 : Int × List Int) : Option (List UInt8) := (cond (decide (x0.1 < (ilen (repI (Int.toNat (IntKind.wrap .i64 (Int.tdiv (slen a0) 8))))))) (cond (decide (0 ≤ (IntKind.wrap .i64 (8 * x0.1)) ∧ (IntKind.wrap .i64 (8 * x0.1)) ≤ (IntKind.wrap .i64 ((IntKind.wrap .i64 (8 * x0.1)) + 8)) ∧ (IntKind.wrap .i64 ((IntKind.wrap .i64 (8 * x0.1)) + 8)) ≤ slen a0)) (Option.bind (F_148 N (ssub a0 (IntKind.wrap .i64 (8 * x0.1)) (IntKind.wrap .i64 ((IntKind.wrap .i64 (8 * x0.1)) + 8)))) (fun (r1 : Int) => (cond (inB x0.1 (ilen x0.2)) (again0 ((IntKind.wrap .i64 (x0.1 + 1)), (isetI x0.2 x0.1 r1))) none))) none) (some (ofInts x0.2)))
def F_113 (N : Nat) (a0 : List UInt8) : Option (List UInt8) := (cond (decide (0 ≤ (IntKind.wrap .i64 (Int.tdiv (slen a0) 8)) ∧ (IntKind.wrap .i64 (Int.tdiv (slen a0) 8)) ≤ 1000000)) (iter N (L_113_1 N a0) (0, (repI (Int.toNat (IntKind.wrap .i64 (Int.tdiv (slen a0) 8)))))) none)
def F_74 (N : Nat) (a0 a1 a2 : Int) (a3 : Bool) (a4 a5 : List UInt8) : Option ((Int × List UInt8) × Bool) := (cond (decide (a0 = 1)) (Option.bind (F_110 N a1 a5) (fun (r0 : Int × Bool) => (some ((r0.1, ([] : List UInt8)), r0.2)))) (cond (decide (a0 = 2)) (cond (decide ((slen a5) = 16)) (Option.bind (F_111 N a5) (fun (r0 : Int) => (some (((IntKind.wrap .i64 (IntKind.wrap .i16 r0)), ([] : List UInt8)), true)))) (Option.bind (F_112 N a5) (fun (r0 : Int) => (some (((IntKind.wrap .i64 (IntKind.wrap .i32 r0)), ([] : List UInt8)), true))))) (cond (decide (a0 = 6)) (Option.bind (F_112 N a5) (fun (r0 : Int) => (some (((IntKind.wrap .i64 r0), ([] : List UInt8)), true)))) (cond (decide (a0 = 4)) (some ((0, a5), true)) (cond a3 (cond (decide (0 ≤ (16 : Int) ∧ 16 ≤ slen a5)) (Option.bind (F_111 N (ssub a5 0 16)) (fun (r0 : Int) => (cond (decide (a1 < (IntKind.wrap .i64 r0))) (some ((0, ([] : List UInt8)), false)) (cond (decide (0 ≤ (16 : Int) ∧ 16 ≤ (IntKind.wrap .i64 (16 + (IntKind.wrap .i64 (8 * (IntKind.wrap .i64 r0))))) ∧ (IntKind.wrap .i64 (16 + (IntKind.wrap .i64 (8 * (IntKind.wrap .i64 r0))))) ≤ slen a5)) (Option.bind (F_113 N (ssub a5 16 (IntKind.wrap .i64 (16 + (IntKind.wrap .i64 (8 * (IntKind.wrap .i64 r0))))))) (fun (r1 : List UInt8) => (some ((0, r1), true)))) none)))) none) (Option.bind (F_113 N a5) (fun (r0 : List UInt8) => (some ((0, r0), true)))))))))
def F_23 (N : Nat) (a0 a1 a2 : Int) (a3 : Bool) (a4 : List UInt8) (a5 : Int) (a6 : List UInt8) : Option (List UInt8 × Int) := (Option.bind (F_17 N a0 a1 a2 a3 a4 a5 a6) (fun (r0 : Int) => (cond (!(decide (r0 = 0))) (some (([] : List UInt8), r0)) (cond (decide (a0 = 1)) (Option.bind (F_69 N a1 a5) (fun (r1 : List UInt8) => (some (r1, 0)))) (cond (decide (a0 = 2)) (cond (decide (a0 = 2)) (Option.bind (F_19 N a0 a1 a2 a3 a4) (fun (r1 : Int) => (Option.bind (F_70 N (IntKind.wrap .u64 a5) r1) (fun (r2 : List UInt8) => (some (r2, 0)))))) (cond (decide (a0 = 4)) (some (a6, 0)) (cond a3 (Option.bind (F_71 N (IntKind.wrap .u16 (slen a6)) 16) (fun (r1 : List UInt8) => (cond (hBitsOk a6) (cond (decide (List.length r1 + List.length (hBits a6) < 9223372036854775808)) (some ((r1 ++ (hBits a6)), 0)) none) none))) (cond (hBitsOk a6) (some ((hBits a6), 0)) none)))) (cond (decide (a0 = 6)) (Option.bind (F_19 N a0 a1 a2 a3 a4) (fun (r1 : Int) => (Option.bind (F_70 N (IntKind.wrap .u64 a5) r1) (fun (r2 : List UInt8) => (some (r2, 0)))))) (cond (decide (a0 = 4)) (some (a6, 0)) (cond a3 (Option.bind (F_71 N (IntKind.wrap .u16 (slen a6)) 16) (fun (r1 : List UInt8) => (cond (hBitsOk a6) (cond (decide (List.length r1 + List.length (hBits a6) < 9223372036854775808)) (some ((r1 ++ (hBits a6)), 0)) none) none))) (cond (hBitsOk a6) (some ((hBits a6), 0)) none)))))))))
def F_25 (N : Nat) (a0 a1 a2 : Int) (a3 : Bool) (a4 a5 : List UInt8) : Option ((Int × List UInt8) × Int) := (Option.bind (F_62 N a0 a1 a2 a3 a4) (fun (r0 : Bool) => (cond (!r0) (some ((0, ([] : List UInt8)), 5)) (Option.bind (F_19 N a0 a1 a2 a3 a4) (fun (r1 : Int) => (Option.bind (cond (!(!(decide ((slen a5) = r1)))) (F_64 N a5) (some (default : Bool))) (fun (r2 : Bool) => (cond (cond (!(decide ((slen a5) = r1))) true (!r2)) (some ((0, ([] : List UInt8)), 1)) (Option.bind (F_74 N a0 a1 a2 a3 a4 a5) (fun (r3 : (Int × List UInt8) × Bool) => (Option.bind (cond (!(!r3.2)) (F_17 N a0 a1 a2 a3 a4 r3.1.1 r3.1.2) (some (default : Int))) (fun (r4 : Int) => (cond (cond (!r3.2) true (!(decide (r4 = 0)))) (some ((0, ([] : List UInt8)), 6)) (some ((r3.1.1, r3.1.2), 0)))))))))))))))
def L_115_1 (N : Nat) (a0 : List UInt8) (again0 : Int × Int → Option (Int)) (x0 : Int × Int) : Option (Int) := (cond (decide (x0.2 < (slen a0))) (cond (inB x0.2 (slen a0)) (again0 ((IntKind.wrap .i64 ((IntKind.wrap .i64 (2 * x0.1)) + (IntKind.wrap .i64 (IntKind.wrap .u8 ((sget a0 x0.2) - 48))))), (IntKind.wrap .i64 (x0.2 + 1)))) none) (some x0.1))
def F_115 (N : Nat) (a0 : List UInt8) : Option (Int) := (iter N (L_115_1 N a0) (0, 0))
def L_114_1 (N : Nat) (a0 : List UInt8) (again0 : Int × Int → Option (Int × Bool)) (x0 : Int × Int) : Option (Int × Bool) := (cond (decide (x0.2 < (IntKind.wrap .i64 ((slen a0) - 4)))) (cond (decide (0 ≤ x0.2 ∧ x0.2 ≤ (IntKind.wrap .i64 (x0.2 + 4)) ∧ (IntKind.wrap .i64 (x0.2 + 4)) ≤ slen a0)) (Option.bind (F_115 N (ssub a0 x0.2 (IntKind.wrap .i64 (x0.2 + 4)))) (fun (r1 : Int) => (cond (decide (9 < r1)) (some (0, false)) (again0 ((IntKind.wrap .i64 ((IntKind.wrap .i64 (10 * x0.1)) + r1)), (IntKind.wrap .i64 (x0.2 + 4))))))) none) (cond (decide (0 ≤ (IntKind.wrap .i64 ((slen a0) - 4)) ∧ (IntKind.wrap .i64 ((slen a0) - 4)) ≤ slen a0)) (Option.bind (F_115 N (ssub a0 (IntKind.wrap .i64 ((slen a0) - 4)) (slen a0))) (fun (r1 : Int) => (cond (decide (r1 = 13)) (some ((IntKind.wrap .i64 (0 - x0.1)), true)) (some (x0.1, (decide (r1 = 12))))))) none))
def F_114 (N : Nat) (a0 : List UInt8) : Option (Int × Bool) := (iter N (L_114_1 N a0) (0, 0))
def L_116_1 (N : Nat) (a0 : List UInt8) (again0 : List Int × Int → Option (List UInt8)) (x0 : List Int × Int) : Option (List UInt8) := (cond (decide ((IntKind.wrap .i64 (x0.2 + 8)) ≤ (slen a0))) (cond (decide (0 ≤ x0.2 ∧ x0.2 ≤ (IntKind.wrap .i64 (x0.2 + 8)) ∧ (IntKind.wrap .i64 (x0.2 + 8)) ≤ slen a0)) (Option.bind (F_115 N (ssub a0 x0.2 (IntKind.wrap .i64 (x0.2 + 8)))) (fun (r1 : Int) => (cond (apOk (List.length x0.1) ([(IntKind.wrap .u8 r1)] : List Int)) (again0 ((x0.1 ++ ([(IntKind.wrap .u8 r1)] : List Int)), (IntKind.wrap .i64 (x0.2 + 8)))) none))) none) (some (ofInts x0.1)))
def F_116 (N : Nat) (a0 : List UInt8) : Option (List UInt8) := (iter N (L_116_1 N a0) (([] : List Int), 0))
def L_108_1 {R : Type} (N : Nat) (p0 : Int) (k0 : List Int → Option R) (again0 : List Int × Int → Option (R)) (x0 : List Int × Int) : Option (R) := (cond (decide (0 ≤ x0.2)) (cond (decide (0 ≤ (IntKind.wrap .u64 x0.2))) (cond (apOk (List.length x0.1) ([(IntKind.wrap .u8 (48 + (IntKind.wrap .u8 (ibits .and .i64 (Int.fdiv p0 (2 ^ min (Int.toNat (IntKind.wrap .u64 x0.2)) (IntKind.bits .i64))) 1))))] : List Int)) (again0 ((x0.1 ++ ([(IntKind.wrap .u8 (48 + (IntKind.wrap .u8 (ibits .and .i64 (Int.fdiv p0 (2 ^ min (Int.toNat (IntKind.wrap .u64 x0.2)) (IntKind.bits .i64))) 1))))] : List Int)), (IntKind.wrap .i64 (x0.2 - 1)))) none) none) (k0 x0.1))
def Fk_108 {R : Type} (N : Nat) (p0 p1 : Int) (k0 : List Int → Option R) : Option R := (iter N (L_108_1 N p0 k0) (([] : List Int), (IntKind.wrap .i64 (p1 - 1))))
def Fk_108_2 {R : Type} (N : Nat) (p0 p1 : Int) (p2 : List Int) (k0 : List Int → Option R) : Option R := (iter N (L_108_1 N p0 k0) (p2, (IntKind.wrap .i64 (p1 - 1))))
def L_107_1 {R : Type} (N : Nat) (x0 : Int × List Int × Int) (k0 : List Int → Option R) (again2 : List Int × Int → Option (R)) (x2 : List Int × Int) : Option (R) := (cond (decide (0 ≤ x2.2)) (cond (inB x2.2 (ilen x0.2.1)) (Fk_108_2 N (igetI x0.2.1 x2.2) 4 x2.1 (fun (r3 : List Int) => (again2 (r3, (IntKind.wrap .i64 (x2.2 - 1)))))) none) (Fk_108_2 N 13 4 x2.1 (fun (r3 : List Int) => (k0 r3))))
def L_107_2 {R : Type} (N : Nat) (x0 : Int × List Int × Int) (k0 : List Int → Option R) (again1 : List Int × Int → Option (R)) (x1 : List Int × Int) : Option (R) := (cond (decide (0 ≤ x1.2)) (cond (inB x1.2 (ilen x0.2.1)) (Fk_108_2 N (igetI x0.2.1 x1.2) 4 x1.1 (fun (r2 : List Int) => (again1 (r2, (IntKind.wrap .i64 (x1.2 - 1)))))) none) (Fk_108_2 N 13 4 x1.1 (fun (r2 : List Int) => (k0 r2))))
def L_107_3 {R : Type} (N : Nat) (p1 : Int) (k0 : List Int → Option R) (again0 : Int × List Int × Int → Option (R)) (x0 : Int × List Int × Int) : Option (R) := (cond (decide (x0.2.2 < p1)) (cond (apOk (List.length x0.2.1) ([(Int.tmod x0.1 10)] : List Int)) (again0 ((IntKind.wrap .i64 (Int.tdiv x0.1 10)), (x0.2.1 ++ ([(Int.tmod x0.1 10)] : List Int)), (IntKind.wrap .i64 (x0.2.2 + 1)))) none) (cond (decide ((Int.tmod p1 2) = 0)) (Fk_108 N 0 4 (fun (r1 : List Int) => (iter N (L_107_1 N x0 k0) (r1, (IntKind.wrap .i64 (p1 - 1)))))) (iter N (L_107_2 N x0 k0) (([] : List Int), (IntKind.wrap .i64 (p1 - 1))))))
def L_107_4 {R : Type} (N : Nat) (x0 : Int × List Int × Int) (k0 : List Int → Option R) (again2 : List Int × Int → Option (R)) (x2 : List Int × Int) : Option (R) := (cond (decide (0 ≤ x2.2)) (cond (inB x2.2 (ilen x0.2.1)) (Fk_108_2 N (igetI x0.2.1 x2.2) 4 x2.1 (fun (r3 : List Int) => (again2 (r3, (IntKind.wrap .i64 (x2.2 - 1)))))) none) (Fk_108_2 N 12 4 x2.1 (fun (r3 : List Int) => (k0 r3))))
def L_107_5 {R : Type} (N : Nat) (x0 : Int × List Int × Int) (k0 : List Int → Option R) (again1 : List Int × Int → Option (R)) (x1 : List Int × Int) : Option (R) := (cond (decide (0 ≤ x1.2)) (cond (inB x1.2 (ilen x0.2.1)) (Fk_108_2 N (igetI x0.2.1 x1.2) 4 x1.1 (fun (r2 : List Int) => (again1 (r2, (IntKind.wrap .i64 (x1.2 - 1)))))) none) (Fk_108_2 N 12 4 x1.1 (fun (r2 : List Int) => (k0 r2))))
def L_107_6 {R : Type} (N : Nat) (p1 : Int) (k0 : List Int → Option R) (again0 : Int × List Int × Int → Option (R)) (x0 : Int × List Int × Int) : Option (R) := (cond (decide (x0.2.2 < p1)) (cond (apOk (List.length x0.2.1) ([(Int.tmod x0.1 10)] : List Int)) (again0 ((IntKind.wrap .i64 (Int.tdiv x0.1 10)), (x0.2.1 ++ ([(Int.tmod x0.1 10)] : List Int)), (IntKind.wrap .i64 (x0.2.2 + 1)))) none) (cond (decide ((Int.tmod p1 2) = 0)) (Fk_108 N 0 4 (fun (r1 : List Int) => (iter N (L_107_4 N x0 k0) (r1, (IntKind.wrap .i64 (p1 - 1)))))) (iter N (L_107_5 N x0 k0) (([] : List Int), (IntKind.wrap .i64 (p1 - 1))))))
def Fk_107 {R : Type} (N : Nat) (p0 p1 : Int) (k0 : List Int → Option R) : Option R := (cond (decide (p0 < 0)) (iter N (L_107_3 N p1 k0) ((max p0 (IntKind.wrap .i64 (0 - p0))), ([] : List Int), 0)) (iter N (L_107_6 N p1 k0) ((max p0 (IntKind.wrap .i64 (0 - p0))), ([] : List Int), 0)))
def L_109_1 {R : Type} (N : Nat) (p0 : List UInt8) (k0 : List Int → Option R) (again0 : List Int × Int → Option (R)) (x0 : List Int × Int) : Option (R) := (cond (decide (x0.2 < (slen p0))) (cond (inB x0.2 (slen p0)) (Fk_108_2 N (IntKind.wrap .i64 (sget p0 x0.2)) 8 x0.1 (fun (r1 : List Int) => (again0 (r1, (IntKind.wrap .i64 (x0.2 + 1)))))) none) (k0 x0.1))
def Fk_109 {R : Type} (N : Nat) (p0 : List UInt8) (p1 : List Int) (k0 : List Int → Option R) : Option R := (iter N (L_109_1 N p0 k0) (p1, 0))
def Fk_109_2 {R : Type} (N : Nat) (p0 : List UInt8) (k0 : List Int → Option R) : Option R := (iter N (L_109_1 N p0 k0) (([] : List Int), 0))
def F_73 (N : Nat) (a0 a1 a2 : Int) (a3 : Bool) (a4 : List UInt8) (a5 : Int) (a6 : List UInt8) : Option (List UInt8) := (cond (decide (a0 = 1)) (Fk_107 N a5 a1 (fun (r0 : List Int) => (some (ofInts r0)))) (cond (decide (a0 = 2)) (cond (decide (a5 < 0)) (Option.bind (F_20 N a0 a1 a2 a3 a4) (fun (r0 : Int) => (cond (decide (0 ≤ (IntKind.wrap .u64 r0))) (Option.bind (F_20 N a0 a1 a2 a3 a4) (fun (r1 : Int) => (Fk_108 N (IntKind.wrap .i64 (a5 + (IntKind.wrap .i64 (1 * (2 ^ min (Int.toNat (IntKind.wrap .u64 r0)) (IntKind.bits .i64)))))) r1 (fun (r2 : List Int) => (some (ofInts r2)))))) none))) (Option.bind (F_20 N a0 a1 a2 a3 a4) (fun (r0 : Int) => (Fk_108 N a5 r0 (fun (r1 : List Int) => (some (ofInts r1))))))) (cond (decide (a0 = 3)) (cond a3 (Fk_108 N (slen a6) 16 (fun (r0 : List Int) => (Fk_109 N a6 r0 (fun (r1 : List Int) => (some (ofInts r1)))))) (Fk_109_2 N a6 (fun (r0 : List Int) => (some (ofInts r0))))) (cond (decide (a0 = 4)) (some a6) (cond (decide (a0 = 5)) (Fk_109_2 N a6 (fun (r0 : List Int) => (some (ofInts r0)))) (cond (decide (a0 = 6)) (Fk_108 N a5 32 (fun (r0 : List Int) => (some (ofInts r0)))) none))))))
def F_76 (N : Nat) (a0 a1 a2 : Int) (a3 : Bool) (a4 a5 : List UInt8) : Option ((Int × List UInt8) × Bool) := (cond (decide (a0 = 1)) (Option.bind (F_114 N a5) (fun (r0 : Int × Bool) => (some ((r0.1, ([] : List UInt8)), r0.2)))) (cond (decide (a0 = 2)) (Option.bind (F_115 N a5) (fun (r0 : Int) => (cond (inB 0 (slen a5)) (cond (decide ((sget a5 0) = 49)) (cond (decide (0 ≤ (IntKind.wrap .u64 (slen a5)))) (some (((IntKind.wrap .i64 (r0 - (IntKind.wrap .i64 (1 * (2 ^ min (Int.toNat (IntKind.wrap .u64 (slen a5))) (IntKind.bits .i64)))))), ([] : List UInt8)), true)) none) (some ((r0, ([] : List UInt8)), true))) none))) (cond (decide (a0 = 3)) (cond (!a3) (Option.bind (F_116 N a5) (fun (r0 : List UInt8) => (some ((0, r0), true)))) (cond (decide (0 ≤ (16 : Int) ∧ 16 ≤ slen a5)) (Option.bind (F_115 N (ssub a5 0 16)) (fun (r0 : Int) => (cond (decide (a1 < r0)) (some ((0, ([] : List UInt8)), false)) (cond (decide (0 ≤ (16 : Int) ∧ 16 ≤ (IntKind.wrap .i64 (16 + (IntKind.wrap .i64 (8 * r0)))) ∧ (IntKind.wrap .i64 (16 + (IntKind.wrap .i64 (8 * r0)))) ≤ slen a5)) (Option.bind (F_116 N (ssub a5 16 (IntKind.wrap .i64 (16 + (IntKind.wrap .i64 (8 * r0)))))) (fun (r1 : List UInt8) => (some ((0, r1), true)))) none)))) none)) (cond (decide (a0 = 5)) (Option.bind (F_116 N a5) (fun (r0 : List UInt8) => (some ((0, r0), true)))) (cond (decide (a0 = 6)) (Option.bind (F_115 N a5) (fun (r0 : Int) => (some ((r0, ([] : List UInt8)), true)))) (some ((0, a5), true)))))))
def F_24 (N : Nat) (a0 a1 a2 : Int) (a3 : Bool) (a4 : List UInt8) (a5 : Int) (a6 : List UInt8) : Option (List UInt8 × Int) := (Option.bind (F_18 N a0 a1 a2 a3 a4 a5 a6) (fun (r0 : Int) => (cond (!(decide (r0 = 0))) (some (([] : List UInt8), r0)) (Option.bind (F_73 N a0 a1 a2 a3 a4 a5 a6) (fun (r1 : List UInt8) => (some (r1, 0)))))))
def F_26 (N : Nat) (a0 a1 a2 : Int) (a3 : Bool) (a4 a5 : List UInt8) : Option ((Int × List UInt8) × Int) := (Option.bind (F_61 N a0 a1 a2 a3 a4) (fun (r0 : Int) => (cond (!(decide (r0 = 0))) (some ((0, ([] : List UInt8)), r0)) (Option.bind (F_20 N a0 a1 a2 a3 a4) (fun (r1 : Int) => (Option.bind (cond (!(!(decide ((slen a5) = r1)))) (F_75 N a5) (some (default : Bool))) (fun (r2 : Bool) => (cond (cond (!(decide ((slen a5) = r1))) true (!r2)) (some ((0, ([] : List UInt8)), 1)) (Option.bind (F_76 N a0 a1 a2 a3 a4 a5) (fun (r3 : (Int × List UInt8) × Bool) => (Option.bind (cond (!(!r3.2)) (F_18 N a0 a1 a2 a3 a4 r3.1.1 r3.1.2) (some (default : Int))) (fun (r4 : Int) => (cond (cond (!r3.2) true (!(decide (r4 = 0)))) (some ((0, ([] : List UInt8)), 6)) (some ((r3.1.1, r3.1.2), 0)))))))))))))))
end
end Go.Yec
namespace Go.Yec
open Go Go.Xec Go.Proofs
noncomputable section
variable {D : Type} {V : D → List (PV D)} {hk : Hook}
theorem FE_69 (N : Nat) (a0 a1 : Int) : fsem (D := D) (tblOf [(106, ent_106 N)]) N (ycOf Tryz.prog 69 [[((.tmp 1), (.int .i64)), ((.tmp 6), .str), ((.tmp 14), (.int .i64))]]) [.t 4] [.int .i64 a0, .int .i64 a1] .leaf 0 K_r2 = F_69 N a0 a1 := by kernel_rfl
def ent_69 (N : Nat) : List (PV D) → Bt D → Nat → CallR D := fun args _ _ => match args with
 | [.int .i64 a0, .int .i64 a1] => .opt (List UInt8) (F_69 N a0 a1) default O_r2
 | _ => .bad
theorem ent_69_ok (hkn : HkS hk) (N : Nat) : EOk hk V 69 (ent_69 N) := fun args B m => by
 unfold ent_69
 split
 ·exact fun _ h => eP hkn (tblOf_ok (tok1 (ent_106_ok hkn N) (tok0))) (sz := 31) (by kernel_rfl) rfl rfl rfl rfl (FE_69 N _ _) KO_r2 rfl h
 ·trivial
def K_r12 : PV D → Y D → Option (Int) := fun v _ => match v with
 | .int .u16 q0 => some q0
 | _ => none
def O_r12 (r : Int) : PV D := .int .u16 r
theorem KO_r12 {r : Int} (v : PV D) (st : Y D) (h : K_r12 v st = some r) : v = O_r12 r := by
 unfold K_r12 at h
 split at h <;> first | (cases h; rfl) | (cases h)
theorem FE_111 (N : Nat) (a0 : List UInt8) : fsem (D := D) (tblOf []) N (ycOf Tryz.prog 111 [[((.tmp 3), (.int .u16)), ((.tmp 7), (.int .i64))]]) [.t 2] [.str a0] .leaf 0 K_r12 = F_111 N a0 := by kernel_rfl
def ent_111 (N : Nat) : List (PV D) → Bt D → Nat → CallR D := fun args _ _ => match args with
 | [.str a0] => .opt (Int) (F_111 N a0) default O_r12
 | _ => .bad
theorem ent_111_ok (hkn : HkS hk) (N : Nat) : EOk hk V 111 (ent_111 N) := fun args B m => by
 unfold ent_111
 split
 ·exact fun _ h => eP hkn (tblOf_ok (tok0)) (sz := 20) (by kernel_rfl) rfl rfl rfl rfl (FE_111 N _) KO_r12 rfl h
 ·trivial
def K_r13 : PV D → Y D → Option (Int) := fun v _ => match v with
 | .int .u32 q0 => some q0
 | _ => none
def O_r13 (r : Int) : PV D := .int .u32 r
theorem KO_r13 {r : Int} (v : PV D) (st : Y D) (h : K_r13 v st = some r) : v = O_r13 r := by
 unfold K_r13 at h
 split at h <;> first | (cases h; rfl) | (cases h)
theorem FE_112 (N : Nat) (a0 : List UInt8) : fsem (D := D) (tblOf []) N (ycOf Tryz.prog 112 [[((.tmp 3), (.int .u32)), ((.tmp 7), (.int .i64))]]) [.t 2] [.str a0] .leaf 0 K_r13 = F_112 N a0 := by kernel_rfl
def ent_112 (N : Nat) : List (PV D) → Bt D → Nat → CallR D := fun args _ _ => match args with
 | [.str a0] => .opt (Int) (F_112 N a0) default O_r13
 | _ => .bad
theorem ent_112_ok (hkn : HkS hk) (N : Nat) : EOk hk V 112 (ent_112 N) := fun args B m => by
 unfold ent_112
 split
 ·exact fun _ h => eP hkn (tblOf_ok (tok0)) (sz := 20) (by kernel_rfl) rfl rfl rfl rfl (FE_112 N _) KO_r13 rfl h
 ·trivial
theorem FE_148 (N : Nat) (a0 : List UInt8) : fsem (D := D) (tblOf []) N (ycOf Tryz.prog 148 [[((.tmp 3), (.int .u8)), ((.tmp 7), (.int .i64))]]) [.t 2] [.str a0] .leaf 0 K_r3 = F_148 N a0 := by kernel_rfl
def ent_148 (N : Nat) : List (PV D) → Bt D → Nat → CallR D := fun args _ _ => match args with
 | [.str a0] => .opt (Int) (F_148 N a0) default O_r3
 | _ => .bad
theorem ent_148_ok (hkn : HkS hk) (N : Nat) : EOk hk V 148 (ent_148 N) := fun args B m => by
 unfold ent_148
 split
 ·exact fun _ h => eP hkn (tblOf_ok (tok0)) (sz := 19) (by kernel_rfl) rfl rfl rfl rfl (FE_148 N _) KO_r3 rfl h
 ·trivial
theorem FE_110 (N : Nat) (a0 : Int) (a1 : List UInt8) : fsem (D := D) (tblOf [(148, ent_148 N)]) N (ycOf Tryz.prog 110 [[((.tmp 1), .str), ((.tmp 6), (.int .i64))]]) [.t 4, .t 5] [.int .i64 a0, .str a1] .leaf 0 K_r7 = F_110 N a0 a1 := by kernel_rfl
def ent_110 (N : Nat) : List (PV D) → Bt D → Nat → CallR D := fun args _ _ => match args with
 | [.int .i64 a0, .str a1] => .opt (Int × Bool) (F_110 N a0 a1) default O_r7
 | _ => .bad
theorem ent_110_ok (hkn : HkS hk) (N : Nat) : EOk hk V 110 (ent_110 N) := fun args B m => by
 unfold ent_110
 split
 ·exact fun _ h => eP hkn (tblOf_ok (tok1 (ent_148_ok hkn N) (tok0))) (sz := 40) (by kernel_rfl) rfl rfl rfl rfl (FE_110 N _ _) KO_r7 rfl h
 ·trivial
theorem FE_113 (N : Nat) (a0 : List UInt8) : fsem (D := D) (tblOf [(148, ent_148 N)]) N (ycOf Tryz.prog 113 [[((.tmp 11), (.int .i64)), ((.row 0), (.rowI 5 .u8))]]) [.t 2] [.str a0] .leaf 0 K_r2 = F_113 N a0 := by kernel_rfl
def ent_113 (N : Nat) : List (PV D) → Bt D → Nat → CallR D := fun args _ _ => match args with
 | [.str a0] => .opt (List UInt8) (F_113 N a0) default O_r2
 | _ => .bad
theorem ent_113_ok (hkn : HkS hk) (N : Nat) : EOk hk V 113 (ent_113 N) := fun args B m => by
 unfold ent_113
 split
 ·exact fun _ h => eP hkn (tblOf_ok (tok1 (ent_148_ok hkn N) (tok0))) (sz := 28) (by kernel_rfl) rfl rfl rfl rfl (FE_113 N _) KO_r2 rfl h
 ·trivial
def K_r14 : PV D → Y D → Option ((Int × List UInt8) × Bool) := fun v _ => match v with
 | .tup [.agg [.int .i64 q0, .str q1], .bool q2] => some ((q0, q1), q2)
 | _ => none
def O_r14 (r : (Int × List UInt8) × Bool) : PV D := .tup [.agg [.int .i64 r.1.1, .str r.1.2], .bool r.2]
theorem KO_r14 {r : (Int × List UInt8) × Bool} (v : PV D) (st : Y D) (h : K_r14 v st = some r) : v = O_r14 r := by
 unfold K_r14 at h
 split at h <;> first | (cases h; rfl) | (cases h)
theorem FE_74 (N : Nat) (a0 a1 a2 : Int) (a3 : Bool) (a4 a5 : List UInt8) : fsem (D := D) (tblOf [(110, ent_110 N), (111, ent_111 N), (112, ent_112 N), (113, ent_113 N)]) N (ycOf Tryz.prog 74 []) [.c 4 2 true, .t 5] [.agg [.int .i64 a0, .int .i64 a1, .int .i64 a2, .bool a3, .str a4], .str a5] .leaf 0 K_r14 = F_74 N a0 a1 a2 a3 a4 a5 := by kernel_rfl
def ent_74 (N : Nat) : List (PV D) → Bt D → Nat → CallR D := fun args _ _ => match args with
 | [.agg [.int .i64 a0, .int .i64 a1, .int .i64 a2, .bool a3, .str a4], .str a5] => .opt ((Int × List UInt8) × Bool) (F_74 N a0 a1 a2 a3 a4 a5) default O_r14
 | _ => .bad
theorem ent_74_ok (hkn : HkS hk) (N : Nat) : EOk hk V 74 (ent_74 N) := fun args B m => by
 unfold ent_74
 split
 ·exact fun _ h => eP hkn (tblOf_ok (tok1 (ent_110_ok hkn N) (tok1 (ent_111_ok hkn N) (tok1 (ent_112_ok hkn N) (tok1 (ent_113_ok hkn N) (tok0)))))) (sz := 67) (by kernel_rfl) rfl rfl rfl rfl (FE_74 N _ _ _ _ _ _) KO_r14 rfl h
 ·trivial
theorem FE_23 (N : Nat) (a0 a1 a2 : Int) (a3 : Bool) (a4 : List UInt8) (a5 : Int) (a6 : List UInt8) : fsem (D := D) (tblOf [(17, ent_17 N), (19, ent_19 N), (69, ent_69 N), (70, ent_70 N), (71, ent_71 N), (72, ent_72 N)]) N (ycOf Tryz.prog 23 []) [.t 4, .t 5] [.agg [.int .i64 a0, .int .i64 a1, .int .i64 a2, .bool a3, .str a4], .agg [.int .i64 a5, .str a6]] .leaf 0 K_r5 = F_23 N a0 a1 a2 a3 a4 a5 a6 := by kernel_rfl
def ent_23 (N : Nat) : List (PV D) → Bt D → Nat → CallR D := fun args _ _ => match args with
 | [.agg [.int .i64 a0, .int .i64 a1, .int .i64 a2, .bool a3, .str a4], .agg [.int .i64 a5, .str a6]] => .opt (List UInt8 × Int) (F_23 N a0 a1 a2 a3 a4 a5 a6) default O_r5
 | _ => .bad
theorem ent_23_ok (hkn : HkS hk) (N : Nat) : EOk hk V 23 (ent_23 N) := fun args B m => by
 unfold ent_23
 split
 ·exact fun _ h => eP hkn (tblOf_ok (tok1 (ent_17_ok hkn N) (tok1 (ent_19_ok hkn N) (tok1 (ent_69_ok hkn N) (tok1 (ent_70_ok hkn N) (tok1 (ent_71_ok hkn N) (tok1 (ent_72_ok hkn N) (tok0)))))))) (sz := 49) (by kernel_rfl) rfl rfl rfl rfl (FE_23 N _ _ _ _ _ _ _) KO_r5 rfl h
 ·trivial
def K_r15 : PV D → Y D → Option ((Int × List UInt8) × Int) := fun v _ => match v with
 | .tup [.agg [.int .i64 q0, .str q1], .int .i64 q2] => some ((q0, q1), q2)
 | _ => none
def O_r15 (r : (Int × List UInt8) × Int) : PV D := .tup [.agg [.int .i64 r.1.1, .str r.1.2], .int .i64 r.2]
theorem KO_r15 {r : (Int × List UInt8) × Int} (v : PV D) (st : Y D) (h : K_r15 v st = some r) : v = O_r15 r := by
 unfold K_r15 at h
 split at h <;> first | (cases h; rfl) | (cases h)
theorem FE_25 (N : Nat) (a0 a1 a2 : Int) (a3 : Bool) (a4 a5 : List UInt8) : fsem (D := D) (tblOf [(17, ent_17 N), (19, ent_19 N), (62, ent_62 N), (64, ent_64 N), (74, ent_74 N)]) N (ycOf Tryz.prog 25 []) [.c 4 2 true, .t 5] [.agg [.int .i64 a0, .int .i64 a1, .int .i64 a2, .bool a3, .str a4], .str a5] .leaf 0 K_r15 = F_25 N a0 a1 a2 a3 a4 a5 := by kernel_rfl
def ent_25 (N : Nat) : List (PV D) → Bt D → Nat → CallR D := fun args _ _ => match args with
 | [.agg [.int .i64 a0, .int .i64 a1, .int .i64 a2, .bool a3, .str a4], .str a5] => .opt ((Int × List UInt8) × Int) (F_25 N a0 a1 a2 a3 a4 a5) default O_r15
 | _ => .bad
theorem ent_25_ok (hkn : HkS hk) (N : Nat) : EOk hk V 25 (ent_25 N) := fun args B m => by
 unfold ent_25
 split
 ·exact fun _ h => eP hkn (tblOf_ok (tok1 (ent_17_ok hkn N) (tok1 (ent_19_ok hkn N) (tok1 (ent_62_ok hkn N) (tok1 (ent_64_ok hkn N) (tok1 (ent_74_ok hkn N) (tok0))))))) (sz := 39) (by kernel_rfl) rfl rfl rfl rfl (FE_25 N _ _ _ _ _ _) KO_r15 rfl h
 ·trivial
theorem FE_115 (N : Nat) (a0 : List UInt8) : fsem (D := D) (tblOf []) N (ycOf Tryz.prog 115 [[((.tmp 3), (.int .i64)), ((.tmp 4), (.int .i64))]]) [.t 2] [.str a0] .leaf 0 K_r0 = F_115 N a0 := by kernel_rfl
def ent_115 (N : Nat) : List (PV D) → Bt D → Nat → CallR D := fun args _ _ => match args with
 | [.str a0] => .opt (Int) (F_115 N a0) default O_r0
 | _ => .bad
theorem ent_115_ok (hkn : HkS hk) (N : Nat) : EOk hk V 115 (ent_115 N) := fun args B m => by
 unfold ent_115
 split
 ·exact fun _ h => eP hkn (tblOf_ok (tok0)) (sz := 20) (by kernel_rfl) rfl rfl rfl rfl (FE_115 N _) KO_r0 rfl h
 ·trivial
theorem FE_114 (N : Nat) (a0 : List UInt8) : fsem (D := D) (tblOf [(115, ent_115 N)]) N (ycOf Tryz.prog 114 [[((.tmp 4), (.int .i64)), ((.tmp 6), (.int .i64))]]) [.t 2, .t 3] [.str a0] .leaf 0 K_r7 = F_114 N a0 := by kernel_rfl
def ent_114 (N : Nat) : List (PV D) → Bt D → Nat → CallR D := fun args _ _ => match args with
 | [.str a0] => .opt (Int × Bool) (F_114 N a0) default O_r7
 | _ => .bad
theorem ent_114_ok (hkn : HkS hk) (N : Nat) : EOk hk V 114 (ent_114 N) := fun args B m => by
 unfold ent_114
 split
 ·exact fun _ h => eP hkn (tblOf_ok (tok1 (ent_115_ok hkn N) (tok0))) (sz := 40) (by kernel_rfl) rfl rfl rfl rfl (FE_114 N _) KO_r7 rfl h
 ·trivial
theorem FE_116 (N : Nat) (a0 : List UInt8) : fsem (D := D) (tblOf [(115, ent_115 N)]) N (ycOf Tryz.prog 116 [[((.tmp 3), (.rowI 5 .u8)), ((.tmp 4), (.int .i64))]]) [.t 2] [.str a0] .leaf 0 K_r2 = F_116 N a0 := by kernel_rfl
def ent_116 (N : Nat) : List (PV D) → Bt D → Nat → CallR D := fun args _ _ => match args with
 | [.str a0] => .opt (List UInt8) (F_116 N a0) default O_r2
 | _ => .bad
theorem ent_116_ok (hkn : HkS hk) (N : Nat) : EOk hk V 116 (ent_116 N) := fun args B m => by
 unfold ent_116
 split
 ·exact fun _ h => eP hkn (tblOf_ok (tok1 (ent_115_ok hkn N) (tok0))) (sz := 24) (by kernel_rfl) rfl rfl rfl rfl (FE_116 N _) KO_r2 rfl h
 ·trivial
def ent_108_1 (N : Nat) : List (PV D) → Bt D → Nat → CallR D := fun args B m => inlC (tblOf []) N (ycOf Tryz.prog 108 [[((.tmp 0), (.rowI 5 .u8)), ((.tmp 7), (.int .i64))]]) [.t 6] 25 .nils args B m
theorem ent_108_1_ok (hkn : HkS hk) (N : Nat) : EOk hk V 108 (ent_108_1 N) := fun args B m => inlE hkn (tblOf_ok (tok0)) (by kernel_rfl) rfl args B m
def ent_107_1 (N : Nat) : List (PV D) → Bt D → Nat → CallR D := fun args B m => inlC (tblOf [(108, ent_108_1 N)]) N (ycOf Tryz.prog 107 [[((.tmp 1), (.int .i64)), ((.tmp 8), (.rowI 3 .i64)), ((.tmp 9), (.int .i64))], [((.tmp 0), (.rowI 5 .u8)), ((.tmp 10), (.int .i64))]]) [.t 6] 49 .nils args B m
theorem ent_107_1_ok (hkn : HkS hk) (N : Nat) : EOk hk V 107 (ent_107_1 N) := fun args B m => inlE hkn (tblOf_ok (tok1 (ent_108_1_ok hkn N) (tok0))) (by kernel_rfl) rfl args B m
def ent_109_1 (N : Nat) : List (PV D) → Bt D → Nat → CallR D := fun args B m => inlC (tblOf [(108, ent_108_1 N)]) N (ycOf Tryz.prog 109 [[((.tmp 0), (.rowI 5 .u8)), ((.tmp 5), (.int .i64))]]) [.t 4] 19 .nils args B m
theorem ent_109_1_ok (hkn : HkS hk) (N : Nat) : EOk hk V 109 (ent_109_1 N) := fun args B m => inlE hkn (tblOf_ok (tok1 (ent_108_1_ok hkn N) (tok0))) (by kernel_rfl) rfl args B m
theorem FE_73 (N : Nat) (a0 a1 a2 : Int) (a3 : Bool) (a4 : List UInt8) (a5 : Int) (a6 : List UInt8) : fsem (D := D) (tblOf [(20, ent_20 N), (107, ent_107_1 N), (108, ent_108_1 N), (109, ent_109_1 N)]) N (ycOf Tryz.prog 73 []) [.t 4] [.agg [.int .i64 a0, .int .i64 a1, .int .i64 a2, .bool a3, .str a4], .agg [.int .i64 a5, .str a6]] .leaf 0 K_r2 = F_73 N a0 a1 a2 a3 a4 a5 a6 := by kernel_rfl
def ent_73 (N : Nat) : List (PV D) → Bt D → Nat → CallR D := fun args _ _ => match args with
 | [.agg [.int .i64 a0, .int .i64 a1, .int .i64 a2, .bool a3, .str a4], .agg [.int .i64 a5, .str a6]] => .opt (List UInt8) (F_73 N a0 a1 a2 a3 a4 a5 a6) default O_r2
 | _ => .bad
theorem ent_73_ok (hkn : HkS hk) (N : Nat) : EOk hk V 73 (ent_73 N) := fun args B m => by
 unfold ent_73
 split
 ·exact fun _ h => eP hkn (tblOf_ok (tok1 (ent_20_ok hkn N) (tok1 (ent_107_1_ok hkn N) (tok1 (ent_108_1_ok hkn N) (tok1 (ent_109_1_ok hkn N) (tok0)))))) (sz := 65) (by kernel_rfl) rfl rfl rfl rfl (FE_73 N _ _ _ _ _ _ _) KO_r2 rfl h
 ·trivial
theorem FE_76 (N : Nat) (a0 a1 a2 : Int) (a3 : Bool) (a4 a5 : List UInt8) : fsem (D := D) (tblOf [(114, ent_114 N), (115, ent_115 N), (116, ent_116 N)]) N (ycOf Tryz.prog 76 []) [.c 4 2 true, .t 5] [.agg [.int .i64 a0, .int .i64 a1, .int .i64 a2, .bool a3, .str a4], .str a5] .leaf 0 K_r14 = F_76 N a0 a1 a2 a3 a4 a5 := by kernel_rfl
def ent_76 (N : Nat) : List (PV D) → Bt D → Nat → CallR D := fun args _ _ => match args with
 | [.agg [.int .i64 a0, .int .i64 a1, .int .i64 a2, .bool a3, .str a4], .str a5] => .opt ((Int × List UInt8) × Bool) (F_76 N a0 a1 a2 a3 a4 a5) default O_r14
 | _ => .bad
theorem ent_76_ok (hkn : HkS hk) (N : Nat) : EOk hk V 76 (ent_76 N) := fun args B m => by
 unfold ent_76
 split
 ·exact fun _ h => eP hkn (tblOf_ok (tok1 (ent_114_ok hkn N) (tok1 (ent_115_ok hkn N) (tok1 (ent_116_ok hkn N) (tok0))))) (sz := 72) (by kernel_rfl) rfl rfl rfl rfl (FE_76 N _ _ _ _ _ _) KO_r14 rfl h
 ·trivial
theorem FE_24 (N : Nat) (a0 a1 a2 : Int) (a3 : Bool) (a4 : List UInt8) (a5 : Int) (a6 : List UInt8) : fsem (D := D) (tblOf [(18, ent_18 N), (73, ent_73 N)]) N (ycOf Tryz.prog 24 []) [.t 4, .t 5] [.agg [.int .i64 a0, .int .i64 a1, .int .i64 a2, .bool a3, .str a4], .agg [.int .i64 a5, .str a6]] .leaf 0 K_r5 = F_24 N a0 a1 a2 a3 a4 a5 a6 := by kernel_rfl
def ent_24 (N : Nat) : List (PV D) → Bt D → Nat → CallR D := fun args _ _ => match args with
 | [.agg [.int .i64 a0, .int .i64 a1, .int .i64 a2, .bool a3, .str a4], .agg [.int .i64 a5, .str a6]] => .opt (List UInt8 × Int) (F_24 N a0 a1 a2 a3 a4 a5 a6) default O_r5
 | _ => .bad
theorem ent_24_ok (hkn : HkS hk) (N : Nat) : EOk hk V 24 (ent_24 N) := fun args B m => by
 unfold ent_24
 split
 ·exact fun _ h => eP hkn (tblOf_ok (tok1 (ent_18_ok hkn N) (tok1 (ent_73_ok hkn N) (tok0)))) (sz := 16) (by kernel_rfl) rfl rfl rfl rfl (FE_24 N _ _ _ _ _ _ _) KO_r5 rfl h
 ·trivial
theorem FE_26 (N : Nat) (a0 a1 a2 : Int) (a3 : Bool) (a4 a5 : List UInt8) : fsem (D := D) (tblOf [(18, ent_18 N), (20, ent_20 N), (61, ent_61 N), (75, ent_75 N), (76, ent_76 N)]) N (ycOf Tryz.prog 26 []) [.c 4 2 true, .t 5] [.agg [.int .i64 a0, .int .i64 a1, .int .i64 a2, .bool a3, .str a4], .str a5] .leaf 0 K_r15 = F_26 N a0 a1 a2 a3 a4 a5 := by kernel_rfl
def ent_26 (N : Nat) : List (PV D) → Bt D → Nat → CallR D := fun args _ _ => match args with
 | [.agg [.int .i64 a0, .int .i64 a1, .int .i64 a2, .bool a3, .str a4], .str a5] => .opt ((Int × List UInt8) × Int) (F_26 N a0 a1 a2 a3 a4 a5) default O_r15
 | _ => .bad
theorem ent_26_ok (hkn : HkS hk) (N : Nat) : EOk hk V 26 (ent_26 N) := fun args B m => by
 unfold ent_26
 split
 ·exact fun _ h => eP hkn (tblOf_ok (tok1 (ent_18_ok hkn N) (tok1 (ent_20_ok hkn N) (tok1 (ent_61_ok hkn N) (tok1 (ent_75_ok hkn N) (tok1 (ent_76_ok hkn N) (tok0))))))) (sz := 42) (by kernel_rfl) rfl rfl rfl rfl (FE_26 N _ _ _ _ _ _) KO_r15 rfl h
 ·trivial
end
end Go.Yec
