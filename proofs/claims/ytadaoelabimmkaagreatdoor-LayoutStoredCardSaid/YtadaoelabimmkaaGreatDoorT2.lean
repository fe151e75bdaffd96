/-
  Encode, Decode of both, as the model's calls.
-/
import Derived.Test.YtadaoelabimmkaaGreatDoorT1
import Derived.Test.YtadaoelabimmkaaGreatDoorG3
import Derived.Test.YtadaoelabimmkaaGreatDoorZ8
set_option linter.all false
namespace Go.Proofs
open Go.RowKit Go.Yec
open Go.Xec (Glob)
variable {k p q n : Int} {v : Bool} {s u b : ByteArray}
noncomputable def encB (k p q : Int) (v : Bool) (s : ByteArray) (n : Int) (u : ByteArray) : ByteArray:=⟨(encR k p q v s.data.toList n u.data.toList).1.toArray⟩
noncomputable def encE (k p q : Int) (v : Bool) (s : ByteArray) (n : Int) (u : ByteArray) : Int:=(encR k p q v s.data.toList n u.data.toList).2
theorem rep_enc {D : Type} {V : D -> List (PV D)} {r : List UInt8 × Int} {μ : Mu} {H : Xec.Hp} {M : Nat -> Prop} {y : Value} (h : Rep V μ H M (.tup [.str r.1, .int .i64 r.2]) y) : y = .tuple #[.string ⟨r.1.toArray⟩, .int .i64 r.2] := by
  cases h with
  | tup _ a h =>
    cases a with | mk l =>
    cases h with
    | cons _ x _ l h1 h2 => cases h2 with
      | cons _ z _ l h2 h3 =>
        cases h3
        obtain ⟨t,e,rfl⟩:=h1.str_of
        obtain rfl:=h2.int_of
        rw [<- e]
theorem rep_dec {D : Type} {V : D -> List (PV D)} {r : (Int × List UInt8) × Int} {μ : Mu} {H : Xec.Hp} {M : Nat -> Prop} {y : Value} (h : Rep V μ H M (.tup [.agg [.int .i64 r.1.1, .str r.1.2], .int .i64 r.2]) y) : y = .tuple #[vaV r.1.1 ⟨r.1.2.toArray⟩, .int .i64 r.2] := by
  cases h with
  | tup _ a h =>
    cases a with | mk l =>
    cases h with
    | cons _ x _ l h1 h2 => cases h2 with
      | cons _ z _ l h2 h3 =>
        cases h3
        obtain rfl:=h2.int_of
        cases h1 with
        | agg _ a h =>
          cases a with | mk l =>
          cases h with
          | cons _ x _ l h1 h2 => cases h2 with
            | cons _ z _ l h2 h3 =>
              cases h3
              obtain rfl:=h1.int_of
              obtain ⟨t,e,rfl⟩:=h2.str_of
              rw [<- e]
theorem c23 (hl : s.data.toList.length <= 200) (w : World) (hg : Glob w) : Calls Tryz.prog 23 #[tyV k p q v s,vaV n u] w fun e w'=>e = .returned (.tuple #[.string (encB k p q v s n u), .int .i64 (encE k p q v s n u)]) /\ Below w.heap.size w w' :=
  (x4Q (D:=Unit) (V:=V0) z8E x1Z x1Y (x8Q (w0A z8F 1100) (args:=[tyP k p q v s,vaP n u]) rfl (enc_own (by omega) (by omega))) (xs:=[tyV k p q v s,vaV n u]) (.cons _ _ _ _ y3P (.cons _ _ _ _ v6C .nil)) rfl (fun _ _ _ _ h=>rep_enc h) rfl w hg).mono fun _ _ h=>x6E h
end Go.Proofs
