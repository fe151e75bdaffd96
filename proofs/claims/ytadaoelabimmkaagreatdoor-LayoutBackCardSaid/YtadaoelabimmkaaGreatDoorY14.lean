/-
  YSeat; fixed.tens: the table of powers, by one closed run.; digits[uint8] at eight digits, by 256 closed runs.; bytesOf: the bits of bytes, written by a strings.Builder.; FUNCTIONS OF THE LIBRARY WHOSE LAWS THE SHELF GIVES: as a hook of the executor, as entries of the pure executor's table.; THE PURE EXECUTOR: functions that turn blocks of their caller's, or hand new ones back.
-/
import Derived.Test.YtadaoelabimmkaaGreatDoorY13
import Derived.KernelRfl
import Derived.Test.YtadaoelabimmkaaGreatDoorChecked
import Derived.Below
import Derived.Test.YtadaoelabimmkaaGreatDoorX10
import Derived.Test.YtadaoelabimmkaaGreatDoorY2
import Derived.Test.YtadaoelabimmkaaGreatDoorY1
import Derived.Shelf.Strings.BuilderF
import Derived.WalkKit
import Derived.Deep.LoopGhost
import Derived.Deep.DeepFit
import Derived.Shelf.Small.Strs
import Derived.Shelf.Strings.Count
import Derived.Shelf.Strings.Search3
import Derived.Shelf.Strings.Prefix
import Derived.Shelf.Strings.LastIndex
import Derived.Shelf.Strings.IndexAnyAll
import Derived.Shelf.Strings.SlTrimAscii
import Derived.Shelf.Strings.Repeat
import Derived.Shelf.Strconv.Atoi
import Derived.Lib.AtoiErrMem
set_option linter.all false
namespace Go.Yec
open Go Go.Xec Go.Proofs
def y1F (f : Nat) : Bool := [9, 28, 72, 129, 131, 132, 136, 162, 164, 168, 189, 197, 198, 207].elem f
instance gtSeat : GT := ⟨fun g => cond (Nat.beq g 1) (some punV) none⟩
def HkN (hk : Hook) : Prop := ∀ f, y1F f = false -> ∀ xs, hk f xs = none
end Go.Yec
namespace Go.Proofs
open Go.RowKit
def tenV : Array Value := #[.int .i64 1, .int .i64 10, .int .i64 100, .int .i64 1000, .int .i64 10000, .int .i64 100000, .int .i64 1000000, .int .i64 10000000, .int .i64 100000000, .int .i64 1000000000, .int .i64 10000000000, .int .i64 100000000000, .int .i64 1000000000000, .int .i64 10000000000000, .int .i64 100000000000000, .int .i64 1000000000000000, .int .i64 10000000000000000, .int .i64 100000000000000000, .int .i64 1000000000000000000]
theorem v4S : Xec.givesB Tryz.prog 2000 129 [] (.agg tenV) = true := by kernel_rfl
theorem x2D : Xec.namesB Tryz.prog = true := by kernel_rfl
theorem x2E : Tryz.prog.follows .mixedOrders = true := by kernel_rfl
theorem Tryz.tens (w : World) (hg : Xec.Glob w) : Calls Tryz.prog 129 #[] w fun e w' => e = .returned (.agg tenV) /\ Below w.heap.size w w' :=
  Calls.mono (Xec.closed_call x2E x2D v4S w hg) fun _ _ ⟨h1, h2, h3, h4, h5, h6⟩ => ⟨h1, h4, h6, h5, h3, h2⟩
end Go.Proofs
namespace Go.Proofs
open Go.RowKit
theorem v3N : ((List.range 256).all fun c => Xec.givesB Tryz.prog 3000 106 [.int .u8 (c : Int), .int .i64 8] (.string ⟨(Yec.bitsB c.toUInt8).toArray⟩)) = true := by kernel_rfl
theorem c106 (c : UInt8) (w : World) (hg : Xec.Glob w) : Calls Tryz.prog 106 #[.int .u8 (c.toNat : Int), .int .i64 8] w fun e w' => e = .returned (.string ⟨(Yec.bitsB c).toArray⟩) /\ Below w.heap.size w w' := by
  have h := List.all_eq_true.1 v3N c.toNat (List.mem_range.2 c.toNat_lt)
  rw [show c.toNat.toUInt8 = c from by simp] at h
  exact Calls.mono (Xec.closed_call x2E x2D h w hg) fun _ _ ⟨h1, h2, h3, h4, h5, h6⟩ => ⟨h1, h4, h6, h5, h3, h2⟩
end Go.Proofs
namespace Go.Proofs
open Go.Shelf Go.RowKit Go.Lib
theorem x2R {w w' : World} (h : Below w.heap.size w w') (hg : Xec.Glob w) : Xec.Glob w' := fun g cs e => by
  obtain ⟨t, fz, h1⟩ := hg g cs e
  exact ⟨t, fz, by rw [h.block g (Array.getElem?_eq_some_iff.1 h1).1]; exact h1⟩
theorem Tryz.extra105 : Builder.Extra Tryz.prog Tryz.lays105_ren := {
  sizeBuilder := by kernel_rfl
  liesBuilder := by kernel_rfl
  t5 := Tryz.underlying5
  a5 := Tryz.isAgg5
  z5 := Tryz.sizeOf5
  v5 := Tryz.zeroValue5
  infoByte := by kernel_rfl
  cellsByte := by kernel_rfl
  sizeByte := by kernel_rfl
  neB5 := by decide }
theorem y9E {T e : TypeId} {B b : Nat} {p : Value} {bs : List Value} {w w' : World} (h : Lib.BuilderAtF T e B b p bs w) (hf : ∀ j, j < w.heap.size -> w'.heap[j]? = w.heap[j]?) : Lib.BuilderAtF T e B b p bs w' := by
  have hlt := h.lt
  obtain ⟨hB, v, hb, hown, hne⟩ := h
  refine ⟨hB, v, (hf b hlt).trans hb, ?_, hne⟩
  obtain ⟨h1, h2⟩ := hown
  refine ⟨h1, ?_⟩
  rcases h2 with h2 | ⟨g, cap, cur, fz, e1, e2, e3, e4, e5, e6, e7, e8⟩
  . exact .inl h2
  . exact .inr ⟨g, cap, cur, fz, e1, e2, (hf g (Array.getElem?_eq_some_iff.1 e3).1).trans e3, e4, e5, e6, e7, e8⟩
theorem w0T {T e : TypeId} {B b : Nat} {bs : List Value} {w w' : World} (h : Lib.IsBuilderF T e B b bs w) (hf : ∀ j, j < w.heap.size -> w'.heap[j]? = w.heap[j]?) : Lib.IsBuilderF T e B b bs w' :=
  h.elim (fun x => .inl (y9E x hf)) (fun x => .inr (y9E x hf))
set_option maxHeartbeats 2000000 in
theorem c72 (s : ByteArray) (w : World) (hs : s.size < 65536) (hg : Xec.Glob w) : Calls Tryz.prog 72 #[.string s] w fun e w' => e = .returned (.string ⟨(Yec.hBits s.data.toList).toArray⟩) /\ Below w.heap.size w w' := by
  have h0 : Lib.IsBuilderF 120 5 w.heap.size w.heap.size (Lib.byteCells []) (w.alloc (.cells #[.pointer none, .slice none 0 0] 120)) := Lib.IsBuilderF.of (Lib.fresh_isBuilder 120 5 w)
  have b0 : Below w.heap.size w (w.alloc (.cells #[.pointer none, .slice none 0 0] 120)) := (Below.refl _ w).alloc (Nat.le_refl _) _
  have hsl : s.data.toList.length = s.size := (Lib.size_eq s).symm
  go_enter Tryz.func72, Tryz.ntmps72
  go_wp2
  go_loopg [7] s.size (fun g s7 wx => ∃ k : Nat, k <= s.size /\ g = s.size - k /\ s7 = .int .i64 k /\ Lib.IsBuilderF 120 5 w.heap.size w.heap.size (Lib.byteCells (Yec.hBits (s.data.toList.take k))) wx /\ Below w.heap.size w wx)
  case atStart => exact ⟨0, Nat.zero_le _, rfl, rfl, h0, b0⟩
  case round =>
    obtain ⟨k, hk, rfl, rfl, hB, hbx⟩ := hrel
    by_cases hkn : k < s.size
    . have hkz : (k : Int) < (s.size : Int) := by omega
      have c1 := c106 s[k] wr (x2R hbx hg)
      go_wp2_with (go_at_call 106; go_fit c1; rintro e W1 ⟨rfl, b1⟩)
      have hB1 := w0T hB b1.block
      have hl8 : (Yec.bitsB s[k]).length = 8 := rfl
      have hb8 : (⟨(Yec.bitsB s[k]).toArray⟩ : ByteArray).size = 8 := rfl
      have hb1 : Below w.heap.size w W1 := hbx.trans (b1.mono hbx.size)
      have c2 := Any.Builder_WriteString_f { Tryz.lays105 with } Tryz.extra105 w.heap.size w.heap.size _ ⟨(Yec.bitsB s[k]).toArray⟩ W1 hB1 (by
        rw [Lib.byteCells_length, Yec.hBits_len, hb8, List.length_take]
        omega) hb1.size
      go_wp2_with (go_at_call 80; go_fit c2; rintro e W2 ⟨rfl, h2, b2⟩)
      go_roundg (s.size - (k + 1))
      case measure => omega
      case rel =>
        refine ⟨k + 1, by omega, rfl, by first | rfl | simp, Or.inr ?_, hb1.trans b2⟩
        rw [Lib.strCells_eq, <- Lib.byteCells_append] at h2
        rw [Yec.hBits_take (by omega)]
        exact h2
    . obtain rfl : k = s.size := by omega
      have hkz : ¬ ((s.size : Int) < (s.size : Int)) := by omega
      rw [show s.data.toList.take s.size = s.data.toList by rw [<- hsl, List.take_length]] at hB
      have c3 := Any.Builder_String_any_f { Tryz.lays105 with } Tryz.extra105 w.heap.size w.heap.size (Yec.hBits s.data.toList) wr hB hbx.size
      go_wp2_with (go_at_call 82; go_fit c3; rintro e W3 ⟨rfl, h3, b3⟩)
      go_ret
      exact ⟨rfl, hbx.trans b3⟩
end Go.Proofs
namespace Go.Proofs
open Go.Shelf
open Go.RowKit Go.Lib
theorem Tryz.indexByte (s : ByteArray) (c : Int) (w : World) : Calls Tryz.prog 189 #[.string s, .int .u8 c] w fun e w' => e = .returned (.int .i64 (Lib.indexByte s.data.toList c.toNat.toUInt8)) /\ w' = w := Any.strings_IndexByte Tryz.lays137 s c w
theorem Tryz.count (s : ByteArray) (c : UInt8) (w : World) : Calls Tryz.prog 197 #[.string s, .string ⟨#[c]⟩] w fun e w' => e = .returned (.int .i64 (Lib.countByte s.data.toList c)) /\ w' = w := Any.strings_Count_one Tryz.lays138 s c w
theorem Tryz.contains (s : ByteArray) (c : UInt8) (w : World) : Calls Tryz.prog 164 #[.string s, .string ⟨#[c]⟩] w fun e w' => e = .returned (.bool (decide (0 <= Lib.indexByte s.data.toList c))) /\ w' = w := Any.strings_Contains_one Tryz.lays144 s c w
theorem Tryz.hasSuffix (s p : ByteArray) (w : World) (hs : s.size <= 9223372036854775807) : Calls Tryz.prog 162 #[.string s, .string p] w fun e w' => e = .returned (.bool (Lib.hasSuffix s.data.toList p.data.toList)) /\ w' = w := Any.strings_HasSuffix Tryz.lays100 s p w hs
theorem Tryz.lastIndexByte (s : ByteArray) (c : Int) (w : World) (hs : s.size < 4611686018427387904) : Calls Tryz.prog 198 #[.string s, .int .u8 c] w fun e w' => e = .returned (.int .i64 (Lib.lastIndexByte s c)) /\ w' = w := Any.strings_LastIndexByte Tryz.lays149 s c hs w
theorem Tryz.containsAny (s chars : ByteArray) (w : World) (hs : s.size < 4294967281) (hcs : chars.size < 4294967281) (has : ∀ (j : Nat) b, s.data.toList[j]? = some b -> b.toNat < 128) (hac : ∀ (j : Nat) b, chars.data.toList[j]? = some b -> b.toNat < 128) :
    Calls Tryz.prog 132 #[.string s, .string chars] w fun e w' => e = .returned (.bool (Lib.containsAny s.data.toList chars.data.toList)) /\ Go.RowKit.Below w.heap.size w w' := Any.strings_ContainsAny_laid Tryz.lays150 (by kernel_rfl) s chars w hs hcs has hac
theorem Tryz.trim (s cutset : ByteArray) (w : World) (hs : s.size <= 9223372036854775807) (hcs : cutset.size < 4294967281) (hascii : ∀ (j : Nat) b, cutset.data.toList[j]? = some b -> b.toNat < 128) :
    Calls Tryz.prog 131 #[.string s, .string cutset] w fun e w' => e = .returned (.string ⟨(Lib.trimS s.data.toList cutset.data.toList).toArray⟩) /\ Go.RowKit.Below w.heap.size w w' := Any.strings_Trim_laid Tryz.lays160 (by kernel_rfl) s cutset w hs hcs hascii
theorem Tryz.atoi (s : ByteArray) (n : Int) (w : World) (hl : s.size <= 18) (h : Lib.atoi s.data.toList = some n) : Calls Tryz.prog 136 #[.string s] w fun e w' => e = .returned (.tuple #[.int .i64 n, .nilIface]) /\ Go.RowKit.Below w.heap.size w w' :=
  (Any.strconv_Atoi Tryz.lays172 s n hl h w).mono (by
    rintro e w' ⟨h1, t, rfl⟩
    exact ⟨h1, Lib.bytesWorld_below _ _ _⟩)
theorem Tryz.repeat' (s : ByteArray) (c : Nat) (w : World) (hc : c <= 9223372036854775807) (hlen : s.size * c <= 140737488355328) : Calls Tryz.prog 28 #[.string s, .int .i64 c] w fun e w' => e = .returned (.string ⟨(Lib.repeatL s.data.toList c).toArray⟩) /\ Go.RowKit.Below w.heap.size w w' :=
  Any.strings_Repeat Tryz.lays105 Tryz.extra105 s c w hc hlen
end Go.Proofs
namespace Go.Yec
open Go Go.Xec Go.Proofs
def hkSB (f : Nat) (s : List UInt8) (c : Int) : Option Value :=
  if f = 189 then some (.int .i64 (hIx s c)) else if f = 198 then (if hSz 4611686018427387904 s = true then some (.int .i64 (y7H s c)) else none) else none
def hkSS (f : Nat) (s t : List UInt8) : Option Value :=
  if f = 197 then (if hOne t = true then some (.int .i64 (u8J s t)) else none)
  else if f = 164 then (if hOne t = true then some (.bool (hHas s t)) else none)
  else if f = 162 then (if hSz 9223372036854775808 s = true then some (.bool (hSuf s t)) else none)
  else if f = 132 then (if x6W s t = true then some (.bool (hAny s t)) else none)
  else if f = 131 then (if x7J s t = true then some (.string ⟨(z7U s t).toArray⟩) else none)
  else none
def hkS1 (f : Nat) (s : List UInt8) : Option Value := if f = 136 then (if y2R s = true then some (.tuple #[.int .i64 (z3N s), .nilIface]) else none)
  else if f = 72 then (if x7K s = true then some (.string ⟨(hBits s).toArray⟩) else none) else none
def hkSI (f : Nat) (s : List UInt8) (n : Int) : Option Value := if f = 28 then (if z1J s n = true then some (.string ⟨(hRep s n).toArray⟩) else none) else none
def hkB1 (f : Nat) (c : Int) : Option Value := if f = 168 then some (.tuple #[.int .i64 (y2Q c), .bool (u2P c), .bool (y0K c)]) else none
def hkIB (f : Nat) (d : Int) (m : Bool) : Option Value := if f = 207 then some (.tuple #[.int .u8 (z3L d m), .bool (v7J d)]) else none
def hkV : Hook := fun f args => match args with
  | [.string s, .int .u8 c] => hkSB f s.data.toList c
  | [.string s, .string t] => hkSS f s.data.toList t.data.toList
  | [.string s] => hkS1 f s.data.toList
  | [.string s, .int .i64 n] => hkSI f s.data.toList n
  | [.int .u8 c] => hkB1 f c
  | [.int .i64 d, .bool m] => hkIB f d m
  | _ => none
theorem hkV_no : HkN hkV := fun f hf xs => by
  unfold y1F at hf
  simp only [List.elem_cons, List.elem_nil, Bool.or_eq_false_iff] at hf
  have hne : f ≠ 131 /\ f ≠ 132 /\ f ≠ 162 /\ f ≠ 164 /\ f ≠ 189 /\ f ≠ 197 /\ f ≠ 198 /\ f ≠ 28 /\ f ≠ 136 /\ f ≠ 168 /\ f ≠ 207 /\ f ≠ 72 := by
    refine ⟨?_, ?_, ?_, ?_, ?_, ?_, ?_, ?_, ?_, ?_, ?_, ?_⟩ <;> (intro e; subst e; simp at hf)
  obtain ⟨n1, n2, n3, n4, n5, n6, n7, n8, n9, n10, n11, n12⟩ := hne
  unfold hkV
  split
  . unfold hkSB; rw [if_neg n5, if_neg n7]
  . unfold hkSS; rw [if_neg n6, if_neg n4, if_neg n3, if_neg n2, if_neg n1]
  . unfold hkS1; rw [if_neg n9, if_neg n12]
  . unfold hkSI; rw [if_neg n8]
  . unfold hkB1; rw [if_neg n10]
  . unfold hkIB; rw [if_neg n11]
  . rfl
theorem x3Y (f : Nat) (h : ((Tryz.prog.funcs[f]?).bind (·.body)).isSome = true) : ∃ fn c, Tryz.prog.funcs[f]? = some fn /\ fn.body = some c := by
  cases e : Tryz.prog.funcs[f]? with
  | none => rw [e] at h; cases h
  | some fn =>
    rw [e] at h
    cases e2 : fn.body with
    | none => simp [e2] at h
    | some c => exact ⟨fn, c, rfl, e2⟩
theorem one_of {t : ByteArray} (h : hOne t.data.toList = true) : t = ⟨#[t.data.toList.headD 0]⟩ := by
  have h := of_decide_eq_true h
  cases t with | mk a =>
  have ha : a.toList.length = 1 := h
  cases e : a.toList with
  | nil => rw [e] at ha; cases ha
  | cons x l =>
    cases l with
    | cons y l => rw [e] at ha; simp at ha
    | nil =>
      have : a = #[x] := Array.ext' (by rw [e])
      subst this
      rfl
theorem z4W {s : List UInt8} (h : y9K s = true) : ∀ (j : Nat) b, s[j]? = some b -> b.toNat < 128 := fun j b hb => by
  unfold y9K at h
  rw [List.all_eq_true] at h
  exact of_decide_eq_true (h b (List.mem_of_getElem? hb))
theorem hkV_ok : HookOk Tryz.prog hkV := fun f args v h => by
  have fin : ∀ (args : List Value) (r : Value), VR (fun _ => none) r r -> (∀ β : Bm, VR β r r) -> x6E args = true -> (∀ w, Glob w -> Calls Tryz.prog f args.toArray w fun e w' => e = .returned r /\ Go.RowKit.Below w.heap.size w w') ->
      ∀ (β : Bm) (w : World) (cs : List Value), Glob w -> VL β args cs -> CallsIn Fence.wide 0 Tryz.prog f cs.toArray w fun e w' => ∃ c, e = .returned c /\ VR β r c /\ (∀ b, b < w.heap.size -> w'.heap[b]? = w.heap[b]?) /\ w.heap.size <= w'.heap.size /\ w'.os = w.os /\ w'.output = w.output /\ w'.tape = w.tape := fun args r _ hr hp hc β w cs hgl hv => by
    rw [y0S hp hv]
    refine callsIn_wide.2 ((hc w hgl).mono ?_)
    rintro e w' ⟨rfl, hb⟩
    exact ⟨r, rfl, hr β, hb.block, hb.size, hb.os, hb.output, hb.tape⟩
  have same : ∀ {a : Array Value} {w : World} {r : Value}, Calls Tryz.prog f a w (fun e w' => e = .returned r /\ w' = w) -> Calls Tryz.prog f a w fun e w' => e = .returned r /\ Go.RowKit.Below w.heap.size w w' := fun hc => hc.mono (by
    rintro e w' ⟨h1, rfl⟩
    exact ⟨h1, Go.RowKit.Below.refl _ _⟩)
  unfold hkV at h
  split at h
  . rename_i s c
    unfold hkSB at h
    split at h
    . rename_i e; subst e; cases h
      exact ⟨x3Y 189 (by kernel_rfl), fin _ _ (.int _ _) (fun _ => .int _ _) rfl fun w _ => same (Tryz.indexByte s c w)⟩
    . split at h
      . rename_i e; subst e
        split at h
        . rename_i hz; cases h
          refine ⟨x3Y 198 (by kernel_rfl), fin _ _ (.int _ _) (fun _ => .int _ _) rfl fun w _ => same ?_⟩
          have := Tryz.lastIndexByte s c w (by rw [x1W]; exact of_decide_eq_true hz)
          unfold y7H
          rw [w0X]
          exact this
        . cases h
      . cases h
  . rename_i s t
    unfold hkSS at h
    split at h
    . rename_i e; subst e
      split at h
      . rename_i hz; cases h
        refine ⟨x3Y 197 (by kernel_rfl), fin _ _ (.int _ _) (fun _ => .int _ _) rfl fun w _ => same ?_⟩
        have := Tryz.count s (t.data.toList.headD 0) w
        rw [<- one_of hz] at this
        exact this
      . cases h
    . split at h
      . rename_i e; subst e
        split at h
        . rename_i hz; cases h
          refine ⟨x3Y 164 (by kernel_rfl), fin _ _ (.bool _) (fun _ => .bool _) rfl fun w _ => same ?_⟩
          have := Tryz.contains s (t.data.toList.headD 0) w
          rw [<- one_of hz] at this
          exact this
        . cases h
      . split at h
        . rename_i e; subst e
          split at h
          . rename_i hz; cases h
            exact ⟨x3Y 162 (by kernel_rfl), fin _ _ (.bool _) (fun _ => .bool _) rfl fun w _ => same (Tryz.hasSuffix s t w (by rw [x1W]; exact Nat.le_of_lt_succ (of_decide_eq_true hz)))⟩
          . cases h
        . split at h
          . rename_i e; subst e
            split at h
            . rename_i hz; cases h
              unfold x6W at hz
              simp only [Bool.and_eq_true] at hz
              obtain ⟨⟨⟨z1, z2⟩, z3⟩, z4⟩ := hz
              exact ⟨x3Y 132 (by kernel_rfl), fin _ _ (.bool _) (fun _ => .bool _) rfl fun w _ => Tryz.containsAny s t w (by rw [x1W]; exact of_decide_eq_true z1) (by rw [x1W]; exact of_decide_eq_true z2) (z4W z3) (z4W z4)⟩
            . cases h
          . split at h
            . rename_i e; subst e
              split at h
              . rename_i hz; cases h
                unfold x7J at hz
                simp only [Bool.and_eq_true] at hz
                obtain ⟨⟨z1, z2⟩, z3⟩ := hz
                exact ⟨x3Y 131 (by kernel_rfl), fin _ _ (.string _) (fun _ => .string _) rfl fun w _ => Tryz.trim s t w (by rw [x1W]; exact Nat.le_of_lt_succ (of_decide_eq_true z1)) (by rw [x1W]; exact of_decide_eq_true z2) (z4W z3)⟩
              . cases h
            . cases h
  . rename_i s
    unfold hkS1 at h
    split at h
    . rename_i e; subst e
      split at h
      . rename_i hz; cases h
        unfold y2R at hz
        rw [Bool.and_eq_true, decide_eq_true_eq] at hz
        obtain ⟨n, hn⟩ := Option.isSome_iff_exists.1 hz.1
        refine ⟨x3Y 136 (by kernel_rfl), fin _ _ (.tuple _ _ (.cons (.int _ _) (.cons .nilIface .nil))) (fun _ => .tuple _ _ (.cons (.int _ _) (.cons .nilIface .nil))) rfl fun w _ => ?_⟩
        unfold z3N
        rw [hn]
        exact Tryz.atoi s n w (by rw [x1W]; exact hz.2) hn
      . cases h
    . split at h
      . rename_i e; subst e
        split at h
        . rename_i hz; cases h
          exact ⟨x3Y 72 (by kernel_rfl), fin _ _ (.string _) (fun _ => .string _) rfl fun w hgl => c72 s w (by rw [x1W]; exact of_decide_eq_true hz) hgl⟩
        . cases h
      . cases h
  . rename_i s n
    unfold hkSI at h
    split at h
    . rename_i e; subst e
      split at h
      . rename_i hz; cases h
        unfold z1J at hz
        simp only [Bool.and_eq_true, decide_eq_true_eq] at hz
        obtain ⟨z1, z2, z3⟩ := hz
        refine ⟨x3Y 28 (by kernel_rfl), fin _ _ (.string _) (fun _ => .string _) rfl fun w _ => ?_⟩
        have := Tryz.repeat' s n.toNat w (by omega) (by rw [x1W]; exact z3)
        rw [show ((n.toNat : Nat) : Int) = n by omega] at this
        exact this
      . cases h
    . cases h
  . rename_i c
    unfold hkB1 at h
    split at h
    . rename_i e; subst e; cases h
      refine ⟨x3Y 168 (by kernel_rfl), fin _ _ (.tuple _ _ (.cons (.int _ _) (.cons (.bool _) (.cons (.bool _) .nil)))) (fun _ => .tuple _ _ (.cons (.int _ _) (.cons (.bool _) (.cons (.bool _) .nil)))) rfl fun w hgl => same ?_⟩
      obtain ⟨e, fz, hg⟩ := hgl 1 punV rfl
      have := Tryz.unpunch c w hg
      have e1 : unpR c = (y2Q c, u2P c, y0K c) := by
        unfold unpR y2Q u2P y0K hUnp
        cases (List.range 20).find? (fun i => decide (((punL.getD i 0).toNat : Int) = c)) <;> rfl
      rw [e1] at this
      exact this
    . cases h
  . rename_i d m
    unfold hkIB at h
    split at h
    . rename_i e; subst e; cases h
      refine ⟨x3Y 207 (by kernel_rfl), fin _ _ (.tuple _ _ (.cons (.int _ _) (.cons (.bool _) .nil))) (fun _ => .tuple _ _ (.cons (.int _ _) (.cons (.bool _) .nil))) rfl fun w hgl => same ?_⟩
      obtain ⟨e, fz, hg⟩ := hgl 1 punV rfl
      have := Tryz.punch d m w hg
      have e1 : z6R d m = (z3L d m, v7J d) := by
        unfold z6R z3L v7J
        by_cases hd : d < 0 \/ 9 < d
        . rw [if_pos hd, decide_eq_true hd]; rfl
        . rw [if_neg hd, decide_eq_false hd]; rfl
      rw [e1] at this
      exact this
    . cases h
  . cases h
structure HkS (hk : Hook) : Prop where
  no : HkN hk
  yes : ∀ f args v, hkV f args = some v -> hk f args = some v
  ten : hk 129 [] = some (.agg tenV)
  san : hk 9 [] = some (.bool true)
def hkW : Hook := fun f args => match args with
  | [] => if f = 129 then some (.agg tenV) else if f = 9 then some (.bool true) else none
  | _ => hkV f args
theorem hkV_nil (f : FuncId) : hkV f [] = none := rfl
theorem u2M : HkS hkW := ⟨fun f hf xs => by
  unfold hkW
  split
  . unfold y1F at hf
    simp only [List.elem_cons, List.elem_nil, Bool.or_eq_false_iff] at hf
    have h1 : f ≠ 129 := by intro e; subst e; simp at hf
    have h2 : f ≠ 9 := by intro e; subst e; simp at hf
    rw [if_neg h1, if_neg h2]
  . exact hkV_no f hf _, fun f args v h => by
  unfold hkW
  split
  . rw [hkV_nil] at h; cases h
  . exact h, rfl, rfl⟩
theorem hkW_ok (hs : ∀ w, Glob w -> Calls Tryz.prog 9 #[] w fun e w' => e = .returned (.bool true) /\ Go.RowKit.Below w.heap.size w w') : HookOk Tryz.prog hkW := fun f args v h => by
  unfold hkW at h
  split at h
  . have fin : ∀ r : Value, plain r = true -> (∀ w, Glob w -> Calls Tryz.prog f #[] w fun e w' => e = .returned r /\ Go.RowKit.Below w.heap.size w w') -> ∀ (β : Bm) (w : World) (cs : List Value), Glob w -> VL β [] cs -> CallsIn Fence.wide 0 Tryz.prog f cs.toArray w fun e w' => ∃ c, e = .returned c /\ VR β r c /\ (∀ b, b < w.heap.size -> w'.heap[b]? = w.heap[b]?) /\ w.heap.size <= w'.heap.size /\ w'.os = w.os /\ w'.output = w.output /\ w'.tape = w.tape := fun r hr hc β w cs hgl hv => by
      cases hv
      refine callsIn_wide.2 ((hc w hgl).mono ?_)
      rintro e w' ⟨rfl, hb⟩
      exact ⟨r, rfl, x5G hr, hb.block, hb.size, hb.os, hb.output, hb.tape⟩
    split at h
    . rename_i e; subst e; cases h
      exact ⟨x3Y 129 (by kernel_rfl), fin _ rfl fun w hg => Tryz.tens w hg⟩
    . split at h
      . rename_i e; subst e; cases h
        exact ⟨x3Y 9 (by kernel_rfl), fin _ rfl hs⟩
      . cases h
  . exact hkV_ok f _ v h
section
variable {D : Type} {V : D -> List (PV D)} {hk : Hook}
theorem y0X {f : FuncId} {xs : List Value} {w : Value} {H : Hp} {n : Nat} (h : hk f xs = some w) (k : Nat) (hk1 : 1 <= k) : run Tryz.prog hk k (.call f xs) H n = .ok .ret (one w) H n := by
  obtain ⟨k, rfl⟩ : ∃ j, k = j + 1 := ⟨k - 1, by omega⟩
  show hookK H n _ (hk f xs) = _
  rw [h]; rfl
theorem fun_SB (hs : HkS hk) {f : FuncId} {s : List UInt8} {c : Int} {w : Value} {v : PV D} (h : hkSB f s c = some w) (hv : ∀ μ H M, Rep V μ H M v w) (B : Bt D) (m : Nat) : FunS Tryz.prog hk V f [.str s, .int .u8 c] B m [] v B m := by
  intro X μ H n xs hr hx
  cases hx with
  | cons _ x _ _ h1 t => cases t with
    | cons _ y _ _ h2 t =>
      cases t
      obtain ⟨u, rfl, rfl⟩ := h1.str_of
      obtain rfl := h2.int_of
      exact ⟨w, H, n, μ, ⟨1, y0X (hs.yes _ _ _ h)⟩, hr, Gr.refl _ _ _ _ _, hv _ _ _, fun _ _ _ _ _ _ _ _ => rfl⟩
theorem z7X (hs : HkS hk) {f : FuncId} {s t : List UInt8} {w : Value} {v : PV D} (h : hkSS f s t = some w) (hv : ∀ μ H M, Rep V μ H M v w) (B : Bt D) (m : Nat) : FunS Tryz.prog hk V f [.str s, .str t] B m [] v B m := by
  intro X μ H n xs hr hx
  cases hx with
  | cons _ x _ _ h1 t => cases t with
    | cons _ y _ _ h2 t =>
      cases t
      obtain ⟨u, rfl, rfl⟩ := h1.str_of
      obtain ⟨u', rfl, rfl⟩ := h2.str_of
      exact ⟨w, H, n, μ, ⟨1, y0X (hs.yes _ _ _ h)⟩, hr, Gr.refl _ _ _ _ _, hv _ _ _, fun _ _ _ _ _ _ _ _ => rfl⟩
theorem strOf {μ : Mu} {H : Hp} {M : Nat -> Prop} (l : List UInt8) : Rep V μ H M (.str l) (.string ⟨l.toArray⟩) := by
  have := Rep.str (V := V) (μ := μ) (H := H) (M := M) (⟨l.toArray⟩ : ByteArray)
  simpa using this
noncomputable def u3W (_N : Nat) : List (PV D) -> Bt D -> Nat -> CallR D := fun args _ _ => match args with
  | [] => .tot (.aggI .i64 [1, 10, 100, 1000, 10000, 100000, 1000000, 10000000, 100000000, 1000000000, 10000000000, 100000000000, 1000000000000, 10000000000000, 100000000000000, 1000000000000000, 10000000000000000, 100000000000000000, 1000000000000000000])
  | _ => .bad
theorem v2M (hs : HkS hk) (N : Nat) (args : List (PV D)) (B : Bt D) (m : Nat) : x2U Tryz.prog hk V 129 args B m (u3W N args B m) := by
  unfold u3W
  split
  . intro X μ H n xs hr hx
    cases hx
    exact ⟨.agg tenV, H, n, μ, ⟨1, y0X hs.ten⟩, hr, Gr.refl _ _ _ _ _, .aggI _ _ _ rfl, fun _ _ _ _ _ _ _ _ => rfl⟩
  . trivial
noncomputable def y0M (_N : Nat) : List (PV D) -> Bt D -> Nat -> CallR D := fun args _ _ => match args with
  | [.str s, .int .u8 c] => .tot (.int .i64 (hIx s c))
  | _ => .bad
theorem x6X (hs : HkS hk) (N : Nat) (args : List (PV D)) (B : Bt D) (m : Nat) : x2U Tryz.prog hk V 189 args B m (y0M N args B m) := by
  unfold y0M
  split
  . exact fun_SB hs rfl (fun _ _ _ => .int _ _) B m
  . trivial
noncomputable def z3T (_N : Nat) : List (PV D) -> Bt D -> Nat -> CallR D := fun args _ _ => match args with
  | [.str s, .int .u8 c] => .par (hSz 4611686018427387904 s) (.int .i64 (y7H s c))
  | _ => .bad
theorem z1Q (hs : HkS hk) (N : Nat) (args : List (PV D)) (B : Bt D) (m : Nat) : x2U Tryz.prog hk V 198 args B m (z3T N args B m) := by
  unfold z3T
  split
  . intro h
    exact fun_SB hs (by simp [hkSS, hkSB, h]) (fun _ _ _ => .int _ _) B m
  . trivial
noncomputable def z3U (_N : Nat) : List (PV D) -> Bt D -> Nat -> CallR D := fun args _ _ => match args with
  | [.str s, .str t] => .par (hOne t) (.int .i64 (u8J s t))
  | _ => .bad
theorem z1R (hs : HkS hk) (N : Nat) (args : List (PV D)) (B : Bt D) (m : Nat) : x2U Tryz.prog hk V 197 args B m (z3U N args B m) := by
  unfold z3U
  split
  . intro h
    exact z7X hs (by simp [hkSS, hkSB, h]) (fun _ _ _ => .int _ _) B m
  . trivial
noncomputable def y2W (_N : Nat) : List (PV D) -> Bt D -> Nat -> CallR D := fun args _ _ => match args with
  | [.str s, .str t] => .par (hOne t) (.bool (hHas s t))
  | _ => .bad
theorem x9J (hs : HkS hk) (N : Nat) (args : List (PV D)) (B : Bt D) (m : Nat) : x2U Tryz.prog hk V 164 args B m (y2W N args B m) := by
  unfold y2W
  split
  . intro h
    exact z7X hs (by simp [hkSS, hkSB, h]) (fun _ _ _ => .bool _) B m
  . trivial
noncomputable def z3W (_N : Nat) : List (PV D) -> Bt D -> Nat -> CallR D := fun args _ _ => match args with
  | [.str s, .str t] => .par (hSz 9223372036854775808 s) (.bool (hSuf s t))
  | _ => .bad
theorem z1T (hs : HkS hk) (N : Nat) (args : List (PV D)) (B : Bt D) (m : Nat) : x2U Tryz.prog hk V 162 args B m (z3W N args B m) := by
  unfold z3W
  split
  . intro h
    exact z7X hs (by simp [hkSS, hkSB, h]) (fun _ _ _ => .bool _) B m
  . trivial
noncomputable def y2X (_N : Nat) : List (PV D) -> Bt D -> Nat -> CallR D := fun args _ _ => match args with
  | [.str s, .str t] => .par (x6W s t) (.bool (hAny s t))
  | _ => .bad
theorem x9K (hs : HkS hk) (N : Nat) (args : List (PV D)) (B : Bt D) (m : Nat) : x2U Tryz.prog hk V 132 args B m (y2X N args B m) := by
  unfold y2X
  split
  . intro h
    exact z7X hs (by simp [hkSS, hkSB, h]) (fun _ _ _ => .bool _) B m
  . trivial
noncomputable def y8B (_N : Nat) : List (PV D) -> Bt D -> Nat -> CallR D := fun args _ _ => match args with
  | [.str s, .str t] => .par (x7J s t) (.str (z7U s t))
  | _ => .bad
theorem y2Y (hs : HkS hk) (N : Nat) (args : List (PV D)) (B : Bt D) (m : Nat) : x2U Tryz.prog hk V 131 args B m (y8B N args B m) := by
  unfold y8B
  split
  . intro h
    exact z7X hs (by simp [hkSS, hkSB, h]) (fun _ _ _ => strOf _) B m
  . trivial
theorem fun_1 (hs : HkS hk) {f : FuncId} {a : PV D} {x w : Value} {v : PV D} (hx : ∀ μ H M y, Rep V μ H M a y -> hkV f [y] = some w) (hv : ∀ μ H M, Rep V μ H M v w) (B : Bt D) (m : Nat) : FunS Tryz.prog hk V f [a] B m [] v B m := by
  intro X μ H n xs hr hxs
  cases hxs with
  | cons _ y _ _ h1 t =>
    cases t
    exact ⟨w, H, n, μ, ⟨1, y0X (hs.yes _ _ _ (hx _ _ _ _ h1))⟩, hr, Gr.refl _ _ _ _ _, hv _ _ _, fun _ _ _ _ _ _ _ _ => rfl⟩
theorem fun_2 (hs : HkS hk) {f : FuncId} {a b : PV D} {w : Value} {v : PV D} (hx : ∀ μ H M y z, Rep V μ H M a y -> Rep V μ H M b z -> hkV f [y, z] = some w) (hv : ∀ μ H M, Rep V μ H M v w) (B : Bt D) (m : Nat) : FunS Tryz.prog hk V f [a, b] B m [] v B m := by
  intro X μ H n xs hr hxs
  cases hxs with
  | cons _ y _ _ h1 t => cases t with
    | cons _ z _ _ h2 t =>
      cases t
      exact ⟨w, H, n, μ, ⟨1, y0X (hs.yes _ _ _ (hx _ _ _ _ _ h1 h2))⟩, hr, Gr.refl _ _ _ _ _, hv _ _ _, fun _ _ _ _ _ _ _ _ => rfl⟩
noncomputable def u3V (_N : Nat) : List (PV D) -> Bt D -> Nat -> CallR D := fun args _ _ => match args with
  | [.str s] => .par (y2R s) (.tup [.int .i64 (z3N s), .nili])
  | _ => .bad
theorem v2L (hs : HkS hk) (N : Nat) (args : List (PV D)) (B : Bt D) (m : Nat) : x2U Tryz.prog hk V 136 args B m (u3V N args B m) := by
  unfold u3V
  split
  . rename_i s
    intro h
    refine fun_1 (x := .nilFunc) (w := .tuple #[.int .i64 (z3N s), .nilIface]) hs (fun μ H M y hy => ?_) (fun _ _ _ => .tup _ _ (.cons _ _ _ _ (.int _ _) (.cons _ _ _ _ .nili .nil))) B m
    obtain ⟨u, rfl, rfl⟩ := hy.str_of
    simp [hkV, hkS1, h]
  . trivial
noncomputable def v8N (_N : Nat) : List (PV D) -> Bt D -> Nat -> CallR D := fun args _ _ => match args with
  | [.str s] => .par (x7K s) (.str (hBits s))
  | _ => .bad
theorem v8M (hs : HkS hk) (N : Nat) (args : List (PV D)) (B : Bt D) (m : Nat) : x2U Tryz.prog hk V 72 args B m (v8N N args B m) := by
  unfold v8N
  split
  . rename_i s
    intro h
    refine fun_1 (x := .nilFunc) (w := .string ⟨(hBits s).toArray⟩) hs (fun μ H M y hy => ?_) (fun _ _ _ => strOf _) B m
    obtain ⟨u, rfl, rfl⟩ := hy.str_of
    simp [hkV, hkS1, h]
  . trivial
noncomputable def v9G (_N : Nat) : List (PV D) -> Bt D -> Nat -> CallR D := fun args _ _ => match args with
  | [.str s, .int .i64 n] => .par (z1J s n) (.str (hRep s n))
  | _ => .bad
theorem v9F (hs : HkS hk) (N : Nat) (args : List (PV D)) (B : Bt D) (m : Nat) : x2U Tryz.prog hk V 28 args B m (v9G N args B m) := by
  unfold v9G
  split
  . rename_i s n
    intro h
    refine fun_2 (w := .string ⟨(hRep s n).toArray⟩) hs (fun μ H M y z hy hz => ?_) (fun _ _ _ => strOf _) B m
    obtain ⟨u, rfl, rfl⟩ := hy.str_of
    obtain rfl := hz.int_of
    simp [hkV, hkSI, h]
  . trivial
noncomputable def u3N (_N : Nat) : List (PV D) -> Bt D -> Nat -> CallR D := fun args _ _ => match args with
  | [.int .u8 c] => .tot (.tup [.int .i64 (y2Q c), .bool (u2P c), .bool (y0K c)])
  | _ => .bad
theorem v2D (hs : HkS hk) (N : Nat) (args : List (PV D)) (B : Bt D) (m : Nat) : x2U Tryz.prog hk V 168 args B m (u3N N args B m) := by
  unfold u3N
  split
  . rename_i c
    refine fun_1 (x := .nilFunc) (w := .tuple #[.int .i64 (y2Q c), .bool (u2P c), .bool (y0K c)]) hs (fun μ H M y hy => ?_) (fun _ _ _ => .tup _ _ (.cons _ _ _ _ (.int _ _) (.cons _ _ _ _ (.bool _) (.cons _ _ _ _ (.bool _) .nil)))) B m
    obtain rfl := hy.int_of
    rfl
  . trivial
noncomputable def u3D (_N : Nat) : List (PV D) -> Bt D -> Nat -> CallR D := fun args _ _ => match args with
  | [.int .i64 d, .bool mi] => .tot (.tup [.int .u8 (z3L d mi), .bool (v7J d)])
  | _ => .bad
theorem v1U (hs : HkS hk) (N : Nat) (args : List (PV D)) (B : Bt D) (m : Nat) : x2U Tryz.prog hk V 207 args B m (u3D N args B m) := by
  unfold u3D
  split
  . rename_i d mi
    refine fun_2 (w := .tuple #[.int .u8 (z3L d mi), .bool (v7J d)]) hs (fun μ H M y z hy hz => ?_) (fun _ _ _ => .tup _ _ (.cons _ _ _ _ (.int _ _) (.cons _ _ _ _ (.bool _) .nil))) B m
    obtain rfl := hy.int_of
    obtain rfl := hz.bool_of
    rfl
  . trivial
end
end Go.Yec
namespace Go.Yec
open Go Go.Xec
variable [GT]
section
variable {D : Type} {V : D -> List (PV D)} {P : Program} {hk : Hook} {tbl : Tbl D} {R : Type}
inductive Ren (V : D -> List (PV D)) (σ : Nat -> Nat -> Prop) (νi νo : Nat -> Prop) : PV D -> PV D -> Prop
  | flat (v : PV D) (h : IdLt V 0 v) : Ren V σ νi νo v v
  | lptr (i j o : Nat) (h : σ i j) : Ren V σ νi νo (.lptr i o) (.lptr j o)
  | lsl (i j : Nat) (h : σ i j) : Ren V σ νi νo (.lsl i) (.lsl j)
  | nin (i : Nat) (h : νi i) : Ren V σ νi νo (.lsl i) .nils
  | nout (c : Nat) (h : νo c) : Ren V σ νi νo .nils (.lsl c)
inductive RenL (V : D -> List (PV D)) (σ : Nat -> Nat -> Prop) (νi νo : Nat -> Prop) : List (PV D) -> List (PV D) -> Prop
  | nil : RenL V σ νi νo [] []
  | cons (a b : PV D) (l m : List (PV D)) (h : Ren V σ νi νo a b) (t : RenL V σ νi νo l m) : RenL V σ νi νo (a :: l) (b :: m)
inductive RenR (V : D -> List (PV D)) (σ : Nat -> Nat -> Prop) (νi νo : Nat -> Prop) : PV D -> PV D -> Prop
  | one (a b : PV D) (h : Ren V σ νi νo a b) : RenR V σ νi νo a b
  | agg (l m : List (PV D)) (h : RenL V σ νi νo l m) : RenR V σ νi νo (.agg l) (.agg m)
  | tup (l m : List (PV D)) (h : RenL V σ νi νo l m) : RenR V σ νi νo (.tup l) (.tup m)
inductive RenB (V : D -> List (PV D)) (σ : Nat -> Nat -> Prop) (νi νo : Nat -> Prop) : Blk D -> Blk D -> Prop
  | cells (l m : List (PV D)) (h : RenL V σ νi νo l m) : RenB V σ νi νo (.cells l) (.cells m)
  | rowI (e : Nat) (k : IntKind) (l : List Int) : RenB V σ νi νo (.rowI e k l) (.rowI e k l)
variable {σ : Nat -> Nat -> Prop} {νi νo : Nat -> Prop} {μ μ' : Mu} {H : Hp} {M M' : Nat -> Prop}
theorem Rep.nil_of {i : Nat} {x : Value} (h : Rep V μ H M (.lsl i) x) (hm : μ i = some (none, 0)) : x = .slice none 0 0 := by
  cases h with
  | lsl _ x len c h hc => rw [hm] at h; cases h
  | lsln _ h => rfl
theorem Ren.out {v w : PV D} {x : Value} (h : Ren V σ νi νo v w) (hr : Rep V μ H M v x) (hσ : ∀ i j q, σ i j -> μ i = some q -> μ' j = some q) (hi : ∀ i, νi i -> μ i = some (none, 0)) (ho : ∀ c, νo c -> μ' c = some (none, 0)) (hM : ∀ y, ¬ M y -> ¬ M' y) : Rep V μ' H M' w x := by
  cases h with
  | flat _ h => exact hr.lower (m := 0) (fun i q hi _ => absurd hi (Nat.not_lt_zero i)) hM h
  | lptr i j o h => cases hr with | lptr _ _ x len hm => exact .lptr _ _ x len (hσ _ _ _ h hm)
  | lsl i j h => cases hr with
    | lsl _ x len c hm hc => exact .lsl _ x len c (hσ _ _ _ h hm) hc
    | lsln _ hm => exact .lsln _ (hσ _ _ _ h hm)
  | nin i h => rw [hr.nil_of (hi i h)]; exact .nils
  | nout c h => cases hr; exact .lsln _ (ho c h)
theorem Ren.in' {v w : PV D} {x : Value} (h : Ren V σ νi νo v w) (hr : Rep V μ H M w x) (hσ : ∀ i j q, σ i j -> μ j = some q -> μ' i = some q) (hi : ∀ i, νi i -> μ' i = some (none, 0)) (ho : ∀ c, νo c -> μ c = some (none, 0)) (hM : ∀ y, ¬ M y -> ¬ M' y) : Rep V μ' H M' v x := by
  cases h with
  | flat _ h => exact hr.lower (m := 0) (fun i q hi _ => absurd hi (Nat.not_lt_zero i)) hM h
  | lptr i j o h => cases hr with | lptr _ _ x len hm => exact .lptr _ _ x len (hσ _ _ _ h hm)
  | lsl i j h => cases hr with
    | lsl _ x len c hm hc => exact .lsl _ x len c (hσ _ _ _ h hm) hc
    | lsln _ hm => exact .lsln _ (hσ _ _ _ h hm)
  | nin i h => cases hr; exact .lsln _ (hi i h)
  | nout c h => rw [hr.nil_of (ho c h)]; exact .nils
theorem RenL.out {l m : List (PV D)} (h : RenL V σ νi νo l m) : ∀ {y : List Value}, RepL V μ H M l y -> (∀ i j q, σ i j -> μ i = some q -> μ' j = some q) -> (∀ i, νi i -> μ i = some (none, 0)) -> (∀ c, νo c -> μ' c = some (none, 0)) -> (∀ y, ¬ M y -> ¬ M' y) -> RepL V μ' H M' m y := by
  induction h with
  | nil => intro y hr _ _ _ _; cases hr; exact .nil
  | cons a b l m h t ih => intro y hr hσ hi ho hM; cases hr with | cons _ x _ y hx hy => exact .cons _ _ _ _ (h.out hx hσ hi ho hM) (ih hy hσ hi ho hM)
theorem RenL.in' {l m : List (PV D)} (h : RenL V σ νi νo l m) : ∀ {y : List Value}, RepL V μ H M m y -> (∀ i j q, σ i j -> μ j = some q -> μ' i = some q) -> (∀ i, νi i -> μ' i = some (none, 0)) -> (∀ c, νo c -> μ c = some (none, 0)) -> (∀ y, ¬ M y -> ¬ M' y) -> RepL V μ' H M' l y := by
  induction h with
  | nil => intro y hr _ _ _ _; cases hr; exact .nil
  | cons a b l m h t ih => intro y hr hσ hi ho hM; cases hr with | cons _ x _ y hx hy => exact .cons _ _ _ _ (h.in' hx hσ hi ho hM) (ih hy hσ hi ho hM)
theorem RenR.out {v w : PV D} {x : Value} (h : RenR V σ νi νo v w) (hr : Rep V μ H M v x) (hσ : ∀ i j q, σ i j -> μ i = some q -> μ' j = some q) (hi : ∀ i, νi i -> μ i = some (none, 0)) (ho : ∀ c, νo c -> μ' c = some (none, 0)) (hM : ∀ y, ¬ M y -> ¬ M' y) : Rep V μ' H M' w x := by
  cases h with
  | one _ _ h => exact h.out hr hσ hi ho hM
  | agg l m h => cases hr with | agg _ a hl => exact .agg _ a (h.out hl hσ hi ho hM)
  | tup l m h => cases hr with | tup _ a hl => exact .tup _ a (h.out hl hσ hi ho hM)
theorem RenB.out {b c : Blk D} {ox : Option Nat} {len : Nat} (h : RenB V σ νi νo b c) (hr : BlkR V μ H M ox len b) (hσ : ∀ i j q, σ i j -> μ i = some q -> μ' j = some q) (hi : ∀ i, νi i -> μ i = some (none, 0)) (ho : ∀ c, νo c -> μ' c = some (none, 0)) (hM : ∀ y, ¬ M y -> ¬ M' y) : BlkR V μ' H M' ox len c := by
  cases h with
  | cells l m h => cases hr with | cells x len _ xl e hg hl => exact .cells x len m xl e hg (h.out hl hσ hi ho hM)
  | rowI e k l => cases hr with
    | rowI x _ _ _ hg => exact .rowI x e k l hg
    | rowN => exact .rowN e k
theorem RenB.in' {b c : Blk D} {ox : Option Nat} {len : Nat} (h : RenB V σ νi νo b c) (hr : BlkR V μ H M ox len c) (hσ : ∀ i j q, σ i j -> μ j = some q -> μ' i = some q) (hi : ∀ i, νi i -> μ' i = some (none, 0)) (ho : ∀ c, νo c -> μ c = some (none, 0)) (hM : ∀ y, ¬ M y -> ¬ M' y) : BlkR V μ' H M' ox len b := by
  cases h with
  | cells l m h => cases hr with | cells x len _ xl e hg hl => exact .cells x len l xl e hg (h.in' hl hσ hi ho hM)
  | rowI e k l => cases hr with
    | rowI x _ _ _ hg => exact .rowI x e k l hg
    | rowN => exact .rowN e k
def inσ (ins : List (Option Nat)) (i j : Nat) : Prop := ins[i]? = some (some j)
def inν (ins : List (Option Nat)) (i : Nat) : Prop := ins[i]? = some none
def inMu (ins : List (Option Nat)) (μ : Mu) : Mu := fun i => match ins[i]? with
  | some (some j) => μ j
  | some none => some (none, 0)
  | none => none
theorem y7E {ins : List (Option Nat)} {i j : Nat} (h : inσ ins i j) : inMu ins μ i = μ j := by
  have h : ins[i]? = some (some j) := h
  unfold inMu; rw [h]
theorem u8D {ins : List (Option Nat)} {i : Nat} (h : inν ins i) : inMu ins μ i = some (none, 0) := by
  have h : ins[i]? = some none := h
  unfold inMu; rw [h]
theorem u2H {ins : List (Option Nat)} {i : Nat} {q : Option Nat × Nat} (h : inMu ins μ i = some q) : i < ins.length /\ ((∃ j, inσ ins i j /\ μ j = some q) \/ (inν ins i /\ q = (none, 0))) := by
  unfold inMu at h
  split at h
  . rename_i j e; exact ⟨(List.getElem?_eq_some_iff.1 e).1, .inl ⟨j, e, h⟩⟩
  . rename_i e; cases h; exact ⟨(List.getElem?_eq_some_iff.1 e).1, .inr ⟨e, rfl⟩⟩
  . cases h
noncomputable def u1N (e : Nat) (k : IntKind) (B : Bt D) : PV D -> Option (List Int × Option Nat)
  | .nils => some ([], none)
  | .lsl i => match bget B i with
    | some (_, .rowI e' k' l) => cond (cond (Nat.beq e e') (ikeq k k') false) (some (l, some i)) none
    | _ => none
  | _ => none
theorem z2Z {e : Nat} {k : IntKind} {B : Bt D} {v : PV D} {l : List Int} {o : Option Nat} (h : u1N e k B v = some (l, o)) : (v = .nils /\ l = [] /\ o = none) \/ ∃ i s, v = .lsl i /\ o = some i /\ bget B i = some (s, .rowI e k l) := by
  unfold u1N at h
  split at h
  . cases h; exact .inl ⟨rfl, rfl, rfl⟩
  . rename_i i
    split at h
    . rename_i s e' k' l' hb
      obtain ⟨h1, h2⟩ := x0C h
      cases h2
      obtain ⟨h3, h4⟩ := x0F h1
      have e3 : e = e' := x0W h3
      subst e3
      obtain rfl := x4G h4
      exact .inr ⟨i, s, rfl, rfl, hb⟩
    . cases h
  . cases h
end
end Go.Yec
