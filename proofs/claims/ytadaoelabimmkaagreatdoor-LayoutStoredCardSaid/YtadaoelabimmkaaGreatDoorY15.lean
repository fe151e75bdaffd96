/-
  FUNCTIONS OF THE LIBRARY WHOSE LAWS THE SHELF GIVES: as a hook of the executor, as entries of the pure executor's table.; THE PURE EXECUTOR: functions that turn blocks of their caller's, or hand new ones back.; THE PURE EXECUTOR: functions that only read blocks of their caller's: a flat result.
-/
import Derived.Shelf.Small.Strs
import Derived.Shelf.Strings.Count
import Derived.Shelf.Strings.Search3
import Derived.Shelf.Strings.Prefix
import Derived.Shelf.Strings.LastIndex
import Derived.Shelf.Strings.IndexAnyAll
import Derived.Shelf.Strings.SlTrimAscii
import Derived.Shelf.Strings.Repeat
import Derived.Shelf.Strconv.Atoi
import Derived.Lib.AtoiErrMem
import Derived.Test.YtadaoelabimmkaaGreatDoorY14
import Derived.Test.YtadaoelabimmkaaGreatDoorY13
import Derived.Test.YtadaoelabimmkaaGreatDoorX9
import Derived.Test.YtadaoelabimmkaaGreatDoorY12
set_option linter.all false
namespace Go.Proofs
open Go.Shelf
open Go.RowKit Go.Lib
theorem Tryz.indexByte (s : ByteArray) (c : Int) (w : World) : Calls Tryz.prog 189 #[.string s, .int .u8 c] w fun e w'=>e = .returned (.int .i64 (Lib.indexByte s.data.toList c.toNat.toUInt8)) /\ w' = w:=Any.strings_IndexByte Tryz.lays137 s c w
theorem Tryz.count (s : ByteArray) (c : UInt8) (w : World) : Calls Tryz.prog 197 #[.string s, .string ⟨#[c]⟩] w fun e w'=>e = .returned (.int .i64 (Lib.countByte s.data.toList c)) /\ w' = w:=Any.strings_Count_one Tryz.lays138 s c w
theorem Tryz.contains (s : ByteArray) (c : UInt8) (w : World) : Calls Tryz.prog 164 #[.string s, .string ⟨#[c]⟩] w fun e w'=>e = .returned (.bool (decide (0 <= Lib.indexByte s.data.toList c))) /\ w' = w:=Any.strings_Contains_one Tryz.lays144 s c w
theorem Tryz.hasSuffix (s p : ByteArray) (w : World) (hs : s.size <= 9223372036854775807) : Calls Tryz.prog 162 #[.string s, .string p] w fun e w'=>e = .returned (.bool (Lib.hasSuffix s.data.toList p.data.toList)) /\ w' = w:=Any.strings_HasSuffix Tryz.lays100 s p w hs
theorem Tryz.lastIndexByte (s : ByteArray) (c : Int) (w : World) (hs : s.size < 4611686018427387904) : Calls Tryz.prog 198 #[.string s, .int .u8 c] w fun e w'=>e = .returned (.int .i64 (Lib.lastIndexByte s c)) /\ w' = w:=Any.strings_LastIndexByte Tryz.lays149 s c hs w
theorem Tryz.containsAny (s chars : ByteArray) (w : World) (hs : s.size < 4294967281) (hcs : chars.size < 4294967281) (has : ∀ (j : Nat) b,s.data.toList[j]? = some b -> b.toNat < 128) (hac : ∀ (j : Nat) b,chars.data.toList[j]? = some b -> b.toNat < 128) :
    Calls Tryz.prog 132 #[.string s, .string chars] w fun e w'=>e = .returned (.bool (Lib.containsAny s.data.toList chars.data.toList)) /\ Go.RowKit.Below w.heap.size w w':=Any.strings_ContainsAny_laid Tryz.lays150 (by kernel_rfl) s chars w hs hcs has hac
theorem Tryz.trim (s cutset : ByteArray) (w : World) (hs : s.size <= 9223372036854775807) (hcs : cutset.size < 4294967281) (hascii : ∀ (j : Nat) b,cutset.data.toList[j]? = some b -> b.toNat < 128) :
    Calls Tryz.prog 131 #[.string s, .string cutset] w fun e w'=>e = .returned (.string ⟨(Lib.trimS s.data.toList cutset.data.toList).toArray⟩) /\ Go.RowKit.Below w.heap.size w w':=Any.strings_Trim_laid Tryz.lays160 (by kernel_rfl) s cutset w hs hcs hascii
theorem Tryz.atoi (s : ByteArray) (n : Int) (w : World) (hl : s.size <= 18) (h : Lib.atoi s.data.toList = some n) : Calls Tryz.prog 136 #[.string s] w fun e w'=>e = .returned (.tuple #[.int .i64 n, .nilIface]) /\ Go.RowKit.Below w.heap.size w w' :=
  (Any.strconv_Atoi Tryz.lays172 s n hl h w).mono (by
    rintro e w' ⟨h1,t,rfl⟩
    exact ⟨h1,Lib.bytesWorld_below _ _ _⟩)
theorem Tryz.repeat' (s : ByteArray) (c : Nat) (w : World) (hc : c <= 9223372036854775807) (hlen : s.size * c <= 140737488355328) : Calls Tryz.prog 28 #[.string s, .int .i64 c] w fun e w'=>e = .returned (.string ⟨(Lib.repeatL s.data.toList c).toArray⟩) /\ Go.RowKit.Below w.heap.size w w' :=
  Any.strings_Repeat Tryz.lays105 Tryz.extra105 s c w hc hlen
end Go.Proofs
namespace Go.Yec
open Go Go.Xec Go.Proofs
def hkSB (f : Nat) (s : List UInt8) (c : Int) : Option Value :=
  if f = 189 then some (.int .i64 (hIx s c)) else if f = 198 then (if hSz 4611686018427387904 s = true then some (.int .i64 (y7L s c)) else none) else none
def hkSS (f : Nat) (s t : List UInt8) : Option Value :=
  if f = 197 then (if hOne t = true then some (.int .i64 (u8V s t)) else none)
  else if f = 164 then (if hOne t = true then some (.bool (hHas s t)) else none)
  else if f = 162 then (if hSz 9223372036854775808 s = true then some (.bool (hSuf s t)) else none)
  else if f = 132 then (if x6W s t = true then some (.bool (hAny s t)) else none)
  else if f = 131 then (if x7J s t = true then some (.string ⟨(z8G s t).toArray⟩) else none)
  else none
def hkS1 (f : Nat) (s : List UInt8) : Option Value:=if f = 136 then (if y2S s = true then some (.tuple #[.int .i64 (z3U s), .nilIface]) else none)
  else if f = 72 then (if x7K s = true then some (.string ⟨(hBits s).toArray⟩) else none) else none
def hkSI (f : Nat) (s : List UInt8) (n : Int) : Option Value:=if f = 28 then (if z1N s n = true then some (.string ⟨(hRep s n).toArray⟩) else none) else none
def hkB1 (f : Nat) (c : Int) : Option Value:=if f = 168 then some (.tuple #[.int .i64 (y2R c), .bool (u2Y c), .bool (y0K c)]) else none
def hkIB (f : Nat) (d : Int) (m : Bool) : Option Value:=if f = 207 then some (.tuple #[.int .u8 (z3S d m), .bool (v7Z d)]) else none
def hkV : Hook:=fun f args=>match args with
  | [.string s, .int .u8 c]=>hkSB f s.data.toList c
  | [.string s, .string t]=>hkSS f s.data.toList t.data.toList
  | [.string s]=>hkS1 f s.data.toList
  | [.string s, .int .i64 n]=>hkSI f s.data.toList n
  | [.int .u8 c]=>hkB1 f c
  | [.int .i64 d, .bool m]=>hkIB f d m
  | _=>none
theorem hkV_no : HkN hkV:=fun f hf xs=>by
  unfold y1G at hf
  simp only [List.elem_cons,List.elem_nil,Bool.or_eq_false_iff] at hf
  have hne : f ≠ 131 /\ f ≠ 132 /\ f ≠ 162 /\ f ≠ 164 /\ f ≠ 189 /\ f ≠ 197 /\ f ≠ 198 /\ f ≠ 28 /\ f ≠ 136 /\ f ≠ 168 /\ f ≠ 207 /\ f ≠ 72:=by
    refine ⟨?_, ?_, ?_, ?_, ?_, ?_, ?_, ?_, ?_, ?_, ?_, ?_⟩ <;> (intro e; subst e; simp at hf)
  obtain ⟨n1,n2,n3,n4,n5,n6,n7,n8,n9,n10,n11,n12⟩:=hne
  unfold hkV
  split
  . unfold hkSB; rw [if_neg n5,if_neg n7]
  . unfold hkSS; rw [if_neg n6,if_neg n4,if_neg n3,if_neg n2,if_neg n1]
  . unfold hkS1; rw [if_neg n9,if_neg n12]
  . unfold hkSI; rw [if_neg n8]
  . unfold hkB1; rw [if_neg n10]
  . unfold hkIB; rw [if_neg n11]
  . rfl
theorem x3Z (f : Nat) (h : ((Tryz.prog.funcs[f]?).bind (·.body)).isSome = true) : ∃ fn c,Tryz.prog.funcs[f]? = some fn /\ fn.body = some c:=by
  cases e : Tryz.prog.funcs[f]? with
  | none=>rw [e] at h; cases h
  | some fn =>
    rw [e] at h
    cases e2 : fn.body with
    | none=>simp [e2] at h
    | some c=>exact ⟨fn,c,rfl,e2⟩
theorem one_of {t : ByteArray} (h : hOne t.data.toList = true) : t = ⟨#[t.data.toList.headD 0]⟩:=by
  have h:=of_decide_eq_true h
  cases t with | mk a =>
  have ha : a.toList.length = 1:=h
  cases e : a.toList with
  | nil=>rw [e] at ha; cases ha
  | cons x l =>
    cases l with
    | cons y l=>rw [e] at ha; simp at ha
    | nil =>
      have : a = #[x]:=Array.ext' (by rw [e])
      subst this
      rfl
theorem z5D {s : List UInt8} (h : y9P s = true) : ∀ (j : Nat) b,s[j]? = some b -> b.toNat < 128:=fun j b hb=>by
  unfold y9P at h
  rw [List.all_eq_true] at h
  exact of_decide_eq_true (h b (List.mem_of_getElem? hb))
theorem hkV_ok : HookOk Tryz.prog hkV := fun f args v h => by
  have fin : ∀ (args : List Value) (r : Value),VR (fun _=>none) r r -> (∀ β : Bm,VR β r r) -> x6F args = true -> (∀ w,Glob w -> Calls Tryz.prog f args.toArray w fun e w'=>e = .returned r /\ Go.RowKit.Below w.heap.size w w') ->
      ∀ (β : Bm) (w : World) (cs : List Value),Glob w -> VL β args cs -> CallsIn Fence.wide 0 Tryz.prog f cs.toArray w fun e w'=> ∃ c,e = .returned c /\ VR β r c /\ (∀ b,b < w.heap.size -> w'.heap[b]? = w.heap[b]?) /\ w.heap.size <= w'.heap.size /\ w'.os = w.os /\ w'.output = w.output /\ w'.tape = w.tape:=fun args r _ hr hp hc β w cs hgl hv=>by
    rw [y0R hp hv]
    refine callsIn_wide.2 ((hc w hgl).mono ?_)
    rintro e w' ⟨rfl,hb⟩
    exact ⟨r,rfl,hr β, hb.block,hb.size,hb.os,hb.output,hb.tape⟩
  have same : ∀ {a : Array Value} {w : World} {r : Value}, Calls Tryz.prog f a w (fun e w'=>e = .returned r /\ w' = w) -> Calls Tryz.prog f a w fun e w'=>e = .returned r /\ Go.RowKit.Below w.heap.size w w':=fun hc=>hc.mono (by
    rintro e w' ⟨h1,rfl⟩
    exact ⟨h1,Go.RowKit.Below.refl _ _⟩)
  unfold hkV at h
  split at h
  . rename_i s c
    unfold hkSB at h
    split at h
    . rename_i e; subst e; cases h
      exact ⟨x3Z 189 (by kernel_rfl),fin _ _ (.int _ _) (fun _=> .int _ _) rfl fun w _=>same (Tryz.indexByte s c w)⟩
    . split at h
      . rename_i e; subst e
        split at h
        . rename_i hz; cases h
          refine ⟨x3Z 198 (by kernel_rfl),fin _ _ (.int _ _) (fun _=> .int _ _) rfl fun w _=>same ?_⟩
          have:=Tryz.lastIndexByte s c w (by rw [x2A]; exact of_decide_eq_true hz)
          unfold y7L
          rw [w1U]
          exact this
        . cases h
      . cases h
  . rename_i s t
    unfold hkSS at h
    split at h
    . rename_i e; subst e
      split at h
      . rename_i hz; cases h
        refine ⟨x3Z 197 (by kernel_rfl),fin _ _ (.int _ _) (fun _=> .int _ _) rfl fun w _=>same ?_⟩
        have:=Tryz.count s (t.data.toList.headD 0) w
        rw [<- one_of hz] at this
        exact this
      . cases h
    . split at h
      . rename_i e; subst e
        split at h
        . rename_i hz; cases h
          refine ⟨x3Z 164 (by kernel_rfl),fin _ _ (.bool _) (fun _=> .bool _) rfl fun w _=>same ?_⟩
          have:=Tryz.contains s (t.data.toList.headD 0) w
          rw [<- one_of hz] at this
          exact this
        . cases h
      . split at h
        . rename_i e; subst e
          split at h
          . rename_i hz; cases h
            exact ⟨x3Z 162 (by kernel_rfl),fin _ _ (.bool _) (fun _=> .bool _) rfl fun w _=>same (Tryz.hasSuffix s t w (by rw [x2A]; exact Nat.le_of_lt_succ (of_decide_eq_true hz)))⟩
          . cases h
        . split at h
          . rename_i e; subst e
            split at h
            . rename_i hz; cases h
              unfold x6W at hz
              simp only [Bool.and_eq_true] at hz
              obtain ⟨⟨⟨z1,z2⟩,z3⟩,z4⟩:=hz
              exact ⟨x3Z 132 (by kernel_rfl),fin _ _ (.bool _) (fun _=> .bool _) rfl fun w _=>Tryz.containsAny s t w (by rw [x2A]; exact of_decide_eq_true z1) (by rw [x2A]; exact of_decide_eq_true z2) (z5D z3) (z5D z4)⟩
            . cases h
          . split at h
            . rename_i e; subst e
              split at h
              . rename_i hz; cases h
                unfold x7J at hz
                simp only [Bool.and_eq_true] at hz
                obtain ⟨⟨z1,z2⟩,z3⟩:=hz
                exact ⟨x3Z 131 (by kernel_rfl),fin _ _ (.string _) (fun _=> .string _) rfl fun w _=>Tryz.trim s t w (by rw [x2A]; exact Nat.le_of_lt_succ (of_decide_eq_true z1)) (by rw [x2A]; exact of_decide_eq_true z2) (z5D z3)⟩
              . cases h
            . cases h
  . rename_i s
    unfold hkS1 at h
    split at h
    . rename_i e; subst e
      split at h
      . rename_i hz; cases h
        unfold y2S at hz
        rw [Bool.and_eq_true,decide_eq_true_eq] at hz
        obtain ⟨n,hn⟩:=Option.isSome_iff_exists.1 hz.1
        refine ⟨x3Z 136 (by kernel_rfl),fin _ _ (.tuple _ _ (.cons (.int _ _) (.cons .nilIface .nil))) (fun _=> .tuple _ _ (.cons (.int _ _) (.cons .nilIface .nil))) rfl fun w _=> ?_⟩
        unfold z3U
        rw [hn]
        exact Tryz.atoi s n w (by rw [x2A]; exact hz.2) hn
      . cases h
    . split at h
      . rename_i e; subst e
        split at h
        . rename_i hz; cases h
          exact ⟨x3Z 72 (by kernel_rfl),fin _ _ (.string _) (fun _=> .string _) rfl fun w hgl=>c72 s w (by rw [x2A]; exact of_decide_eq_true hz) hgl⟩
        . cases h
      . cases h
  . rename_i s n
    unfold hkSI at h
    split at h
    . rename_i e; subst e
      split at h
      . rename_i hz; cases h
        unfold z1N at hz
        simp only [Bool.and_eq_true,decide_eq_true_eq] at hz
        obtain ⟨z1,z2,z3⟩:=hz
        refine ⟨x3Z 28 (by kernel_rfl),fin _ _ (.string _) (fun _=> .string _) rfl fun w _=> ?_⟩
        have:=Tryz.repeat' s n.toNat w (by omega) (by rw [x2A]; exact z3)
        rw [show ((n.toNat : Nat) : Int) = n by omega] at this
        exact this
      . cases h
    . cases h
  . rename_i c
    unfold hkB1 at h
    split at h
    . rename_i e; subst e; cases h
      refine ⟨x3Z 168 (by kernel_rfl),fin _ _ (.tuple _ _ (.cons (.int _ _) (.cons (.bool _) (.cons (.bool _) .nil)))) (fun _=> .tuple _ _ (.cons (.int _ _) (.cons (.bool _) (.cons (.bool _) .nil)))) rfl fun w hgl=>same ?_⟩
      obtain ⟨e,fz,hg⟩:=hgl 1 punV rfl
      have:=Tryz.unpunch c w hg
      have e1 : unpR c = (y2R c,u2Y c,y0K c):=by
        unfold unpR y2R u2Y y0K hUnp
        cases (List.range 20).find? (fun i=>decide (((punL.getD i 0).toNat : Int) = c)) <;> rfl
      rw [e1] at this
      exact this
    . cases h
  . rename_i d m
    unfold hkIB at h
    split at h
    . rename_i e; subst e; cases h
      refine ⟨x3Z 207 (by kernel_rfl),fin _ _ (.tuple _ _ (.cons (.int _ _) (.cons (.bool _) .nil))) (fun _=> .tuple _ _ (.cons (.int _ _) (.cons (.bool _) .nil))) rfl fun w hgl=>same ?_⟩
      obtain ⟨e,fz,hg⟩:=hgl 1 punV rfl
      have:=Tryz.punch d m w hg
      have e1 : z7A d m = (z3S d m,v7Z d):=by
        unfold z7A z3S v7Z
        by_cases hd : d < 0 \/ 9 < d
        . rw [if_pos hd,decide_eq_true hd]; rfl
        . rw [if_neg hd,decide_eq_false hd]; rfl
      rw [e1] at this
      exact this
    . cases h
  . cases h
structure HkS (hk : Hook) : Prop where
  no : HkN hk
  yes : ∀ f args v,hkV f args = some v -> hk f args = some v
  ten : hk 129 [] = some (.agg tenV)
  san : hk 9 [] = some (.bool true)
def hkW : Hook:=fun f args=>match args with
  | []=>if f = 129 then some (.agg tenV) else if f = 9 then some (.bool true) else none
  | _=>hkV f args
theorem hkV_nil (f : FuncId) : hkV f [] = none:=rfl
theorem z8F : HkS hkW:=⟨fun f hf xs=>by
  unfold hkW
  split
  . unfold y1G at hf
    simp only [List.elem_cons,List.elem_nil,Bool.or_eq_false_iff] at hf
    have h1 : f ≠ 129:=by intro e; subst e; simp at hf
    have h2 : f ≠ 9:=by intro e; subst e; simp at hf
    rw [if_neg h1,if_neg h2]
  . exact hkV_no f hf _,fun f args v h=>by
  unfold hkW
  split
  . rw [hkV_nil] at h; cases h
  . exact h,rfl,rfl⟩
theorem hkW_ok (hs : ∀ w, Glob w -> Calls Tryz.prog 9 #[] w fun e w' => e = .returned (.bool true) /\ Go.RowKit.Below w.heap.size w w') : HookOk Tryz.prog hkW := fun f args v h => by
  unfold hkW at h
  split at h
  . have fin : ∀ r : Value, plain r = true -> (∀ w, Glob w -> Calls Tryz.prog f #[] w fun e w' => e = .returned r /\ Go.RowKit.Below w.heap.size w w') -> ∀ (β : Bm) (w : World) (cs : List Value), Glob w -> VL β [] cs -> CallsIn Fence.wide 0 Tryz.prog f cs.toArray w fun e w' => ∃ c, e = .returned c /\ VR β r c /\ (∀ b, b < w.heap.size -> w'.heap[b]? = w.heap[b]?) /\ w.heap.size <= w'.heap.size /\ w'.os = w.os /\ w'.output = w.output /\ w'.tape = w.tape := fun r hr hc β w cs hgl hv => by
      cases hv
      refine callsIn_wide.2 ((hc w hgl).mono ?_)
      rintro e w' ⟨rfl,hb⟩
      exact ⟨r,rfl,x5H hr,hb.block,hb.size,hb.os,hb.output,hb.tape⟩
    split at h
    . rename_i e; subst e; cases h
      exact ⟨x3Z 129 (by kernel_rfl),fin _ rfl fun w hg=>Tryz.tens w hg⟩
    . split at h
      . rename_i e; subst e; cases h
        exact ⟨x3Z 9 (by kernel_rfl),fin _ rfl hs⟩
      . cases h
  . exact hkV_ok f _ v h
section
variable {D : Type} {V : D -> List (PV D)} {hk : Hook}
theorem y0X {f : FuncId} {xs : List Value} {w : Value} {H : Hp} {n : Nat} (h : hk f xs = some w) (k : Nat) (hk1 : 1 <= k) : run Tryz.prog hk k (.call f xs) H n = .ok .ret (one w) H n:=by
  obtain ⟨k,rfl⟩ : ∃ j,k = j + 1:=⟨k - 1,by omega⟩
  show hookK H n _ (hk f xs) = _
  rw [h]; rfl
theorem fun_SB (hs : HkS hk) {f : FuncId} {s : List UInt8} {c : Int} {w : Value} {v : PV D} (h : hkSB f s c = some w) (hv : ∀ μ H M,Rep V μ H M v w) (B : Bt D) (m : Nat) : FunS Tryz.prog hk V f [.str s, .int .u8 c] B m [] v B m:=by
  intro X μ H n xs hr hx
  cases hx with
  | cons _ x _ _ h1 t => cases t with
    | cons _ y _ _ h2 t =>
      cases t
      obtain ⟨u,rfl,rfl⟩:=h1.str_of
      obtain rfl:=h2.int_of
      exact ⟨w,H,n, μ, ⟨1,y0X (hs.yes _ _ _ h)⟩,hr,Gr.refl _ _ _ _ _,hv _ _ _,fun _ _ _ _ _ _ _ _=>rfl⟩
theorem z8K (hs : HkS hk) {f : FuncId} {s t : List UInt8} {w : Value} {v : PV D} (h : hkSS f s t = some w) (hv : ∀ μ H M,Rep V μ H M v w) (B : Bt D) (m : Nat) : FunS Tryz.prog hk V f [.str s, .str t] B m [] v B m:=by
  intro X μ H n xs hr hx
  cases hx with
  | cons _ x _ _ h1 t => cases t with
    | cons _ y _ _ h2 t =>
      cases t
      obtain ⟨u,rfl,rfl⟩:=h1.str_of
      obtain ⟨u',rfl,rfl⟩:=h2.str_of
      exact ⟨w,H,n, μ, ⟨1,y0X (hs.yes _ _ _ h)⟩,hr,Gr.refl _ _ _ _ _,hv _ _ _,fun _ _ _ _ _ _ _ _=>rfl⟩
theorem strOf {μ : Mu} {H : Hp} {M : Nat -> Prop} (l : List UInt8) : Rep V μ H M (.str l) (.string ⟨l.toArray⟩):=by
  have:=Rep.str (V:=V) (μ := μ) (H:=H) (M:=M) (⟨l.toArray⟩ : ByteArray)
  simpa using this
noncomputable def u4F (_N : Nat) : List (PV D) -> Bt D -> Nat -> CallR D:=fun args _ _=>match args with
  | []=> .tot (.aggI .i64 [1, 10, 100, 1000, 10000, 100000, 1000000, 10000000, 100000000, 1000000000, 10000000000, 100000000000, 1000000000000, 10000000000000, 100000000000000, 1000000000000000, 10000000000000000, 100000000000000000, 1000000000000000000])
  | _=> .bad
theorem v3C (hs : HkS hk) (N : Nat) (args : List (PV D)) (B : Bt D) (m : Nat) : x2U Tryz.prog hk V 129 args B m (u4F N args B m):=by
  unfold u4F
  split
  . intro X μ H n xs hr hx
    cases hx
    exact ⟨.agg tenV,H,n, μ, ⟨1,y0X hs.ten⟩,hr,Gr.refl _ _ _ _ _, .aggI _ _ _ rfl,fun _ _ _ _ _ _ _ _=>rfl⟩
  . trivial
noncomputable def y0L (_N : Nat) : List (PV D) -> Bt D -> Nat -> CallR D:=fun args _ _=>match args with
  | [.str s, .int .u8 c]=> .tot (.int .i64 (hIx s c))
  | _=> .bad
theorem x6X (hs : HkS hk) (N : Nat) (args : List (PV D)) (B : Bt D) (m : Nat) : x2U Tryz.prog hk V 189 args B m (y0L N args B m):=by
  unfold y0L
  split
  . exact fun_SB hs rfl (fun _ _ _=> .int _ _) B m
  . trivial
noncomputable def z3Z (_N : Nat) : List (PV D) -> Bt D -> Nat -> CallR D:=fun args _ _=>match args with
  | [.str s, .int .u8 c]=> .par (hSz 4611686018427387904 s) (.int .i64 (y7L s c))
  | _=> .bad
theorem z1U (hs : HkS hk) (N : Nat) (args : List (PV D)) (B : Bt D) (m : Nat) : x2U Tryz.prog hk V 198 args B m (z3Z N args B m):=by
  unfold z3Z
  split
  . intro h
    exact fun_SB hs (by simp [hkSS,hkSB,h]) (fun _ _ _=> .int _ _) B m
  . trivial
noncomputable def z4A (_N : Nat) : List (PV D) -> Bt D -> Nat -> CallR D:=fun args _ _=>match args with
  | [.str s, .str t]=> .par (hOne t) (.int .i64 (u8V s t))
  | _=> .bad
theorem z1V (hs : HkS hk) (N : Nat) (args : List (PV D)) (B : Bt D) (m : Nat) : x2U Tryz.prog hk V 197 args B m (z4A N args B m):=by
  unfold z4A
  split
  . intro h
    exact z8K hs (by simp [hkSS,hkSB,h]) (fun _ _ _=> .int _ _) B m
  . trivial
noncomputable def y2X (_N : Nat) : List (PV D) -> Bt D -> Nat -> CallR D:=fun args _ _=>match args with
  | [.str s, .str t]=> .par (hOne t) (.bool (hHas s t))
  | _=> .bad
theorem x9K (hs : HkS hk) (N : Nat) (args : List (PV D)) (B : Bt D) (m : Nat) : x2U Tryz.prog hk V 164 args B m (y2X N args B m):=by
  unfold y2X
  split
  . intro h
    exact z8K hs (by simp [hkSS,hkSB,h]) (fun _ _ _=> .bool _) B m
  . trivial
noncomputable def z4C (_N : Nat) : List (PV D) -> Bt D -> Nat -> CallR D:=fun args _ _=>match args with
  | [.str s, .str t]=> .par (hSz 9223372036854775808 s) (.bool (hSuf s t))
  | _=> .bad
theorem z1X (hs : HkS hk) (N : Nat) (args : List (PV D)) (B : Bt D) (m : Nat) : x2U Tryz.prog hk V 162 args B m (z4C N args B m):=by
  unfold z4C
  split
  . intro h
    exact z8K hs (by simp [hkSS,hkSB,h]) (fun _ _ _=> .bool _) B m
  . trivial
noncomputable def y2Y (_N : Nat) : List (PV D) -> Bt D -> Nat -> CallR D:=fun args _ _=>match args with
  | [.str s, .str t]=> .par (x6W s t) (.bool (hAny s t))
  | _=> .bad
theorem x9L (hs : HkS hk) (N : Nat) (args : List (PV D)) (B : Bt D) (m : Nat) : x2U Tryz.prog hk V 132 args B m (y2Y N args B m):=by
  unfold y2Y
  split
  . intro h
    exact z8K hs (by simp [hkSS,hkSB,h]) (fun _ _ _=> .bool _) B m
  . trivial
noncomputable def y8G (_N : Nat) : List (PV D) -> Bt D -> Nat -> CallR D:=fun args _ _=>match args with
  | [.str s, .str t]=> .par (x7J s t) (.str (z8G s t))
  | _=> .bad
theorem y2Z (hs : HkS hk) (N : Nat) (args : List (PV D)) (B : Bt D) (m : Nat) : x2U Tryz.prog hk V 131 args B m (y8G N args B m):=by
  unfold y8G
  split
  . intro h
    exact z8K hs (by simp [hkSS,hkSB,h]) (fun _ _ _=>strOf _) B m
  . trivial
theorem fun_1 (hs : HkS hk) {f : FuncId} {a : PV D} {x w : Value} {v : PV D} (hx : ∀ μ H M y,Rep V μ H M a y -> hkV f [y] = some w) (hv : ∀ μ H M,Rep V μ H M v w) (B : Bt D) (m : Nat) : FunS Tryz.prog hk V f [a] B m [] v B m:=by
  intro X μ H n xs hr hxs
  cases hxs with
  | cons _ y _ _ h1 t =>
    cases t
    exact ⟨w,H,n, μ, ⟨1,y0X (hs.yes _ _ _ (hx _ _ _ _ h1))⟩,hr,Gr.refl _ _ _ _ _,hv _ _ _,fun _ _ _ _ _ _ _ _=>rfl⟩
theorem fun_2 (hs : HkS hk) {f : FuncId} {a b : PV D} {w : Value} {v : PV D} (hx : ∀ μ H M y z,Rep V μ H M a y -> Rep V μ H M b z -> hkV f [y,z] = some w) (hv : ∀ μ H M,Rep V μ H M v w) (B : Bt D) (m : Nat) : FunS Tryz.prog hk V f [a,b] B m [] v B m:=by
  intro X μ H n xs hr hxs
  cases hxs with
  | cons _ y _ _ h1 t => cases t with
    | cons _ z _ _ h2 t =>
      cases t
      exact ⟨w,H,n, μ, ⟨1,y0X (hs.yes _ _ _ (hx _ _ _ _ _ h1 h2))⟩,hr,Gr.refl _ _ _ _ _,hv _ _ _,fun _ _ _ _ _ _ _ _=>rfl⟩
noncomputable def u4E (_N : Nat) : List (PV D) -> Bt D -> Nat -> CallR D:=fun args _ _=>match args with
  | [.str s]=> .par (y2S s) (.tup [.int .i64 (z3U s), .nili])
  | _=> .bad
theorem v3B (hs : HkS hk) (N : Nat) (args : List (PV D)) (B : Bt D) (m : Nat) : x2U Tryz.prog hk V 136 args B m (u4E N args B m):=by
  unfold u4E
  split
  . rename_i s
    intro h
    refine fun_1 (x:= .nilFunc) (w:= .tuple #[.int .i64 (z3U s), .nilIface]) hs (fun μ H M y hy=> ?_) (fun _ _ _=> .tup _ _ (.cons _ _ _ _ (.int _ _) (.cons _ _ _ _ .nili .nil))) B m
    obtain ⟨u,rfl,rfl⟩:=hy.str_of
    simp [hkV,hkS1,h]
  . trivial
noncomputable def v9E (_N : Nat) : List (PV D) -> Bt D -> Nat -> CallR D:=fun args _ _=>match args with
  | [.str s]=> .par (x7K s) (.str (hBits s))
  | _=> .bad
theorem v9D (hs : HkS hk) (N : Nat) (args : List (PV D)) (B : Bt D) (m : Nat) : x2U Tryz.prog hk V 72 args B m (v9E N args B m):=by
  unfold v9E
  split
  . rename_i s
    intro h
    refine fun_1 (x:= .nilFunc) (w:= .string ⟨(hBits s).toArray⟩) hs (fun μ H M y hy=> ?_) (fun _ _ _=>strOf _) B m
    obtain ⟨u,rfl,rfl⟩:=hy.str_of
    simp [hkV,hkS1,h]
  . trivial
noncomputable def v9Y (_N : Nat) : List (PV D) -> Bt D -> Nat -> CallR D:=fun args _ _=>match args with
  | [.str s, .int .i64 n]=> .par (z1N s n) (.str (hRep s n))
  | _=> .bad
theorem v9X (hs : HkS hk) (N : Nat) (args : List (PV D)) (B : Bt D) (m : Nat) : x2U Tryz.prog hk V 28 args B m (v9Y N args B m):=by
  unfold v9Y
  split
  . rename_i s n
    intro h
    refine fun_2 (w:= .string ⟨(hRep s n).toArray⟩) hs (fun μ H M y z hy hz=> ?_) (fun _ _ _=>strOf _) B m
    obtain ⟨u,rfl,rfl⟩:=hy.str_of
    obtain rfl:=hz.int_of
    simp [hkV,hkSI,h]
  . trivial
noncomputable def u3X (_N : Nat) : List (PV D) -> Bt D -> Nat -> CallR D:=fun args _ _=>match args with
  | [.int .u8 c]=> .tot (.tup [.int .i64 (y2R c), .bool (u2Y c), .bool (y0K c)])
  | _=> .bad
theorem v2U (hs : HkS hk) (N : Nat) (args : List (PV D)) (B : Bt D) (m : Nat) : x2U Tryz.prog hk V 168 args B m (u3X N args B m):=by
  unfold u3X
  split
  . rename_i c
    refine fun_1 (x:= .nilFunc) (w:= .tuple #[.int .i64 (y2R c), .bool (u2Y c), .bool (y0K c)]) hs (fun μ H M y hy=> ?_) (fun _ _ _=> .tup _ _ (.cons _ _ _ _ (.int _ _) (.cons _ _ _ _ (.bool _) (.cons _ _ _ _ (.bool _) .nil)))) B m
    obtain rfl:=hy.int_of
    rfl
  . trivial
noncomputable def u3N (_N : Nat) : List (PV D) -> Bt D -> Nat -> CallR D:=fun args _ _=>match args with
  | [.int .i64 d, .bool mi]=> .tot (.tup [.int .u8 (z3S d mi), .bool (v7Z d)])
  | _=> .bad
theorem v2K (hs : HkS hk) (N : Nat) (args : List (PV D)) (B : Bt D) (m : Nat) : x2U Tryz.prog hk V 207 args B m (u3N N args B m):=by
  unfold u3N
  split
  . rename_i d mi
    refine fun_2 (w:= .tuple #[.int .u8 (z3S d mi), .bool (v7Z d)]) hs (fun μ H M y z hy hz=> ?_) (fun _ _ _=> .tup _ _ (.cons _ _ _ _ (.int _ _) (.cons _ _ _ _ (.bool _) .nil))) B m
    obtain rfl:=hy.int_of
    obtain rfl:=hz.bool_of
    rfl
  . trivial
end
end Go.Yec
namespace Go.Yec
open Go Go.Xec
variable [GT]
section
variable {D : Type} {V : D -> List (PV D)} {P : Program} {hk : Hook} {tbl : Tbl D} {R : Type}
inductive Ren (V : D -> List (PV D)) (σ : Nat -> Nat -> Prop) (νi νo : Nat -> Prop) : PV D -> PV D -> Prop
  | flat (v : PV D) (h : IdLt V 0 v) : Ren V σ νi νo v v
  | lptr (i j o : Nat) (h : σ i j) : Ren V σ νi νo (.lptr i o) (.lptr j o)
  | lsl (i j : Nat) (h : σ i j) : Ren V σ νi νo (.lsl i) (.lsl j)
  | nin (i : Nat) (h : νi i) : Ren V σ νi νo (.lsl i) .nils
  | nout (c : Nat) (h : νo c) : Ren V σ νi νo .nils (.lsl c)
inductive RenL (V : D -> List (PV D)) (σ : Nat -> Nat -> Prop) (νi νo : Nat -> Prop) : List (PV D) -> List (PV D) -> Prop
  | nil : RenL V σ νi νo [] []
  | cons (a b : PV D) (l m : List (PV D)) (h : Ren V σ νi νo a b) (t : RenL V σ νi νo l m) : RenL V σ νi νo (a :: l) (b :: m)
inductive RenR (V : D -> List (PV D)) (σ : Nat -> Nat -> Prop) (νi νo : Nat -> Prop) : PV D -> PV D -> Prop
  | one (a b : PV D) (h : Ren V σ νi νo a b) : RenR V σ νi νo a b
  | agg (l m : List (PV D)) (h : RenL V σ νi νo l m) : RenR V σ νi νo (.agg l) (.agg m)
  | tup (l m : List (PV D)) (h : RenL V σ νi νo l m) : RenR V σ νi νo (.tup l) (.tup m)
inductive RenB (V : D -> List (PV D)) (σ : Nat -> Nat -> Prop) (νi νo : Nat -> Prop) : Blk D -> Blk D -> Prop
  | cells (l m : List (PV D)) (h : RenL V σ νi νo l m) : RenB V σ νi νo (.cells l) (.cells m)
  | rowI (e : Nat) (k : IntKind) (l : List Int) : RenB V σ νi νo (.rowI e k l) (.rowI e k l)
variable {σ : Nat -> Nat -> Prop} {νi νo : Nat -> Prop} {μ μ' : Mu} {H : Hp} {M M' : Nat -> Prop}
theorem Rep.nil_of {i : Nat} {x : Value} (h : Rep V μ H M (.lsl i) x) (hm : μ i = some (none, 0)) : x = .slice none 0 0:=by
  cases h with
  | lsl _ x len c h hc=>rw [hm] at h; cases h
  | lsln _ h=>rfl
theorem Ren.out {v w : PV D} {x : Value} (h : Ren V σ νi νo v w) (hr : Rep V μ H M v x) (hσ : ∀ i j q, σ i j -> μ i = some q -> μ' j = some q) (hi : ∀ i, νi i -> μ i = some (none, 0)) (ho : ∀ c, νo c -> μ' c = some (none, 0)) (hM : ∀ y, ¬ M y -> ¬ M' y) : Rep V μ' H M' w x:=by
  cases h with
  | flat _ h=>exact hr.lower (m:= 0) (fun i q hi _=>absurd hi (Nat.not_lt_zero i)) hM h
  | lptr i j o h=>cases hr with | lptr _ _ x len hm=>exact .lptr _ _ x len (hσ _ _ _ h hm)
  | lsl i j h => cases hr with
    | lsl _ x len c hm hc=>exact .lsl _ x len c (hσ _ _ _ h hm) hc
    | lsln _ hm=>exact .lsln _ (hσ _ _ _ h hm)
  | nin i h=>rw [hr.nil_of (hi i h)]; exact .nils
  | nout c h=>cases hr; exact .lsln _ (ho c h)
theorem Ren.in' {v w : PV D} {x : Value} (h : Ren V σ νi νo v w) (hr : Rep V μ H M w x) (hσ : ∀ i j q, σ i j -> μ j = some q -> μ' i = some q) (hi : ∀ i, νi i -> μ' i = some (none, 0)) (ho : ∀ c, νo c -> μ c = some (none, 0)) (hM : ∀ y, ¬ M y -> ¬ M' y) : Rep V μ' H M' v x:=by
  cases h with
  | flat _ h=>exact hr.lower (m:= 0) (fun i q hi _=>absurd hi (Nat.not_lt_zero i)) hM h
  | lptr i j o h=>cases hr with | lptr _ _ x len hm=>exact .lptr _ _ x len (hσ _ _ _ h hm)
  | lsl i j h => cases hr with
    | lsl _ x len c hm hc=>exact .lsl _ x len c (hσ _ _ _ h hm) hc
    | lsln _ hm=>exact .lsln _ (hσ _ _ _ h hm)
  | nin i h=>cases hr; exact .lsln _ (hi i h)
  | nout c h=>rw [hr.nil_of (ho c h)]; exact .nils
theorem RenL.out {l m : List (PV D)} (h : RenL V σ νi νo l m) : ∀ {y : List Value}, RepL V μ H M l y -> (∀ i j q, σ i j -> μ i = some q -> μ' j = some q) -> (∀ i, νi i -> μ i = some (none, 0)) -> (∀ c, νo c -> μ' c = some (none, 0)) -> (∀ y, ¬ M y -> ¬ M' y) -> RepL V μ' H M' m y:=by
  induction h with
  | nil=>intro y hr _ _ _ _; cases hr; exact .nil
  | cons a b l m h t ih=>intro y hr hσ hi ho hM; cases hr with | cons _ x _ y hx hy=>exact .cons _ _ _ _ (h.out hx hσ hi ho hM) (ih hy hσ hi ho hM)
theorem RenL.in' {l m : List (PV D)} (h : RenL V σ νi νo l m) : ∀ {y : List Value}, RepL V μ H M m y -> (∀ i j q, σ i j -> μ j = some q -> μ' i = some q) -> (∀ i, νi i -> μ' i = some (none, 0)) -> (∀ c, νo c -> μ c = some (none, 0)) -> (∀ y, ¬ M y -> ¬ M' y) -> RepL V μ' H M' l y:=by
  induction h with
  | nil=>intro y hr _ _ _ _; cases hr; exact .nil
  | cons a b l m h t ih=>intro y hr hσ hi ho hM; cases hr with | cons _ x _ y hx hy=>exact .cons _ _ _ _ (h.in' hx hσ hi ho hM) (ih hy hσ hi ho hM)
theorem RenR.out {v w : PV D} {x : Value} (h : RenR V σ νi νo v w) (hr : Rep V μ H M v x) (hσ : ∀ i j q, σ i j -> μ i = some q -> μ' j = some q) (hi : ∀ i, νi i -> μ i = some (none, 0)) (ho : ∀ c, νo c -> μ' c = some (none, 0)) (hM : ∀ y, ¬ M y -> ¬ M' y) : Rep V μ' H M' w x:=by
  cases h with
  | one _ _ h=>exact h.out hr hσ hi ho hM
  | agg l m h=>cases hr with | agg _ a hl=>exact .agg _ a (h.out hl hσ hi ho hM)
  | tup l m h=>cases hr with | tup _ a hl=>exact .tup _ a (h.out hl hσ hi ho hM)
theorem RenB.out {b c : Blk D} {ox : Option Nat} {len : Nat} (h : RenB V σ νi νo b c) (hr : BlkR V μ H M ox len b) (hσ : ∀ i j q, σ i j -> μ i = some q -> μ' j = some q) (hi : ∀ i, νi i -> μ i = some (none, 0)) (ho : ∀ c, νo c -> μ' c = some (none, 0)) (hM : ∀ y, ¬ M y -> ¬ M' y) : BlkR V μ' H M' ox len c:=by
  cases h with
  | cells l m h=>cases hr with | cells x len _ xl e hg hl=>exact .cells x len m xl e hg (h.out hl hσ hi ho hM)
  | rowI e k l => cases hr with
    | rowI x _ _ _ hg=>exact .rowI x e k l hg
    | rowN=>exact .rowN e k
theorem RenB.in' {b c : Blk D} {ox : Option Nat} {len : Nat} (h : RenB V σ νi νo b c) (hr : BlkR V μ H M ox len c) (hσ : ∀ i j q, σ i j -> μ j = some q -> μ' i = some q) (hi : ∀ i, νi i -> μ' i = some (none, 0)) (ho : ∀ c, νo c -> μ c = some (none, 0)) (hM : ∀ y, ¬ M y -> ¬ M' y) : BlkR V μ' H M' ox len b:=by
  cases h with
  | cells l m h=>cases hr with | cells x len _ xl e hg hl=>exact .cells x len l xl e hg (h.in' hl hσ hi ho hM)
  | rowI e k l => cases hr with
    | rowI x _ _ _ hg=>exact .rowI x e k l hg
    | rowN=>exact .rowN e k
def inσ (ins : List (Option Nat)) (i j : Nat) : Prop:=ins[i]? = some (some j)
def inν (ins : List (Option Nat)) (i : Nat) : Prop:=ins[i]? = some none
def inMu (ins : List (Option Nat)) (μ : Mu) : Mu:=fun i=>match ins[i]? with
  | some (some j)=> μ j
  | some none=>some (none, 0)
  | none=>none
theorem y7H {ins : List (Option Nat)} {i j : Nat} (h : inσ ins i j) : inMu ins μ i = μ j:=by
  have h : ins[i]? = some (some j):=h
  unfold inMu; rw [h]
theorem u8Q {ins : List (Option Nat)} {i : Nat} (h : inν ins i) : inMu ins μ i = some (none, 0):=by
  have h : ins[i]? = some none:=h
  unfold inMu; rw [h]
theorem u2U {ins : List (Option Nat)} {i : Nat} {q : Option Nat × Nat} (h : inMu ins μ i = some q) : i < ins.length /\ ((∃ j,inσ ins i j /\ μ j = some q) \/ (inν ins i /\ q = (none, 0))):=by
  unfold inMu at h
  split at h
  . rename_i j e; exact ⟨(List.getElem?_eq_some_iff.1 e).1, .inl ⟨j,e,h⟩⟩
  . rename_i e; cases h; exact ⟨(List.getElem?_eq_some_iff.1 e).1, .inr ⟨e,rfl⟩⟩
  . cases h
noncomputable def u1Z (e : Nat) (k : IntKind) (B : Bt D) : PV D -> Option (List Int × Option Nat)
  | .nils=>some ([],none)
  | .lsl i => match bget B i with
    | some (_, .rowI e' k' l)=>cond (cond (Nat.beq e e') (ikeq k k') false) (some (l,some i)) none
    | _=>none
  | _=>none
theorem z3F {e : Nat} {k : IntKind} {B : Bt D} {v : PV D} {l : List Int} {o : Option Nat} (h : u1Z e k B v = some (l,o)) : (v = .nils /\ l = [] /\ o = none) \/ ∃ i s,v = .lsl i /\ o = some i /\ bget B i = some (s, .rowI e k l):=by
  unfold u1Z at h
  split at h
  . cases h; exact .inl ⟨rfl,rfl,rfl⟩
  . rename_i i
    split at h
    . rename_i s e' k' l' hb
      obtain ⟨h1,h2⟩:=x0C h
      cases h2
      obtain ⟨h3,h4⟩:=x0F h1
      have e3 : e = e':=x0W h3
      subst e3
      obtain rfl:=x4H h4
      exact .inr ⟨i,s,rfl,rfl,hb⟩
    . cases h
  . cases h
end
end Go.Yec
namespace Go.Yec
open Go Go.Xec
variable [GT]
section
variable {D : Type} {V : D -> List (PV D)} {P : Program} {hk : Hook} {tbl : Tbl D} {R : Type}
noncomputable def roB (B0 B : Bt D) (n : Nat) : Bool:=Nat.rec true (fun i ih=>cond ih (match bget B0 i,bget B i with
  | some (s,_),some (s',_)=>Nat.beq s s'
  | none,_=>true
  | _,none=>false) false) n
theorem roB_ok {B0 B : Bt D} : ∀ {n : Nat}, roB B0 B n = true -> ∀ i s b, i < n -> bget B0 i = some (s, b) -> ∃ b', bget B i = some (s, b')
  | 0,_,i,s,b,hi,_=>absurd hi (Nat.not_lt_zero i)
  | n + 1, h, i, s, b, hi, hb => by
    have h : cond (roB B0 B n) (match bget B0 n,bget B n with
      | some (s,_),some (s',_)=>Nat.beq s s'
      | none,_=>true
      | _,none=>false) false = true:=h
    obtain ⟨h1,h2⟩:=x0F h
    rcases Nat.lt_succ_iff_lt_or_eq.1 hi with hlt | rfl
    . exact roB_ok h1 i s b hlt hb
    . rw [hb] at h2
      split at h2
      . rename_i s1 b1 s2 b2 e1 e2
        cases e1
        obtain rfl:=x0W h2
        exact ⟨b2,e2⟩
      . rename_i e; cases e
      . cases h2
theorem fun_ro (hT : x9V P hk V tbl) {N : Nat} {f : FuncId} {hs : List Hint} {yc : YC} {rs : List RV} {sz : Nat} (hc : u0F P f hs = some (yc, rs, sz)) (hkn : ∀ xs, hk f xs = none) {args0 args : List (PV D)} (hlen : args0.length <= sz) (hno : ∀ v, v ∈ args0 -> ∀ C g w, v ≠ .opt C g w)
    {ins : List (Option Nat)} {B0 B : Bt D} {m : Nat} (hnd : ∀ i i' j,inσ ins i j -> inσ ins i' j -> i = i') (hB0 : ∀ i s b,bget B0 i = some (s,b) -> s < ins.length /\ ((∃ j s' b',inσ ins i j /\ bget B j = some (s',b') /\ RenB V (inσ ins) (inν ins) (fun _=>False) b b') \/ (inν ins i /\ ∃ e k,b = .rowI e k []))) (hren : RenL V (inσ ins) (inν ins) (fun _=>False) args0 args)
    {K : PV D -> Y D -> Option R} {r : R} {w : PV D} (h : fsem tbl N yc rs args0 B0 ins.length K = some r) (hK : ∀ v st',K v st' = some r -> v = w /\ roB B0 st'.B ins.length = true) (hw : IdLt V 0 w) : FunS P hk V f args B m [] w B m:=by
  intro X μ H n xs hr ha
  let isIn : Nat -> Prop:=fun y=> ∃ i j len s b,inσ ins i j /\ bget B0 i = some (s,b) /\ μ j = some (some y,len)
  have real : ∀ i s b y len,bget B0 i = some (s,b) -> inMu ins μ i = some (some y,len) -> ∃ j s' b',inσ ins i j /\ bget B j = some (s',b') /\ μ j = some (some y,len):=fun i s b y len h1 h2=>by
    rcases (hB0 i s b h1).2 with ⟨j,s',b',h3,h4,_⟩ | ⟨h3,_⟩
    . rw [y7H h3] at h2; exact ⟨j,s',b',h3,h4,h2⟩
    . rw [u8Q h3] at h2; cases h2
  have hX2 : ∀ y,MX (fun y=>MX X μ B y /\ ¬ isIn y) (inMu ins μ) B0 y ↔ MX X μ B y:=fun y=>by
    constructor
    . rintro (⟨hy, _⟩ | ⟨i, s, b, len, h1, h2⟩)
      . exact hy
      . obtain ⟨j, s', b', h3, h4, h5⟩ := real i s b y len h1 h2
        exact .inr ⟨j,s',b',len,h4,h5⟩
    . intro hy
      by_cases hi : isIn y
      . obtain ⟨i, j, len, s, b, h1, h2, h3⟩ := hi
        exact .inr ⟨i,s,b,len,h2,by rw [y7H h1]; exact h3⟩
      . exact .inl ⟨hy,hi⟩
  have hσ : ∀ i j q,inσ ins i j -> μ j = some q -> inMu ins μ i = some q:=fun i j q h1 h2=>by rw [y7H h1]; exact h2
  have hν : ∀ i,inν ins i -> inMu ins μ i = some (none, 0):=fun i h=>u8Q h
  have hlt : ∀ y,MX X μ B y -> y < n:=fun y hy=>by
    rcases hy with hy | ⟨i,s,b,len,_,hm⟩
    . exact hr.xlt y hy
    . exact hr.lt i y len hm
  have hr2 : HR V (fun y=>MX X μ B y /\ ¬ isIn y) (inMu ins μ) B0 ins.length H n:=by
    refine ⟨fun i s b hb=> ?_,fun i i' s s' b b' x a c hi hi' hm hm'=> ?_,fun i s b x len hb hm hx=> ?_,fun i x len hm=> ?_,fun i q hm=>(u2U hm).1,fun x hx=>hlt x hx.1,hr.fresh⟩
    . obtain ⟨hs, ⟨j, s', b', h1, h2, h3⟩ | ⟨h1, e, k, rfl⟩⟩ := hB0 i s b hb
      . obtain ⟨_, ox, len, h4, h5⟩ := hr.blk j s' b' h2
        exact ⟨hs,ox,len,hσ i j _ h1 h4,h3.in' h5 hσ hν (fun _ h=>h.elim) fun y hy hm=>hy ((hX2 y).1 hm)⟩
      . exact ⟨hs,none, 0,hν i h1, .rowN e k⟩
    . obtain ⟨j, s1, b1, h1, h2, h3⟩ := real i s b x a hi hm
      obtain ⟨j',s2,b2,h1',h2',h3'⟩:=real i' s' b' x c hi' hm'
      have:=hr.inj j j' s1 s2 b1 b2 x a c h2 h2' h3 h3'
      subst this
      exact hnd i i' j h1 h1'
    . obtain ⟨j, s1, b1, h1, h2, h3⟩ := real i s b x len hb hm
      exact hx.2 ⟨i,j,len,s,b,h1,hb,h3⟩
    . obtain ⟨_, ⟨j, _, h2⟩ | ⟨_, h2⟩⟩ := u2U hm
      . exact hr.lt j x len h2
      . cases h2
  have ha2:=hren.in' (μ':=inMu ins μ) (M':=MX (fun y=>MX X μ B y /\ ¬ isIn y) (inMu ins μ) B0) ha hσ hν (fun _ h=>h.elim) fun y hy hm=>hy ((hX2 y).1 hm)
  obtain ⟨v,st',xv,H',n', μ2,h3,h4,h5,h6,h7⟩:=u3B hT hc hkn hlen hno hr2 ha2 h
  obtain ⟨rfl,hro⟩:=hK v st' h7
  have stay : ∀ i s b x len,bget B0 i = some (s,b) -> inMu ins μ i = some (some x,len) -> ∃ b',bget st'.B i = some (s,b') /\ i < ins.length:=fun i s b x len hb hm=>by
    have hi:=(u2U hm).1
    obtain ⟨b',hb'⟩:=roB_ok hro i s b hi hb
    exact ⟨b',hb',hi⟩
  have same : ∀ x,x < n -> hget H' x = hget H x:=fun x hx=>by
    by_cases hin : ∃ i s b len,bget B0 i = some (s,b) /\ inMu ins μ i = some (some x,len)
    . obtain ⟨i, s, b, len, hb, hm⟩ := hin
      obtain ⟨b',hb',hi⟩:=stay i s b x len hb hm
      exact h5.kept i s b' x len hi hb' (hB0 i s b hb).1 hm
    . exact h5.frame x hx fun i s b len hb hm=>hin ⟨i,s,b,len,hb,hm⟩
  have kp : Keep μ H (MX X μ B) μ H' (MX X μ B):=⟨fun _ _ h=>h,fun x o hx ho'=>⟨hx,by
    rw [same x ?_]; exact ho'
    apply Classical.byContradiction
    intro hn
    rw [hr.fresh x (by omega)] at ho'; cases ho'⟩⟩
  refine ⟨xv,H',n', μ, h3,⟨fun i s b hb=> ?_,hr.inj,hr.nx,fun i x len hm=>Nat.lt_of_lt_of_le (hr.lt i x len hm) h5.le,hr.lm,fun x hx=>Nat.lt_of_lt_of_le (hr.xlt x hx) h5.le,h4.fresh⟩,⟨h5.le,Nat.le_refl _,fun _ _=>rfl,fun x hx _=>same x hx,fun i s b _ hb=>⟨s,b,hb⟩,fun i s b x len _ hb hm=> .inr ⟨i,s,b,len,hb,hm⟩,fun _ _ _ hb _=>hb,fun i s b x len _ _ _ hm=>same x (hr.lt i x len hm)⟩, ?_,fun i s b x len _ _ hm=>same x (hr.lt i x len hm)⟩
  . obtain ⟨q1, ox, len, q2, q3⟩ := hr.blk i s b hb
    exact ⟨q1,ox,len,q2,q3.keep kp fun x hx=>same x (by subst hx; exact hr.lt i x len q2)⟩
  . refine h6.lower (m := 0) (fun i q hi _ => absurd hi (Nat.not_lt_zero i)) (fun y hy hm => hy ?_) hw
    rcases (hX2 y).2 hm with hx | ⟨i,s,b,len,hb,hm2⟩
    . exact .inl hx
    . obtain ⟨b', hb', hi⟩ := stay i s b y len hb hm2
      exact .inr ⟨i,s,b',len,hb',by rw [h5.mu i hi]; exact hm2⟩
variable {B : Bt D} {i s e : Nat} {k : IntKind} {l : List Int} {o : Option Nat} {sl : PV D} {cs0 cs : List (PV D)}
theorem two_at {α : Type} {a b x : α} {i : Nat} (h : [a,b][i]? = some x) : (i = 0 /\ a = x) \/ (i = 1 /\ b = x):=by
  match i,h with
  | 0,h=>cases h; exact .inl ⟨rfl,rfl⟩
  | 1,h=>cases h; exact .inr ⟨rfl,rfl⟩
  | n + 2,h=>simp at h
theorem ro_nd (hb : bget B i = some (s, .cells cs)) (hrow : u1Z e k B sl = some (l,o)) : ∀ i1 i2 j,inσ [some i,o] i1 j -> inσ [some i,o] i2 j -> i1 = i2:=by
  have key : o ≠ some i:=by
    rintro rfl
    rcases z3F hrow with ⟨_,_,h⟩ | ⟨j,s',_,h1,h2⟩
    . cases h
    . cases h1; rw [hb] at h2; cases h2
  intro i1 i2 j h1 h2
  rcases two_at h1 with ⟨rfl,e1⟩ | ⟨rfl,e1⟩ <;> rcases two_at h2 with ⟨rfl,e2⟩ | ⟨rfl,e2⟩
  . rfl
  . cases e1; exact absurd e2 key
  . cases e2; exact absurd e1 key
  . rfl
theorem ro_row (hrow : u1Z e k B sl = some (l,o)) : Ren V (inσ [some i,o]) (inν [some i,o]) (fun _=>False) (.lsl 1) sl:=by
  rcases z3F hrow with ⟨rfl,_,rfl⟩ | ⟨j,s',rfl,rfl,h2⟩
  . exact .nin 1 rfl
  . exact .lsl 1 j rfl
theorem ro_B0 (hb : bget B i = some (s, .cells cs)) (hrow : u1Z e k B sl = some (l,o)) (hc : RenL V (inσ [some i,o]) (inν [some i,o]) (fun _=>False) cs0 cs) :
    ∀ j s' b,bget (bset (bset .leaf 0 (some (0, .cells cs0))) 1 (some (1, .rowI e k l))) j = some (s',b) -> s' < [some i,o].length /\ ((∃ j' s'' b',inσ [some i,o] j j' /\ bget B j' = some (s'',b') /\ RenB V (inσ [some i,o]) (inν [some i,o]) (fun _=>False) b b') \/ (inν [some i,o] j /\ ∃ e k,b = .rowI e k [])):=by
  intro j s' b h
  rw [x1A] at h
  split at h
  . rename_i e1; subst e1; cases h
    refine ⟨by simp, ?_⟩
    rcases z3F hrow with ⟨rfl,rfl,rfl⟩ | ⟨j,s',rfl,rfl,h2⟩
    . exact .inr ⟨rfl,e,k,rfl⟩
    . exact .inl ⟨j,s',_,rfl,h2, .rowI e k l⟩
  . rw [x1A] at h
    split at h
    . rename_i e1; subst e1; cases h
      exact ⟨by simp, .inl ⟨i,s,_,rfl,hb, .cells _ _ hc⟩⟩
    . rw [x4C] at h; cases h
end
end Go.Yec
