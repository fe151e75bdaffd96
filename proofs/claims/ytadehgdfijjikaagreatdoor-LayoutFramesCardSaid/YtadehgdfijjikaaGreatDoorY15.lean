/-
  FUNCTIONS OF THE LIBRARY WHOSE LAWS THE SHELF GIVES: as a hook of the executor, as entries of the pure executor's table.
-/
import Derived.Shelf.Small.Strs
import Derived.Shelf.Strings.Count
import Derived.Shelf.Strings.Search3
import Derived.Shelf.Strings.Prefix
import Derived.Shelf.Strings.LastIndex
import Derived.Shelf.Strings.IndexAnyAll
import Derived.Shelf.Strings.SlTrimAscii
import Derived.Shelf.Strings.Repeat
import Derived.Shelf.Strconv.Atoi
import Derived.Lib.AtoiErrMem
import Derived.Test.YtadehgdfijjikaaGreatDoorY3
import Derived.Test.YtadehgdfijjikaaGreatDoorY14
import Derived.Test.YtadehgdfijjikaaGreatDoorX10
import Derived.Test.YtadehgdfijjikaaGreatDoorY1
set_option linter.all false
namespace Go.Proofs
open Go.Shelf
open Go.RowKit Go.Lib
theorem Tryz.indexByte (s : ByteArray) (c : Int) (w : World) : Calls Tryz.prog 236 #[.string s, .int .u8 c] w fun e w'=>e = .returned (.int .i64 (Lib.indexByte s.data.toList c.toNat.toUInt8)) /\ w' = w:=Any.strings_IndexByte Tryz.lays137 s c w
theorem Tryz.count (s : ByteArray) (c : UInt8) (w : World) : Calls Tryz.prog 244 #[.string s, .string ⟨#[c]⟩] w fun e w'=>e = .returned (.int .i64 (Lib.countByte s.data.toList c)) /\ w' = w:=Any.strings_Count_one Tryz.lays138 s c w
theorem Tryz.contains (s : ByteArray) (c : UInt8) (w : World) : Calls Tryz.prog 214 #[.string s, .string ⟨#[c]⟩] w fun e w'=>e = .returned (.bool (decide (0 <= Lib.indexByte s.data.toList c))) /\ w' = w:=Any.strings_Contains_one Tryz.lays144 s c w
theorem Tryz.hasSuffix (s p : ByteArray) (w : World) (hs : s.size <= 9223372036854775807) : Calls Tryz.prog 212 #[.string s, .string p] w fun e w'=>e = .returned (.bool (Lib.hasSuffix s.data.toList p.data.toList)) /\ w' = w:=Any.strings_HasSuffix Tryz.lays100 s p w hs
theorem Tryz.lastIndexByte (s : ByteArray) (c : Int) (w : World) (hs : s.size < 4611686018427387904) : Calls Tryz.prog 245 #[.string s, .int .u8 c] w fun e w'=>e = .returned (.int .i64 (Lib.lastIndexByte s c)) /\ w' = w:=Any.strings_LastIndexByte Tryz.lays149 s c hs w
theorem Tryz.containsAny (s chars : ByteArray) (w : World) (hs : s.size < 4294967281) (hcs : chars.size < 4294967281) (has : ∀ (j : Nat) b,s.data.toList[j]? = some b -> b.toNat < 128) (hac : ∀ (j : Nat) b,chars.data.toList[j]? = some b -> b.toNat < 128) :
    Calls Tryz.prog 182 #[.string s, .string chars] w fun e w'=>e = .returned (.bool (Lib.containsAny s.data.toList chars.data.toList)) /\ Go.RowKit.Below w.heap.size w w':=Any.strings_ContainsAny_laid Tryz.lays150 (by kernel_rfl) s chars w hs hcs has hac
theorem Tryz.trim (s cutset : ByteArray) (w : World) (hs : s.size <= 9223372036854775807) (hcs : cutset.size < 4294967281) (hascii : ∀ (j : Nat) b,cutset.data.toList[j]? = some b -> b.toNat < 128) :
    Calls Tryz.prog 181 #[.string s, .string cutset] w fun e w'=>e = .returned (.string ⟨(Lib.trimS s.data.toList cutset.data.toList).toArray⟩) /\ Go.RowKit.Below w.heap.size w w':=Any.strings_Trim_laid Tryz.lays160 (by kernel_rfl) s cutset w hs hcs hascii
theorem Tryz.atoi (s : ByteArray) (n : Int) (w : World) (hl : s.size <= 18) (h : Lib.atoi s.data.toList = some n) : Calls Tryz.prog 198 #[.string s] w fun e w'=>e = .returned (.tuple #[.int .i64 n, .nilIface]) /\ Go.RowKit.Below w.heap.size w w' :=
  (Any.strconv_Atoi Tryz.lays172 s n hl h w).mono (by
    rintro e w' ⟨h1,t,rfl⟩
    exact ⟨h1,Lib.bytesWorld_below _ _ _⟩)
theorem Tryz.repeat' (s : ByteArray) (c : Nat) (w : World) (hc : c <= 9223372036854775807) (hlen : s.size * c <= 140737488355328) : Calls Tryz.prog 229 #[.string s, .int .i64 c] w fun e w'=>e = .returned (.string ⟨(Lib.repeatL s.data.toList c).toArray⟩) /\ Go.RowKit.Below w.heap.size w w' :=
  Any.strings_Repeat Tryz.lays105 Tryz.extra105 s c w hc hlen
end Go.Proofs
namespace Go.Yec
open Go Go.Xec Go.Proofs
def hkSB (f : Nat) (s : List UInt8) (c : Int) : Option Value :=
  if f = 236 then some (.int .i64 (hIx s c)) else if f = 245 then (if hSz 4611686018427387904 s = true then some (.int .i64 (y6C s c)) else none) else none
def hkSS (f : Nat) (s t : List UInt8) : Option Value :=
  if f = 244 then (if hOne t = true then some (.int .i64 (u5J s t)) else none)
  else if f = 214 then (if hOne t = true then some (.bool (hHas s t)) else none)
  else if f = 212 then (if hSz 9223372036854775808 s = true then some (.bool (hSuf s t)) else none)
  else if f = 182 then (if x6K s t = true then some (.bool (hAny s t)) else none)
  else if f = 181 then (if y1P s t = true then some (.string ⟨(u7U s t).toArray⟩) else none)
  else none
def hkS1 (f : Nat) (s : List UInt8) : Option Value:=if f = 198 then (if v4Q s = true then some (.tuple #[.int .i64 (hAtoi s), .nilIface]) else none)
  else if f = 137 then (if hBitsOk s = true then some (.string ⟨(hBits s).toArray⟩) else none) else none
def hkSI (f : Nat) (s : List UInt8) (n : Int) : Option Value:=if f = 229 then (if hRepOk s n = true then some (.string ⟨(hRep s n).toArray⟩) else none) else none
def hkB1 (f : Nat) (c : Int) : Option Value:=if f = 225 then some (.tuple #[.int .i64 (hUnp1 c), .bool (hUnp2 c), .bool (hUnp3 c)]) else none
def hkIB (f : Nat) (d : Int) (m : Bool) : Option Value:=if f = 268 then some (.tuple #[.int .u8 (hPun1 d m), .bool (hPun2 d)]) else none
def hkV : Hook:=fun f args=>match args with
  | [.string s, .int .u8 c]=>hkSB f s.data.toList c
  | [.string s, .string t]=>hkSS f s.data.toList t.data.toList
  | [.string s]=>hkS1 f s.data.toList
  | [.string s, .int .i64 n]=>hkSI f s.data.toList n
  | [.int .u8 c]=>hkB1 f c
  | [.int .i64 d, .bool m]=>hkIB f d m
  | _=>none
theorem hkV_no : HkN hkV:=fun f hf xs=>by
  unfold y0G at hf
  simp only [List.elem_cons,List.elem_nil,Bool.or_eq_false_iff] at hf
  have hne : f ≠ 181 /\ f ≠ 182 /\ f ≠ 212 /\ f ≠ 214 /\ f ≠ 236 /\ f ≠ 244 /\ f ≠ 245 /\ f ≠ 229 /\ f ≠ 198 /\ f ≠ 225 /\ f ≠ 268 /\ f ≠ 137:=by
    refine ⟨?_, ?_, ?_, ?_, ?_, ?_, ?_, ?_, ?_, ?_, ?_, ?_⟩ <;> (intro e; subst e; simp at hf)
  obtain ⟨n1,n2,n3,n4,n5,n6,n7,n8,n9,n10,n11,n12⟩:=hne
  unfold hkV
  split
  . unfold hkSB; rw [if_neg n5,if_neg n7]
  . unfold hkSS; rw [if_neg n6,if_neg n4,if_neg n3,if_neg n2,if_neg n1]
  . unfold hkS1; rw [if_neg n9,if_neg n12]
  . unfold hkSI; rw [if_neg n8]
  . unfold hkB1; rw [if_neg n10]
  . unfold hkIB; rw [if_neg n11]
  . rfl
theorem x3L (f : Nat) (h : ((Tryz.prog.funcs[f]?).bind (·.body)).isSome = true) : ∃ fn c,Tryz.prog.funcs[f]? = some fn /\ fn.body = some c:=by
  cases e : Tryz.prog.funcs[f]? with
  | none=>rw [e] at h; cases h
  | some fn =>
    rw [e] at h
    cases e2 : fn.body with
    | none=>simp [e2] at h
    | some c=>exact ⟨fn,c,rfl,e2⟩
theorem one_of {t : ByteArray} (h : hOne t.data.toList = true) : t = ⟨#[t.data.toList.headD 0]⟩:=by
  have h:=of_decide_eq_true h
  cases t with | mk a =>
  have ha : a.toList.length = 1:=h
  cases e : a.toList with
  | nil=>rw [e] at ha; cases ha
  | cons x l =>
    cases l with
    | cons y l=>rw [e] at ha; simp at ha
    | nil =>
      have : a = #[x]:=Array.ext' (by rw [e])
      subst this
      rfl
theorem z3X {s : List UInt8} (h : y7M s = true) : ∀ (j : Nat) b,s[j]? = some b -> b.toNat < 128:=fun j b hb=>by
  unfold y7M at h
  rw [List.all_eq_true] at h
  exact of_decide_eq_true (h b (List.mem_of_getElem? hb))
theorem hkV_ok : HookOk Tryz.prog hkV:=fun f args v h=>by
  have fin : ∀ (args : List Value) (r : Value), VR (fun _ => none) r r -> (∀ β : Bm, VR β r r) -> x5W args = true -> (∀ w, Glob w -> Calls Tryz.prog f args.toArray w fun e w' => e = .returned r /\ Go.RowKit.Below w.heap.size w w') ->
      ∀ (β : Bm) (w : World) (cs : List Value),Glob w -> VL β args cs -> CallsIn Fence.wide 0 Tryz.prog f cs.toArray w fun e w'=> ∃ c,e = .returned c /\ VR β r c /\ (∀ b,b < w.heap.size -> w'.heap[b]? = w.heap[b]?) /\ w.heap.size <= w'.heap.size /\ w'.os = w.os /\ w'.output = w.output /\ w'.tape = w.tape:=fun args r _ hr hp hc β w cs hgl hv=>by
    rw [x9X hp hv]
    refine callsIn_wide.2 ((hc w hgl).mono ?_)
    rintro e w' ⟨rfl,hb⟩
    exact ⟨r,rfl,hr β, hb.block,hb.size,hb.os,hb.output,hb.tape⟩
  have same : ∀ {a : Array Value} {w : World} {r : Value}, Calls Tryz.prog f a w (fun e w'=>e = .returned r /\ w' = w) -> Calls Tryz.prog f a w fun e w'=>e = .returned r /\ Go.RowKit.Below w.heap.size w w':=fun hc=>hc.mono (by
    rintro e w' ⟨h1,rfl⟩
    exact ⟨h1,Go.RowKit.Below.refl _ _⟩)
  unfold hkV at h
  split at h
  . rename_i s c
    unfold hkSB at h
    split at h
    . rename_i e; subst e; cases h
      exact ⟨x3L 236 (by kernel_rfl),fin _ _ (.int _ _) (fun _=> .int _ _) rfl fun w _=>same (Tryz.indexByte s c w)⟩
    . split at h
      . rename_i e; subst e
        split at h
        . rename_i hz; cases h
          refine ⟨x3L 245 (by kernel_rfl),fin _ _ (.int _ _) (fun _=> .int _ _) rfl fun w _=>same ?_⟩
          have:=Tryz.lastIndexByte s c w (by rw [x2B]; exact of_decide_eq_true hz)
          unfold y6C
          rw [v6S]
          exact this
        . cases h
      . cases h
  . rename_i s t
    unfold hkSS at h
    split at h
    . rename_i e; subst e
      split at h
      . rename_i hz; cases h
        refine ⟨x3L 244 (by kernel_rfl),fin _ _ (.int _ _) (fun _=> .int _ _) rfl fun w _=>same ?_⟩
        have:=Tryz.count s (t.data.toList.headD 0) w
        rw [<- one_of hz] at this
        exact this
      . cases h
    . split at h
      . rename_i e; subst e
        split at h
        . rename_i hz; cases h
          refine ⟨x3L 214 (by kernel_rfl),fin _ _ (.bool _) (fun _=> .bool _) rfl fun w _=>same ?_⟩
          have:=Tryz.contains s (t.data.toList.headD 0) w
          rw [<- one_of hz] at this
          exact this
        . cases h
      . split at h
        . rename_i e; subst e
          split at h
          . rename_i hz; cases h
            exact ⟨x3L 212 (by kernel_rfl),fin _ _ (.bool _) (fun _=> .bool _) rfl fun w _=>same (Tryz.hasSuffix s t w (by rw [x2B]; exact Nat.le_of_lt_succ (of_decide_eq_true hz)))⟩
          . cases h
        . split at h
          . rename_i e; subst e
            split at h
            . rename_i hz; cases h
              unfold x6K at hz
              simp only [Bool.and_eq_true] at hz
              obtain ⟨⟨⟨z1,z2⟩,z3⟩,z4⟩:=hz
              exact ⟨x3L 182 (by kernel_rfl),fin _ _ (.bool _) (fun _=> .bool _) rfl fun w _=>Tryz.containsAny s t w (by rw [x2B]; exact of_decide_eq_true z1) (by rw [x2B]; exact of_decide_eq_true z2) (z3X z3) (z3X z4)⟩
            . cases h
          . split at h
            . rename_i e; subst e
              split at h
              . rename_i hz; cases h
                unfold y1P at hz
                simp only [Bool.and_eq_true] at hz
                obtain ⟨⟨z1,z2⟩,z3⟩:=hz
                exact ⟨x3L 181 (by kernel_rfl),fin _ _ (.string _) (fun _=> .string _) rfl fun w _=>Tryz.trim s t w (by rw [x2B]; exact Nat.le_of_lt_succ (of_decide_eq_true z1)) (by rw [x2B]; exact of_decide_eq_true z2) (z3X z3)⟩
              . cases h
            . cases h
  . rename_i s
    unfold hkS1 at h
    split at h
    . rename_i e; subst e
      split at h
      . rename_i hz; cases h
        unfold v4Q at hz
        rw [Bool.and_eq_true,decide_eq_true_eq] at hz
        obtain ⟨n,hn⟩:=Option.isSome_iff_exists.1 hz.1
        refine ⟨x3L 198 (by kernel_rfl),fin _ _ (.tuple _ _ (.cons (.int _ _) (.cons .nilIface .nil))) (fun _=> .tuple _ _ (.cons (.int _ _) (.cons .nilIface .nil))) rfl fun w _=> ?_⟩
        unfold hAtoi
        rw [hn]
        exact Tryz.atoi s n w (by rw [x2B]; exact hz.2) hn
      . cases h
    . split at h
      . rename_i e; subst e
        split at h
        . rename_i hz; cases h
          exact ⟨x3L 137 (by kernel_rfl),fin _ _ (.string _) (fun _=> .string _) rfl fun w hgl=>c72 s w (by rw [x2B]; exact of_decide_eq_true hz) hgl⟩
        . cases h
      . cases h
  . rename_i s n
    unfold hkSI at h
    split at h
    . rename_i e; subst e
      split at h
      . rename_i hz; cases h
        unfold hRepOk at hz
        simp only [Bool.and_eq_true,decide_eq_true_eq] at hz
        obtain ⟨z1,z2,z3⟩:=hz
        refine ⟨x3L 229 (by kernel_rfl),fin _ _ (.string _) (fun _=> .string _) rfl fun w _=> ?_⟩
        have:=Tryz.repeat' s n.toNat w (by omega) (by rw [x2B]; exact z3)
        rw [show ((n.toNat : Nat) : Int) = n by omega] at this
        exact this
      . cases h
    . cases h
  . rename_i c
    unfold hkB1 at h
    split at h
    . rename_i e; subst e; cases h
      refine ⟨x3L 225 (by kernel_rfl),fin _ _ (.tuple _ _ (.cons (.int _ _) (.cons (.bool _) (.cons (.bool _) .nil)))) (fun _=> .tuple _ _ (.cons (.int _ _) (.cons (.bool _) (.cons (.bool _) .nil)))) rfl fun w hgl=>same ?_⟩
      obtain ⟨e,fz,hg⟩:=hgl 0 punV rfl
      have:=Tryz.unpunch c w hg
      have e1 : unpR c = (hUnp1 c,hUnp2 c,hUnp3 c):=by
        unfold unpR hUnp1 hUnp2 hUnp3 hUnp
        cases (List.range 20).find? (fun i=>decide (((punL.getD i 0).toNat : Int) = c)) <;> rfl
      rw [e1] at this
      exact this
    . cases h
  . rename_i d m
    unfold hkIB at h
    split at h
    . rename_i e; subst e; cases h
      refine ⟨x3L 268 (by kernel_rfl),fin _ _ (.tuple _ _ (.cons (.int _ _) (.cons (.bool _) .nil))) (fun _=> .tuple _ _ (.cons (.int _ _) (.cons (.bool _) .nil))) rfl fun w hgl=>same ?_⟩
      obtain ⟨e,fz,hg⟩:=hgl 0 punV rfl
      have:=Tryz.punch d m w hg
      have e1 : z5Z d m = (hPun1 d m,hPun2 d):=by
        unfold z5Z hPun1 hPun2
        by_cases hd : d < 0 \/ 9 < d
        . rw [if_pos hd,decide_eq_true hd]; rfl
        . rw [if_neg hd,decide_eq_false hd]; rfl
      rw [e1] at this
      exact this
    . cases h
  . cases h
structure HkS (hk : Hook) : Prop where
  no : HkN hk
  yes : ∀ f args v,hkV f args = some v -> hk f args = some v
  ten : hk 195 [] = some (.agg tenV)
  san : hk 14 [] = some (.bool true)
def hkW : Hook:=fun f args=>match args with
  | []=>if f = 195 then some (.agg tenV) else if f = 14 then some (.bool true) else none
  | _=>hkV f args
theorem hkV_nil (f : FuncId) : hkV f [] = none:=rfl
theorem u7S : HkS hkW:=⟨fun f hf xs=>by
  unfold hkW
  split
  . unfold y0G at hf
    simp only [List.elem_cons,List.elem_nil,Bool.or_eq_false_iff] at hf
    have h1 : f ≠ 195:=by intro e; subst e; simp at hf
    have h2 : f ≠ 14:=by intro e; subst e; simp at hf
    rw [if_neg h1,if_neg h2]
  . exact hkV_no f hf _,fun f args v h=>by
  unfold hkW
  split
  . rw [hkV_nil] at h; cases h
  . exact h,rfl,rfl⟩
theorem hkW_ok (hs : ∀ w,Glob w -> Calls Tryz.prog 14 #[] w fun e w'=>e = .returned (.bool true) /\ Go.RowKit.Below w.heap.size w w') : HookOk Tryz.prog hkW:=fun f args v h=>by
  unfold hkW at h
  split at h
  . have fin : ∀ r : Value, plain r = true -> (∀ w, Glob w -> Calls Tryz.prog f #[] w fun e w' => e = .returned r /\ Go.RowKit.Below w.heap.size w w') -> ∀ (β : Bm) (w : World) (cs : List Value), Glob w -> VL β [] cs -> CallsIn Fence.wide 0 Tryz.prog f cs.toArray w fun e w' => ∃ c, e = .returned c /\ VR β r c /\ (∀ b, b < w.heap.size -> w'.heap[b]? = w.heap[b]?) /\ w.heap.size <= w'.heap.size /\ w'.os = w.os /\ w'.output = w.output /\ w'.tape = w.tape := fun r hr hc β w cs hgl hv => by
      cases hv
      refine callsIn_wide.2 ((hc w hgl).mono ?_)
      rintro e w' ⟨rfl,hb⟩
      exact ⟨r,rfl,x4Z hr,hb.block,hb.size,hb.os,hb.output,hb.tape⟩
    split at h
    . rename_i e; subst e; cases h
      exact ⟨x3L 195 (by kernel_rfl),fin _ rfl fun w hg=>Tryz.tens w hg⟩
    . split at h
      . rename_i e; subst e; cases h
        exact ⟨x3L 14 (by kernel_rfl),fin _ rfl hs⟩
      . cases h
  . exact hkV_ok f _ v h
section
variable {D : Type} {V : D -> List (PV D)} {hk : Hook}
theorem u3Z {f : FuncId} {xs : List Value} {w : Value} {H : Hp} {n : Nat} (h : hk f xs = some w) (k : Nat) (hk1 : 1 <= k) : run Tryz.prog hk k (.call f xs) H n = .ok .ret (one w) H n:=by
  obtain ⟨k,rfl⟩ : ∃ j,k = j + 1:=⟨k - 1,by omega⟩
  show hookK H n _ (hk f xs) = _
  rw [h]; rfl
theorem fun_SB (hs : HkS hk) {f : FuncId} {s : List UInt8} {c : Int} {w : Value} {v : PV D} (h : hkSB f s c = some w) (hv : ∀ μ H M,Rep V μ H M v w) (B : Bt D) (m : Nat) : FunS Tryz.prog hk V f [.str s, .int .u8 c] B m [] v B m:=by
  intro X μ H n xs hr hx
  cases hx with
  | cons _ x _ _ h1 t=>cases t with
    | cons _ y _ _ h2 t =>
      cases t
      obtain ⟨u,rfl,rfl⟩:=h1.str_of
      obtain rfl:=h2.int_of
      exact ⟨w,H,n, μ, ⟨1,u3Z (hs.yes _ _ _ h)⟩,hr,Gr.refl _ _ _ _ _,hv _ _ _,fun _ _ _ _ _ _ _ _=>rfl⟩
theorem z7A (hs : HkS hk) {f : FuncId} {s t : List UInt8} {w : Value} {v : PV D} (h : hkSS f s t = some w) (hv : ∀ μ H M,Rep V μ H M v w) (B : Bt D) (m : Nat) : FunS Tryz.prog hk V f [.str s, .str t] B m [] v B m:=by
  intro X μ H n xs hr hx
  cases hx with
  | cons _ x _ _ h1 t=>cases t with
    | cons _ y _ _ h2 t =>
      cases t
      obtain ⟨u,rfl,rfl⟩:=h1.str_of
      obtain ⟨u',rfl,rfl⟩:=h2.str_of
      exact ⟨w,H,n, μ, ⟨1,u3Z (hs.yes _ _ _ h)⟩,hr,Gr.refl _ _ _ _ _,hv _ _ _,fun _ _ _ _ _ _ _ _=>rfl⟩
theorem strOf {μ : Mu} {H : Hp} {M : Nat -> Prop} (l : List UInt8) : Rep V μ H M (.str l) (.string ⟨l.toArray⟩):=by
  have:=Rep.str (V:=V) (μ := μ) (H:=H) (M:=M) (⟨l.toArray⟩ : ByteArray)
  simpa using this
noncomputable def y1U (_N : Nat) : List (PV D) -> Bt D -> Nat -> CallR D:=fun args _ _=>match args with
  | [.str s, .int .u8 c]=> .tot (.int .i64 (hIx s c))
  | _=> .bad
theorem x8Y (hs : HkS hk) (N : Nat) (args : List (PV D)) (B : Bt D) (m : Nat) : x4J Tryz.prog hk V 236 args B m (y1U N args B m):=by
  unfold y1U
  split
  . exact fun_SB hs rfl (fun _ _ _=> .int _ _) B m
  . trivial
noncomputable def u1M (_N : Nat) : List (PV D) -> Bt D -> Nat -> CallR D:=fun args _ _=>match args with
  | [.str s, .int .u8 c]=> .par (hSz 4611686018427387904 s) (.int .i64 (y6C s c))
  | _=> .bad
theorem u9H (hs : HkS hk) (N : Nat) (args : List (PV D)) (B : Bt D) (m : Nat) : x4J Tryz.prog hk V 245 args B m (u1M N args B m):=by
  unfold u1M
  split
  . intro h
    exact fun_SB hs (by simp [hkSS,hkSB,h]) (fun _ _ _=> .int _ _) B m
  . trivial
noncomputable def u1N (_N : Nat) : List (PV D) -> Bt D -> Nat -> CallR D:=fun args _ _=>match args with
  | [.str s, .str t]=> .par (hOne t) (.int .i64 (u5J s t))
  | _=> .bad
theorem u9J (hs : HkS hk) (N : Nat) (args : List (PV D)) (B : Bt D) (m : Nat) : x4J Tryz.prog hk V 244 args B m (u1N N args B m):=by
  unfold u1N
  split
  . intro h
    exact z7A hs (by simp [hkSS,hkSB,h]) (fun _ _ _=> .int _ _) B m
  . trivial
noncomputable def z3D (_N : Nat) : List (PV D) -> Bt D -> Nat -> CallR D:=fun args _ _=>match args with
  | [.str s, .str t]=> .par (hOne t) (.bool (hHas s t))
  | _=> .bad
theorem z0A (hs : HkS hk) (N : Nat) (args : List (PV D)) (B : Bt D) (m : Nat) : x4J Tryz.prog hk V 214 args B m (z3D N args B m):=by
  unfold z3D
  split
  . intro h
    exact z7A hs (by simp [hkSS,hkSB,h]) (fun _ _ _=> .bool _) B m
  . trivial
noncomputable def u1Q (_N : Nat) : List (PV D) -> Bt D -> Nat -> CallR D:=fun args _ _=>match args with
  | [.str s, .str t]=> .par (hSz 9223372036854775808 s) (.bool (hSuf s t))
  | _=> .bad
theorem u9L (hs : HkS hk) (N : Nat) (args : List (PV D)) (B : Bt D) (m : Nat) : x4J Tryz.prog hk V 212 args B m (u1Q N args B m):=by
  unfold u1Q
  split
  . intro h
    exact z7A hs (by simp [hkSS,hkSB,h]) (fun _ _ _=> .bool _) B m
  . trivial
noncomputable def z3E (_N : Nat) : List (PV D) -> Bt D -> Nat -> CallR D:=fun args _ _=>match args with
  | [.str s, .str t]=> .par (x6K s t) (.bool (hAny s t))
  | _=> .bad
theorem z0B (hs : HkS hk) (N : Nat) (args : List (PV D)) (B : Bt D) (m : Nat) : x4J Tryz.prog hk V 182 args B m (z3E N args B m):=by
  unfold z3E
  split
  . intro h
    exact z7A hs (by simp [hkSS,hkSB,h]) (fun _ _ _=> .bool _) B m
  . trivial
noncomputable def u1V (_N : Nat) : List (PV D) -> Bt D -> Nat -> CallR D:=fun args _ _=>match args with
  | [.str s, .str t]=> .par (y1P s t) (.str (u7U s t))
  | _=> .bad
theorem u9R (hs : HkS hk) (N : Nat) (args : List (PV D)) (B : Bt D) (m : Nat) : x4J Tryz.prog hk V 181 args B m (u1V N args B m):=by
  unfold u1V
  split
  . intro h
    exact z7A hs (by simp [hkSS,hkSB,h]) (fun _ _ _=>strOf _) B m
  . trivial
end
end Go.Yec
