/-
  THE EXECUTOR: slices, comparisons, arithmetic, conversions, builtins; and all operations together.
-/
import Derived.Test.YtadehgdfijjikaaGreatDoorX4
import Derived.Laws.BytesString
set_option linter.all false
namespace Go.Xec
open Go
variable [GT]
section
variable {P : Program} {o : Oper} {T : Tm} {H H' : Hp} {n n' : Nat} {v : Value}
theorem z2M {x : Value} {m : Nat} (h : z6R x = some m) : ∃ k,x = .int k (.ofNat m):=by
  unfold z6R at h; split at h
  . cases h; exact ⟨_,rfl⟩
  . cases h
theorem y0B {w : World} {k : IntKind} {m y : Nat} {c : BoundsCode} (h : m <= y) : (Instr.sliceBound (.int k (m : Int)) y c).run P w = .ok m w:=by
  have : (m : Int) <= (y : Int):=by omega
  simp [Instr.sliceBound,asIntOf,h]
theorem y7D {len cap : Nat} {lo hi : Option Operand} {f : Nat -> Nat -> OR} (h : y7E len cap (lo.map (ev T)) (hi.map (ev T)) f = .ok v H' n') :
    ∃ l h',l <= h' /\ h' <= cap /\ f l h' = .ok v H' n' /\ ∀ (β : Bm) (w : World) (ρ : Operand -> Value),(∀ x,lo = some x -> VR β (ev T x) (ρ x)) -> (∀ x,hi = some x -> VR β (ev T x) (ρ x)) -> ∀ cap',cap <= cap' -> ∀ b,
      (Instr.sliceBounds b len cap' (lo.map ρ) (hi.map ρ) none).run P w = .ok (l,h',cap') w:=by
  unfold y7E at h
  obtain ⟨l,h1,h2⟩:=x1J h
  obtain ⟨h',h3,h4⟩:=x1J h2
  obtain ⟨h5,h6⟩:=x2R h4
  obtain ⟨h7,h8⟩:=x0D h5
  have a1:=x1E h7
  have a2:=x1E h8
  refine ⟨l,h',a1,a2,h6,fun β w ρ hl hh cap' hc b=> ?_⟩
  cases lo with
  | none =>
    have h1 : some 0 = some l:=h1
    cases h1
    cases hi with
    | none =>
      have h3 : some len = some h':=h3
      cases h3
      simp [Instr.sliceBounds]
    | some y =>
      have h3 : z6R (ev T y) = some h':=h3
      obtain ⟨k,hk⟩:=z2M h3
      have hy:=int_of (β := β) (hk ▸ hh y rfl)
      simp [Instr.sliceBounds,hy,y0B (P:=P) (w:=w) (k:=k) (show h' <= cap' by omega)]
  | some x =>
    have h1 : z6R (ev T x) = some l:=h1
    obtain ⟨k,hk⟩:=z2M h1
    have hx:=int_of (β := β) (hk ▸ hl x rfl)
    cases hi with
    | none =>
      have h3 : some len = some h':=h3
      cases h3
      simp [Instr.sliceBounds,hx,y0B (P:=P) (w:=w) (k:=k) a1]
    | some y =>
      have h3 : z6R (ev T y) = some h':=h3
      obtain ⟨k2,hk2⟩:=z2M h3
      have hy:=int_of (β := β) (hk2 ▸ hh y rfl)
      simp [Instr.sliceBounds,hx,hy,y0B (P:=P) (w:=w) (k:=k) a1,y0B (P:=P) (w:=w) (k:=k2) (show h' <= cap' by omega)]
theorem y3V {o : Option TypeDesc} (h : x9E o = true) : o = some .string:=by
  unfold x9E at h; split at h
  . rfl
  . cases h
theorem v2A {sz : Nat} {a : Addr} {len cap : Nat} {lo hi : Option Operand} (h : slKn sz a len cap (lo.map (ev T)) (hi.map (ev T)) H n = .ok v H' n') :
    H' = H /\ n' = n /\ ∀ (β : Bm) (w : World) (ρ : Operand -> Value),(∀ x,lo = some x -> VR β (ev T x) (ρ x)) -> (∀ x,hi = some x -> VR β (ev T x) (ρ x)) -> ∀ (q : Nat × Nat),a.spot = none -> β a.block = some q -> ∀ b,
      ∃ l h' c,(Instr.sliceBounds b len cap (lo.map ρ) (hi.map ρ) none).run P w = .ok (l,h',cap) w /\ VR β v c /\
        c = .slice (some (if cap = l then (⟨q.1,a.off,none⟩ : Addr) else (⟨q.1,a.off,none⟩ : Addr).add (l * sz))) (h' - l) (cap - l):=by
  unfold slKn at h
  obtain ⟨h0,h⟩:=x2R h
  have hcap : cap < unk:=by have:=x1E h0; unfold unk; omega
  obtain ⟨l,h',a1,a2,h1,h2⟩:=y7D (P:=P) h
  cases h1
  refine ⟨rfl,rfl,fun β w ρ hl hh q hsp hq b=>⟨l,h',_,h2 β w ρ hl hh cap (Nat.le_refl _) b, ?_,rfl⟩⟩
  have hk : cap - l ≠ unk:=by omega
  cases hb : Nat.beq cap l with
  | true =>
    have e : cap = l:=x0S hb
    rw [cond_true,if_pos e]
    obtain ⟨ab,ao,as⟩:=a
    simp only at hsp; subst hsp
    exact .sl ab ao q _ _ _ hq (.inl ⟨rfl,hk⟩)
  | false =>
    have e : ¬ cap = l:=fun e=>by rw [x0R e] at hb; cases hb
    rw [cond_false,if_neg e,x4B]
    exact .sl _ _ q _ _ _ hq (.inl ⟨rfl,hk⟩)
theorem slUnk_ok {sz : Nat} {a : Addr} {len : Nat} {lo hi : Option Operand} (h : slUnk sz a len (lo.map (ev T)) (hi.map (ev T)) H n = .ok v H' n') :
    H' = H /\ n' = n /\ ∀ (β : Bm) (w : World) (ρ : Operand -> Value),(∀ x,lo = some x -> VR β (ev T x) (ρ x)) -> (∀ x,hi = some x -> VR β (ev T x) (ρ x)) -> ∀ (q : Nat × Nat) (cap' : Nat),a.spot = none -> β a.block = some q -> len <= cap' -> (a.off = 0 -> q.2 = cap') -> ∀ b,
      ∃ l h' c,(Instr.sliceBounds b len cap' (lo.map ρ) (hi.map ρ) none).run P w = .ok (l,h',cap') w /\ VR β v c /\
        c = .slice (some (if cap' = l then (⟨q.1,a.off,none⟩ : Addr) else (⟨q.1,a.off,none⟩ : Addr).add (l * sz))) (h' - l) (cap' - l):=by
  unfold slUnk at h
  obtain ⟨l,h',a1,a2,h1,h2⟩:=y7D (P:=P) h
  obtain ⟨ab,ao,as⟩:=a
  cases hb : Nat.beq l 0 with
  | true =>
    rw [hb,cond_true] at h1
    cases h1
    have e : l = 0:=x0S hb
    subst e
    refine ⟨rfl,rfl,fun β w ρ hl hh q cap' hsp hq hle h0 b=>⟨0,h',_,h2 β w ρ hl hh cap' hle b, ?_,rfl⟩⟩
    simp only at hsp; subst hsp
    have : (if cap' = 0 then (⟨q.1,ao,none⟩ : Addr) else (⟨q.1,ao,none⟩ : Addr).add (0 * sz)) = ⟨q.1,ao,none⟩:=by split <;> simp [x4B]
    rw [this]
    simp only [Nat.sub_zero]
    exact .sl ab ao q _ _ _ hq (.inr ⟨rfl,by omega,h0⟩)
  | false =>
    rw [hb,cond_false] at h1
    obtain ⟨h3,h4⟩:=x2R h1
    cases h4
    obtain ⟨h5,h6⟩:=x0D h3
    have e : l ≠ 0:=fun e=>by rw [x0R e] at hb; cases hb
    have hll : l < len:=x1E h5
    have hsz : 1 <= sz:=x1E h6
    refine ⟨rfl,rfl,fun β w ρ hl hh q cap' hsp hq hle h0 b=>⟨l,h',_,h2 β w ρ hl hh cap' hle b, ?_,rfl⟩⟩
    rw [if_neg (by omega),x4B]
    have : 1 <= l * sz:=Nat.mul_pos (by omega) hsz
    exact .sl ab (ao + l * sz) q _ _ _ hq (.inr ⟨rfl,by show h' - l <= cap' - l; omega,fun h=>by omega⟩)
theorem slice_ok {t : TypeId} {x : Operand} {lo hi : Option Operand} (ho : o.op = .slice t x lo hi none) (h : (z8J P t x lo hi).f T H n = .ok v H' n') : OpS P o T H n v H' n':=by
  have hops : ∀ (β : Bm) (ρ : Operand -> Value),(∀ y ∈ o.op.operands,VR β (ev T y) (ρ y)) -> VR β (ev T x) (ρ x) /\ (∀ y,lo = some y -> VR β (ev T y) (ρ y)) /\ (∀ y,hi = some y -> VR β (ev T y) (ρ y)):=fun β ρ hx =>
    ⟨hx x (by simp [ho,Op.operands]),fun y hy=>hx y (by subst hy; simp [ho,Op.operands]),fun y hy=>hx y (by subst hy; simp [ho,Op.operands])⟩
  unfold z8J at h
  cases hstr : x9E (P.underlying t) with
  | true =>
    rw [hstr,cond_true] at h
    have hu:=y3V hstr
    obtain ⟨s,h1,h2⟩:=z2H (x:=ev T x) h
    obtain ⟨l,h',a1,a2,h3,h4⟩:=y7D (P:=P) h2
    cases h3
    refine OpS.same fun β w ρ hx _=> ?_
    obtain ⟨o1,o2,o3⟩:=hops β ρ hx
    have hs:=str_of (β := β) (h1 ▸ o1)
    refine ⟨.string (s.extract l h'), ?_, .string _⟩
    have hb:=h4 β w ρ o2 o3 s.size (Nat.le_refl _) false
    simp [execOp,ho,Instr.sliceAt,Instr.slice,x0M hu,hs,hb]
  | false =>
    rw [hstr,cond_false] at h
    split at h
    . rename_i p hp
      obtain ⟨sz,h1,h2⟩:=x1N h
      obtain ⟨a,h5,h6⟩:=x3Z (x:=ev T x) h2
      obtain ⟨rfl,rfl,h7⟩:=v2A (P:=P) h6
      refine OpS.same fun β w ρ hx _=> ?_
      obtain ⟨o1,o2,o3⟩:=hops β ρ hx
      obtain ⟨b,hsp,hb,hρ⟩:=x7K (β := β) (h5 ▸ o1)
      obtain ⟨l,h',c,r1,r2,r3⟩:=h7 β w ρ o2 o3 b hsp hb false
      refine ⟨c, ?_,r2⟩
      subst r3
      simp [execOp,ho,Instr.sliceAt,x0M (y7N hp),hρ, Instr.sureAddr,r1,x1Y h1]
    . rename_i hp
      obtain ⟨e,h1,h2⟩:=x1N h
      obtain ⟨sz,h3,h4⟩:=x1N h2
      obtain ⟨a,len,cap,h5,h6⟩:=z2J (x:=ev T x) h4
      have hu:=x2G h1
      cases hc : Nat.beq cap unk with
      | true =>
        rw [hc,cond_true] at h6
        obtain ⟨rfl,rfl,h7⟩:=slUnk_ok (P:=P) h6
        refine OpS.same fun β w ρ hx _=> ?_
        obtain ⟨o1,o2,o3⟩:=hops β ρ hx
        obtain ⟨b,k',hsp,hb,hρ, hk⟩:=y3E (β := β) (h5 ▸ o1)
        have hk : len <= k' /\ (a.off = 0 -> b.2 = k'):=by
          rcases hk with ⟨_,e2⟩ | ⟨_,e2,e3⟩
          . exact absurd (x0S hc) e2
          . exact ⟨e2,e3⟩
        obtain ⟨l,h',c,r1,r2,r3⟩:=h7 β w ρ o2 o3 b k' hsp hb hk.1 hk.2 true
        refine ⟨c, ?_,r2⟩
        subst r3
        simp [execOp,ho,Instr.sliceAt,Instr.slice,x0M hu,hρ, r1,x1Y h3]
        split <;> rfl
      | false =>
        rw [hc,cond_false] at h6
        have hne : cap ≠ unk:=fun e=>by rw [x0R e] at hc; cases hc
        obtain ⟨rfl,rfl,h7⟩:=v2A (P:=P) h6
        refine OpS.same fun β w ρ hx _=> ?_
        obtain ⟨o1,o2,o3⟩:=hops β ρ hx
        obtain ⟨b,k',hsp,hb,hρ, hk⟩:=y3E (β := β) (h5 ▸ o1)
        have hk : cap = k':=by
          rcases hk with ⟨e1,_⟩ | ⟨e1,_⟩
          . exact e1
          . exact absurd e1 hne
        subst hk
        obtain ⟨l,h',c,r1,r2,r3⟩:=h7 β w ρ o2 o3 b hsp hb true
        refine ⟨c, ?_,r2⟩
        subst r3
        simp [execOp,ho,Instr.sliceAt,Instr.slice,x0M hu,hρ, r1,x1Y h3]
        split <;> rfl
theorem x4G {t : TypeId} {x y : Value} {b : Bool} {w : World} (h : ∀ k,(Op.equalIn (k + 1) t x y).run P w = .ok b w) : (Op.equal t x y).run P w = .ok b w:=h 9999
theorem eqK_ptr {o : Option TypeDesc} (h : eqK o = .ptr) : ∃ e,o = some (.pointer e):=by
  unfold eqK at h; split at h <;> first | (cases h; done) | exact ⟨_,rfl⟩
theorem v5Q {o : Option TypeDesc} (h : eqK o = .slice) : ∃ e,o = some (.slice e):=by
  unfold eqK at h; split at h <;> first | (cases h; done) | exact ⟨_,rfl⟩
theorem eqK_func {o : Option TypeDesc} (h : eqK o = .func) : ∃ a b c,o = some (.func a b c):=by
  unfold eqK at h; split at h <;> first | (cases h; done) | exact ⟨_,_,_,rfl⟩
theorem v5R {o : Option TypeDesc} (h : eqK o = .iface) : ∃ a,o = some (.interface a):=by
  unfold eqK at h; split at h <;> first | (cases h; done) | exact ⟨_,rfl⟩
theorem z6P {β : Bm} {x : Value} (h : VR β (.pointer none) x) : x = .pointer none:=by cases h; rfl
theorem u4V {β : Bm} {l c : Nat} {x : Value} (h : VR β (.slice none l c) x) : x = .slice none l c:=by cases h; rfl
theorem y9L {β : Bm} {x : Value} (h : VR β .nilFunc x) : x = .nilFunc:=by cases h; rfl
theorem y5L {β : Bm} {x : Value} (h : VR β .nilIface x) : x = .nilIface:=by cases h; rfl
theorem v4T {β : Bm} {f : Fn} {a b : Array Value} {x : Value} (h : VR β (.func f a b) x) : ∃ f' a' b',x = .func f' a' b':=by cases h <;> exact ⟨_,_,_,rfl⟩
theorem u5E {β : Bm} {t : TypeId} {v x : Value} (h : VR β (.iface t v) x) : ∃ v',x = .iface t v':=by cases h; exact ⟨_,rfl⟩
theorem v5N {t : TypeId} {xa ya X Y : Value} {β : Bm} {b : Bool} (h : eqOp (eqK (P.underlying t)) xa ya = some b) (hX : VR β xa X) (hY : VR β ya Y) (w : World) :
    (Op.equal t X Y).run P w = .ok b w /\ (∀ op x y,(eqGuard op t x y X Y).run P w = .ok () w) /\ binOp .eql t X Y = (do pure (.bool (<- Op.equal t X Y))) /\ binOp .neq t X Y = (do pure (.bool (!(<- Op.equal t X Y)))):=by
  cases hk : eqK (P.underlying t) <;> rw [hk] at h
  case other=>unfold eqOp at h; split at h <;> first | (cases h; done) | contradiction
  case ptr =>
    obtain ⟨e,hu⟩:=eqK_ptr hk
    unfold eqOp at h; split at h <;> first | (cases h; done) | contradiction | skip
    . cases h
      obtain ⟨c,_,_,rfl⟩:=x7K hX
      obtain rfl:=z6P hY
      exact ⟨x4G fun k=>by simp [Op.equalIn,x0M hu],fun op x y=>by simp [eqGuard],rfl,rfl⟩
    . cases h
      obtain ⟨c,_,_,rfl⟩:=x7K hY
      obtain rfl:=z6P hX
      exact ⟨x4G fun k=>by simp [Op.equalIn,x0M hu],fun op x y=>by simp [eqGuard],rfl,rfl⟩
  case slice =>
    obtain ⟨e,hu⟩:=v5Q hk
    unfold eqOp at h; split at h <;> first | (cases h; done) | contradiction | skip
    . cases h
      obtain ⟨c,_,_,_,rfl,_⟩:=y3E hX
      obtain rfl:=u4V hY
      exact ⟨x4G fun k=>by simp [Op.equalIn,x0M hu],fun op x y=>by simp [eqGuard],rfl,rfl⟩
    . cases h
      obtain ⟨c,_,_,_,rfl,_⟩:=y3E hY
      obtain rfl:=u4V hX
      exact ⟨x4G fun k=>by simp [Op.equalIn,x0M hu],fun op x y=>by simp [eqGuard],rfl,rfl⟩
  case func =>
    obtain ⟨e1,e2,e3,hu⟩:=eqK_func hk
    unfold eqOp at h; split at h <;> first | (cases h; done) | contradiction | skip
    . cases h
      obtain ⟨_,_,_,rfl⟩:=v4T hX
      obtain rfl:=y9L hY
      exact ⟨x4G fun k=>by simp [Op.equalIn,x0M hu],fun op x y=>by simp [eqGuard],rfl,rfl⟩
    . cases h
      obtain ⟨_,_,_,rfl⟩:=v4T hY
      obtain rfl:=y9L hX
      exact ⟨x4G fun k=>by simp [Op.equalIn,x0M hu],fun op x y=>by simp [eqGuard],rfl,rfl⟩
  case iface =>
    obtain ⟨e,hu⟩:=v5R hk
    unfold eqOp at h; split at h <;> first | (cases h; done) | contradiction | skip
    . cases h
      obtain ⟨_,rfl⟩:=u5E hX
      obtain rfl:=y5L hY
      exact ⟨x4G fun k=>by simp [Op.equalIn,x0M hu],fun op x y=>by simp [eqGuard],rfl,rfl⟩
    . cases h
      obtain ⟨_,rfl⟩:=u5E hY
      obtain rfl:=y5L hX
      exact ⟨x4G fun k=>by simp [Op.equalIn,x0M hu],fun op x y=>by simp [eqGuard],rfl,rfl⟩
theorem evEq_ok {t yt : TypeId} {op : BinOp} {x y : Operand} (ho : o.op = .binOp op t x y yt) (h : evEq P t op (ev T x) (ev T y) H n = .ok v H' n') : OpS P o T H n v H' n':=by
  unfold evEq at h
  obtain ⟨b,h1,h2⟩:=x1J h
  split at h2
  . cases h2
    refine OpS.same fun β w ρ hx _=> ?_
    obtain ⟨r1,r2,r3,_⟩:=v5N (P:=P) h1 (hx x (by simp [ho,Op.operands])) (hx y (by simp [ho,Op.operands])) w
    exact ⟨.bool b,by simp [execOp,ho,r2,r3,r1], .bool b⟩
  . cases h2
    refine OpS.same fun β w ρ hx _=> ?_
    obtain ⟨r1,r2,_,r3⟩:=v5N (P:=P) h1 (hx x (by simp [ho,Op.operands])) (hx y (by simp [ho,Op.operands])) w
    exact ⟨.bool (!b),by simp [execOp,ho,r2,r3,r1], .bool _⟩
  . cases h2
theorem x2V {t yt : TypeId} {op : BinOp} {x y : Operand} (ho : o.op = .binOp op t x y yt) (h : x4F P T H n o op t (ev T x) (ev T y) = .ok v H' n') : OpS P o T H n v H' n':=by
  unfold x4F at h
  cases hp : (cond (plain (ev T x)) (plain (ev T y)) false) with
  | true =>
    rw [hp,cond_true] at h
    obtain ⟨p1,p2⟩:=x0D hp
    refine x3U h (by rw [ho]; simp) fun z hz=> ?_
    simp [ho,Op.operands] at hz
    rcases hz with rfl | rfl <;> assumption
  | false=>rw [hp,cond_false] at h; exact evEq_ok ho h
theorem x3H {x y : Value} {f : Int -> Int -> OR} {els : OR} (h : x3J x y f els = .ok v H' n') : (∃ a b,x = .int .i64 a /\ y = .int .i64 b /\ f a b = .ok v H' n') \/ els = .ok v H' n':=by
  unfold x3J at h; split at h
  . exact .inl ⟨_,_,rfl,rfl,h⟩
  . exact .inr h
theorem y6H {m : Int} {els : OR} (h : y6J m H n els = .ok v H' n') : (v = .int .i64 m /\ IntKind.i64.wrap m = m /\ H' = H /\ n' = n) \/ els = .ok v H' n':=by
  unfold y6J at h
  split at h
  . rename_i m
    cases hb : Nat.ble m 9223372036854775807 with
    | true =>
      rw [hb,cond_true] at h; cases h
      have:=x1E hb
      exact .inl ⟨rfl,IntWalk.i64_in _ (by simp; omega),rfl,rfl⟩
    | false=>rw [hb,cond_false] at h; exact .inr h
  . rename_i m
    cases hb : Nat.ble m 9223372036854775807 with
    | true =>
      rw [hb,cond_true] at h; cases h
      have:=x1E hb
      exact .inl ⟨rfl,IntWalk.i64_in _ (by omega),rfl,rfl⟩
    | false=>rw [hb,cond_false] at h; exact .inr h
theorem x7B {t yt : TypeId} {op : BinOp} {x y : Operand} (ho : o.op = .binOp op t x y yt) {a b : Int} (hx : ev T x = .int .i64 a) (hy : ev T y = .int .i64 b) {u : Value} (hu : plain u = true)
    (hr : ∀ w : World,(binOp op t (.int .i64 a) (.int .i64 b)).run P w = .ok u w) : OpS P o T H n u H n:=by
  refine OpS.same fun β w ρ hρ _=>⟨u, ?_,x4Z hu⟩
  have e1:=int_of (β := β) (hx ▸ hρ x (by simp [ho,Op.operands]))
  have e2:=int_of (β := β) (hy ▸ hρ y (by simp [ho,Op.operands]))
  have hg : (eqGuard op t x y (.int .i64 a) (.int .i64 b)).run P w = .ok () w:=by
    unfold eqGuard
    split <;> simp
  simp [execOp,ho,e1,e2,hg,hr w]
theorem binOp_ok {t yt : TypeId} {op : BinOp} {x y : Operand} (ho : o.op = .binOp op t x y yt) (h : (y2Z P o t x y op).f T H n = .ok v H' n') : OpS P o T H n v H' n':=by
  unfold y2Z at h
  split at h
  . rcases x3H h with ⟨a,b,hx,hy,h1⟩ | h1
    . rcases y6H h1 with ⟨rfl,h2,rfl,rfl⟩ | h2
      . exact x7B ho hx hy rfl fun w=>by simp [binOp,Op.intArith,h2]
      . exact x2V ho h2
    . exact x2V ho h1
  . rcases x3H h with ⟨a,b,hx,hy,h1⟩ | h1
    . rcases y6H h1 with ⟨rfl,h2,rfl,rfl⟩ | h2
      . exact x7B ho hx hy rfl fun w=>by simp [binOp,Op.intArith,h2]
      . exact x2V ho h2
    . exact x2V ho h1
  . rcases x3H h with ⟨a,b,hx,hy,h1⟩ | h1
    . rcases y6H h1 with ⟨rfl,h2,rfl,rfl⟩ | h2
      . exact x7B ho hx hy rfl fun w=>by simp [binOp,Op.intArith,h2]
      . exact x2V ho h2
    . exact x2V ho h1
  . rcases x3H h with ⟨a,b,hx,hy,h1⟩ | h1
    . cases h1; exact x7B ho hx hy rfl fun w=>by simp [binOp,Op.intCmp]
    . exact x2V ho h1
  . rcases x3H h with ⟨a,b,hx,hy,h1⟩ | h1
    . cases h1; exact x7B ho hx hy rfl fun w=>by simp [binOp,Op.intCmp]
    . exact x2V ho h1
  . rcases x3H h with ⟨a,b,hx,hy,h1⟩ | h1
    . cases h1; exact x7B ho hx hy rfl fun w=>by simp [binOp,Op.intCmp]
    . exact x2V ho h1
  . rcases x3H h with ⟨a,b,hx,hy,h1⟩ | h1
    . cases h1; exact x7B ho hx hy rfl fun w=>by simp [binOp,Op.intCmp]
    . exact x2V ho h1
  . rcases x3H h with ⟨a,b,hx,hy,h1⟩ | h1
    . cases h1; exact x7B ho hx hy rfl fun w=>by simp [binOp,Op.intCmp]
    . exact x2V ho h1
  . rcases x3H h with ⟨a,b,hx,hy,h1⟩ | h1
    . cases h1; exact x7B ho hx hy rfl fun w=>by simp [binOp,Op.intCmp]
    . exact x2V ho h1
  . exact x2V ho h
theorem z3R (x : Value) (l : List Value) : x4U (x :: l) = (match x with | .int .u8 n=>(x4U l).map fun r=>UInt8.ofNat n.toNat :: r | _=>none):=rfl
theorem y7A {β : Bm} : ∀ {l m : List Value} {bs : List UInt8}, x4U l = some bs -> VL β l m -> ∃ ns : List Int,m = ns.map (Value.int .u8) /\ bs = ns.map fun n=>UInt8.ofNat n.toNat
  | _,_,bs,h, .nil=>by cases h; exact ⟨[],rfl,rfl⟩
  | x :: l,y :: m,bs,h, .cons a b=>by
    rw [z3R] at h
    split at h
    . rename_i k
      cases h1 : x4U l with
      | none=>rw [h1] at h; cases h
      | some r =>
        rw [h1] at h; cases h
        obtain ⟨ns,e1,e2⟩:=y7A h1 b
        exact ⟨k :: ns,by rw [int_of a,e1]; rfl,by rw [e2]; rfl⟩
    . cases h
theorem y9U : ∀ (ns : List Int) (s : ByteArray),(ns.foldl (fun r n=>r.push (UInt8.ofNat n.toNat)) s).data = s.data ++ (ns.map fun n=>UInt8.ofNat n.toNat).toArray
  | [],s=>by simp
  | n :: ns,s=>by
    rw [List.foldl_cons,y9U ns]
    simp [ByteArray.push]
theorem v4F {o : Option TypeDesc} (h : isU8 o = true) : o = some (.int .u8):=by
  unfold isU8 at h; split at h
  . rfl
  . cases h
theorem v0H {s d : TypeId} {x : Operand} (ho : o.op = .convert s d x) (h : (x4A P o s d x).f T H n = .ok v H' n') : OpS P o T H n v H' n':=by
  have pl : ∀ {v : Value} {H' : Hp} {n' : Nat}, chk (plain (ev T x)) (x0V P T H n o) = .ok v H' n' -> OpS P o T H n v H' n':=fun h=>by
    obtain ⟨h1,h2⟩:=x2R h
    exact x3U h2 (by rw [ho]; simp) fun z hz=>by simp [ho,Op.operands] at hz; subst hz; exact h1
  unfold x4A at h
  cases hs : x9E (P.underlying d) with
  | false =>
    rw [hs,cond_false] at h
    split at h
    . rename_i e he; exact u7D ho (x2G he) h
    . exact pl h
  | true =>
    rw [hs,cond_true] at h
    split at h
    . rename_i e he
      obtain ⟨h1,h2⟩:=x4N h
      have h2 : v3B (ev T x) _ _ = .ok v H' n':=h2
      unfold v3B at h2
      split at h2
      . rename_i a len cp hx0
        obtain ⟨p,h3,h4⟩:=x1J h2
        obtain ⟨r,h5,h6⟩:=x1J h4
        obtain ⟨bs,h7,h8⟩:=x1J h6
        cases h8
        refine OpS.same fun β w ρ hx hW=> ?_
        obtain ⟨b,k',hsp,hb,hρ, _⟩:=y3E (β := β) (hx0 ▸ hx x (by simp [ho,Op.operands]))
        obtain ⟨c,l',rest,fz,e1,e2,e3,_,_⟩:=hW.cells h3 hb
        obtain ⟨r',q1,q2,q3⟩:=part_at e2 e3 h5
        obtain ⟨ns,rfl,rfl⟩:=y7A h7 q1
        have hrun:=run_bytesToString (P:=P) w ⟨b.1,a.off,none⟩ len k' ns (x6G e1 a.off _ len q2 q3)
        refine ⟨_, ?_, .string _⟩
        simp only [execOp,ho,hρ, Sem.run_bind,run_convert_bytes_string w s d e _ _ _ (x2G he) (v4F h1) (y3V hs),hrun,Result.andThen_ok,Sem.run_pure]
        congr 3
        apply ByteArray.ext
        have e0 : ByteArray.empty.data = #[]:=rfl
        rw [y9U,e0]
        simp
      . exact pl h2
    . exact pl h
theorem u2S : ∀ {l : List Operand}, allX T l = true -> ∀ x ∈ l,plain (ev T x) = true
  | [],_,_,hx=>by cases hx
  | y :: l,h,x,hx=>by
    have h' : cond (plain (ev T y)) (allX T l) false = true:=h
    obtain ⟨h1,h2⟩:=x0D h'
    rcases List.mem_cons.1 hx with rfl | hx
    . exact h1
    . exact u2S h2 x hx
theorem len_ok {args : Array Operand} {ts : Array TypeId} {t : TypeId} {x : Operand} (ho : o.op = .call { callee:= .builtin .len,args,argTypes:=ts }) (ha : args.toList = [x]) (ht : ts.toList = [t])
    (h : (cLen P o t x).f T H n = .ok v H' n') : OpS P o T H n v H' n':=by
  obtain rfl : args = #[x]:=Array.ext' ha
  obtain rfl : ts = #[t]:=Array.ext' ht
  unfold cLen at h
  split at h
  . rename_i e he
    have h : (match ev T x with | .slice _ k _=>OR.ok (.int .i64 k) H n | _=> .bad) = .ok v H' n':=h
    split at h
    . rename_i a k c hx0
      cases h
      refine OpS.same fun β w ρ hx _=>⟨.int .i64 k, ?_, .int _ _⟩
      have hr:=hx x (by simp [ho,Op.operands,Call.operands])
      rw [hx0] at hr
      have : ∃ a' c', ρ x = .slice a' k c':=by
        generalize ρ x = y at hr
        cases hr <;> exact ⟨_,_,rfl⟩
      obtain ⟨a',c',hρ⟩:=this
      simp [execOp,ho,resolve,invoke,builtin,Builtin.len_,hρ, x0M (x2G he),goInt]
    . cases h
  . obtain ⟨h1,h2⟩:=x2R (b:=plain (ev T x)) (x:=x0V P T H n o) h
    exact x3U h2 (by rw [ho]; simp) fun z hz=>by simp [ho,Op.operands,Call.operands] at hz; subst hz; exact h1
theorem v0Q {b : Builtin} {args : Array Operand} {ts : Array TypeId} (ho : o.op = .call { callee:= .builtin b,args,argTypes:=ts }) (h : (x7F P o args.toList ts.toList b).f T H n = .ok v H' n') : OpS P o T H n v H' n':=by
  unfold x7F at h
  split at h
  . split at h
    . rename_i x t ha ht
      exact len_ok ho ha ht h
    . cases h
  . split at h
    . rename_i s x st xt ha ht
      exact v6V ⟨args,ts,ho,ha,ht⟩ h
    . cases h
  . obtain ⟨h1,h2⟩:=x2R (b:=allX T args.toList) (x:=x0V P T H n o) h
    exact x3U h2 (by rw [ho]; simp) fun z hz=>u2S h1 z (by simpa [ho,Op.operands,Call.operands] using hz)
  . obtain ⟨h1,h2⟩:=x2R (b:=allX T args.toList) (x:=x0V P T H n o) h
    exact x3U h2 (by rw [ho]; simp) fun z hz=>u2S h1 z (by simpa [ho,Op.operands,Call.operands] using hz)
  . cases h
theorem range_ok {t : TypeId} {x : Operand} (ho : o.op = .range t x) (h : (u6H P t x).f T H n = .ok v H' n') : OpS P o T H n v H' n':=by
  obtain ⟨h1,h2⟩:=x4N h
  obtain ⟨s,h3,h4⟩:=z2H h2
  cases h4
  refine ⟨Nat.le_succ n,fun i hi h0=>by rw [x0E,if_neg (by omega)]; exact h0,fun β w ρ hx hW hf=> ?_⟩
  have hn:=hf n (Nat.le_refl _) (Nat.lt_succ_self n)
  have hρ : ρ x = .string s:=str_of (β := β) (h3 ▸ hx x (by simp [ho,Op.operands]))
  refine ⟨.value (.pointer (some ⟨w.heap.size, 0,none⟩)),_,_,_, ?_,rfl, .ptr _ _ (w.heap.size, 0) (x1F _ _ _),Ext.new hW hn (.iter s 0)⟩
  simp [execOp,ho,hρ, Instr.range,x0M (y3V h1)]
theorem v4B {o : Option AObj} {p : ByteArray × Nat} (h : u5C o = some p) : o = some (.iter p.1 p.2):=by
  unfold u5C at h; split at h
  . cases h; rfl
  . cases h
theorem y4V {w : World} {r : Nat} {s : ByteArray} {p : Nat} (hb : w.heap[r]? = some (.stringIter s p)) : (getObj r).run P w = .ok (.stringIter s p) w:=by simp [getObj,Sem.run,hb]
theorem z9Q {w : World} {r : Nat} {s : ByteArray} {p : Nat} (o : Obj) (hb : w.heap[r]? = some (.stringIter s p)) : (setObj r o).run P w = .ok () { w with heap:=w.heap.setIfInBounds r o } :=by simp [setObj,Sem.run,hb]
theorem next_ok {it : Operand} (ho : o.op = .next it true) (h : (cNext it).f T H n = .ok v H' n') : OpS P o T H n v H' n':=by
  obtain ⟨a,h1,h2⟩:=x3Z (x:=ev T it) h
  obtain ⟨h3,h4⟩:=x2R h2
  obtain ⟨p,h5,h6⟩:=x1J h4
  have hg:=v4B h5
  have h3:=x0S h3
  unfold v3M at h6
  cases hb : Nat.ble (Nat.succ p.2) p.1.size with
  | true =>
    rw [hb,cond_true] at h6
    cases h6
    have hlt : p.2 < p.1.size:=x1E hb
    refine ⟨Nat.le_refl _,fun i _ h0=> ?_,fun β w ρ hx hW _=> ?_⟩
    . rw [x0E]; split
      . rename_i e; subst e; rw [hg] at h0; cases h0
      . exact h0
    . obtain ⟨b,hsp,hbb,hρ⟩:=x7K (β := β) (h1 ▸ hx it (by simp [ho,Op.operands]))
      obtain ⟨q,e1,e2⟩:=hW.at hg hbb
      cases e2
      refine ⟨.value (.tuple #[.bool true, .int .i64 p.2, .int .i32 (Utf8.decode p.1 p.2).1]),_, { w with heap:=w.heap.setIfInBounds b.1 (.stringIter p.1 (p.2 + (Utf8.decode p.1 p.2).2)) }, β, ?_,rfl,x4Z rfl, ?_⟩
      . simp [execOp,ho,hρ, h3,Instr.next,y4V e1,z9Q _ e1,hlt,goInt]
      . have hsz : b.1 < w.heap.size:=(Array.getElem?_eq_some_iff.1 e1).1
        refine Ext.turn hW hg hbb (by simp) (by simp) (by simp) (q:= .stringIter p.1 (p.2 + (Utf8.decode p.1 p.2).2)) (by simp [hsz]) (fun c hc=>Array.getElem?_setIfInBounds_ne (fun e=>hc e.symm)) (.iter _ _) rfl rfl rfl
  | false =>
    rw [hb,cond_false] at h6
    cases h6
    have hlt : ¬ p.2 < p.1.size:=fun hl=>by rw [Nat.ble_eq_true_of_le hl] at hb; cases hb
    refine OpS.same fun β w ρ hx hW=> ?_
    obtain ⟨b,hsp,hbb,hρ⟩:=x7K (β := β) (h1 ▸ hx it (by simp [ho,Op.operands]))
    obtain ⟨q,e1,e2⟩:=hW.at hg hbb
    cases e2
    exact ⟨.tuple #[.bool false],by simp [execOp,ho,hρ, h3,Instr.next,y4V e1,hlt],x4Z rfl⟩
theorem op_sound (h : (x0N P o).f T H n = .ok v H' n') : OpS P o T H n v H' n':=by
  unfold x0N at h
  split at h
  . rename_i x ho; cases h; exact move_ok ho
  . rename_i x ho; cases h; exact v6T ho
  . rename_i ho; exact pick_ok ho h
  . rename_i ho; exact alloc_ok ho h
  . rename_i ho; cases h; exact box_ok ho
  . rename_i ho; exact build_ok ho h
  . rename_i ho; exact z3S ho h
  . rename_i ho; exact load_ok ho h
  . rename_i ho; exact store_ok ho h
  . rename_i ho; exact u0G ho h
  . rename_i ho; exact makeI_ok ho h
  . rename_i ho; cases h; exact u0L ho
  . rename_i ho; exact z6S ho h
  . rename_i ho; exact slice_ok ho h
  . rename_i ho; exact z7E ho h
  . rename_i ho; exact field_ok ho h
  . rename_i ho; exact z6V ho h
  . rename_i ho; exact u8V ho h
  . rename_i ho; exact v0Q ho h
  . rename_i ho; exact v0H ho h
  . rename_i ho; exact binOp_ok ho h
  . rename_i x ho
    obtain ⟨h1,h2⟩:=x2R (b:=plain (ev T x)) (x:=x0V P T H n o) h
    exact x3U h2 (by rw [ho]; simp) fun z hz=>by simp [ho,Op.operands] at hz; subst hz; exact h1
  . rename_i t x i ho
    obtain ⟨h1,h2⟩:=x2R (b:=cond (plain (ev T x)) (plain (ev T i)) false) (x:=x0V P T H n o) h
    obtain ⟨p1,p2⟩:=x0D h1
    exact x3U h2 (by rw [ho]; simp) fun z hz=>by simp [ho,Op.operands] at hz; rcases hz with rfl | rfl <;> assumption
  . rename_i ho; exact range_ok ho h
  . rename_i ho; exact next_ok ho h
  . cases h
end
end Go.Xec
