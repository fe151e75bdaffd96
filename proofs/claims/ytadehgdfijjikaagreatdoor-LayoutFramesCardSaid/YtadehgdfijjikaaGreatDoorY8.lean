/-
  THE PURE EXECUTOR: writes and appends, beside the executor's.; THE PURE EXECUTOR: one operation of a region, with its guards; calls.
-/
import Derived.Test.YtadehgdfijjikaaGreatDoorY7
set_option linter.all false
namespace Go.Yec
open Go Go.Xec
variable [GT]
section
variable {D : Type} {V : D -> List (PV D)} {μ : Mu} {H : Hp} {P : Program} {o : Oper} {T : Tm} {ρ : Yd -> PV D} {X : Nat -> Prop} {B : Bt D} {m n : Nat}
theorem wr_kind {q : YOp} (hc : x1T P o.op = some q) {i0 : Nat} {b0 : Blk D} (h : opR B ρ q = OpR.wr i0 b0) : ∃ t a v k a' b',o.op = .store t a v /\ x1G P t = some k /\ ydO a = some a' /\ ydO v = some b' /\ q = .st k a' b':=by
  rcases x3D hc with h1 | h1 | h1 | ⟨e,x,h1⟩ | ⟨e,h1⟩ | ⟨t,len,ps,h1⟩ | ⟨t,a,w,h1⟩ | ⟨args,ts,h1⟩ | h1
  . have:=y9H (B:=B) (ρ := ρ) q h1; rw [h] at this; cases this
  . obtain ⟨t,a,h1⟩:=h1
    rw [h1] at hc
    obtain ⟨_,_,h2⟩:=x0A hc
    obtain ⟨k,_,h3⟩:=x0A h2
    obtain ⟨y,_,rfl⟩:=x0G h3
    have h : ldR B k (x1X (P.underlying t)) (ρ y) = OpR.wr i0 b0:=h
    rcases y5S (B:=B) k (x1X (P.underlying t)) (ρ y) with ⟨i',b',h4⟩ | h4 <;> rw [h4] at h <;> cases h
  . obtain ⟨s,d,x,e0,h1,_,_,_,h2⟩:=h1
    obtain ⟨y,_,rfl⟩:=x0G h2
    have h : (match ρ y with
      | .lsl i=>match bget B i with
        | some (_, .rowI _ k l)=>cond (ikeq k .u8) (.ld (some i) (.str (x1M l))) .bad
        | _=> .bad
      | _=>(.bad : OpR D)) = OpR.wr i0 b0:=h
    split at h
    . split at h
      . cases hk : ikeq _ .u8 <;> rw [hk] at h <;> cases h
      . cases h
    . cases h
  . rw [h1] at hc
    obtain ⟨a,_,rfl⟩:=x0G (show y1 (.box e) x = some q from hc)
    have h : cond (y3F (ρ a)) (OpR.mk (z8R e (ρ a)) (fun i=> .lptr i 0)) .bad = OpR.wr i0 b0:=h
    cases hb : y3F (ρ a) <;> rw [hb] at h <;> cases h
  . rw [h1] at hc
    have hc : yAlloc P e = some q:=hc
    unfold yAlloc at hc
    obtain ⟨z,_,h2⟩:=x0A hc
    obtain ⟨cs,_,h4⟩:=x0A h2
    cases harr : x1U P e <;> rw [harr] at h4
    . cases h4; cases h
    . rw [cond_true] at h4
      split at h4
      . obtain ⟨l,_,rfl⟩:=x0C h4; cases h
      . cases h4; cases h
      . cases h4
  . rw [h1] at hc
    have hc : x1C P t len ps.toList = some q:=hc
    unfold x1C at hc
    obtain ⟨e,_,h2⟩:=x0A hc
    obtain ⟨k,_,h3⟩:=x0A h2
    obtain ⟨ys,_,h4⟩:=x0A h3
    obtain ⟨_,h5⟩:=x0B h4
    cases h5
    have h : Option.casesOn (motive:=fun _=>OpR D) (bslL k (ys.map fun p=>(p.1, ρ p.2)) (repI len)) .bad (fun l=> .mk (.rowI e k l) (fun i=> .lsl i)) = OpR.wr i0 b0:=h
    cases hb : bslL k (ys.map fun p=>(p.1, ρ p.2)) (repI len) <;> rw [hb] at h <;> cases h
  . have ho:=h1
    rw [h1] at hc
    obtain ⟨k,h3,h2⟩:=x0A hc
    obtain ⟨a',b',h4,h5,rfl⟩:=x0T h2
    exact ⟨t,a,w,k,a',b',ho,h3,h4,h5,rfl⟩
  . rw [h1] at hc
    have hc : x1B P .append args.toList ts.toList = some q:=hc
    unfold x1B at hc
    split at hc <;> first | (rename_i hh _ _; cases hh; done) | (rename_i hh _; cases hh; done) | (cases hc; done) | skip
    obtain ⟨_,_,h2⟩:=x0A hc
    obtain ⟨_,_,h3⟩:=x0A h2
    obtain ⟨_,_,h4⟩:=x0A h3
    obtain ⟨_,_,h5⟩:=x0A h4
    obtain ⟨a',b',_,_,rfl⟩:=x0T h5
    rcases x9B (B:=B) _ (ρ a') (ρ b') with ⟨c,i,b2,h6⟩ | h6
    . have h : appR B _ (ρ a') (ρ b') = OpR.wr i0 b0:=h
      rw [h6] at h; cases h
    . have h : appR B _ (ρ a') (ρ b') = OpR.wr i0 b0:=h
      rw [h6] at h; cases h
  . obtain ⟨s,d,x,e0,_,_,_,h4⟩:=h1
    rcases h4 with ⟨_,h5⟩ | ⟨e',_,_,_,h5⟩
    . obtain ⟨a,_,rfl⟩:=x0G h5
      have h : x1Z (ρ a) (fun s=>OpR.mk (.rowI e0 .u8 (x0Q s)) (fun i=> .lsl i)) = OpR.wr i0 b0:=h
      unfold x1Z at h
      split at h <;> cases h
    . obtain ⟨a,_,rfl⟩:=x0G h5
      have h : (match ρ a with
        | .lsl i=>match bget B i with
          | some (_, .rowI _ _ (_ :: _))=> .ld (some i) (.lsl i)
          | _=> .bad
        | _=>(.bad : OpR D)) = OpR.wr i0 b0:=h
      split at h
      . split at h <;> cases h
      . cases h
theorem ap_kind {q : YOp} (hc : x1T P o.op = some q) {c0 : Bool} {i0 : Option Nat} {b0 : Blk D} (h : opR B ρ q = OpR.ap c0 i0 b0) : ∃ args ts s x st xt e e' k k' a b,o.op = .call { callee:= .builtin .append,args:=args,argTypes:=ts } /\ args.toList = [s,x] /\ ts.toList = [st,xt] /\ x2N (P.underlying st) = some e /\ x2N (P.underlying xt) = some e' /\ x2T P e = some k /\ x2T P e' = some k' /\ ydO s = some a /\ ydO x = some b /\ q = .app e a b:=by
  rcases x3D hc with h1 | h1 | h1 | ⟨e,x,h1⟩ | ⟨e,h1⟩ | ⟨t,len,ps,h1⟩ | ⟨t,a,w,h1⟩ | ⟨args,ts,h1⟩ | h1
  . have:=y9H (B:=B) (ρ := ρ) q h1; rw [h] at this; cases this
  . obtain ⟨t,a,h1⟩:=h1
    rw [h1] at hc
    obtain ⟨_,_,h2⟩:=x0A hc
    obtain ⟨k,_,h3⟩:=x0A h2
    obtain ⟨y,_,rfl⟩:=x0G h3
    have h : ldR B k (x1X (P.underlying t)) (ρ y) = OpR.ap c0 i0 b0:=h
    rcases y5S (B:=B) k (x1X (P.underlying t)) (ρ y) with ⟨i',b',h4⟩ | h4 <;> rw [h4] at h <;> cases h
  . obtain ⟨s,d,x,e0,h1,_,_,_,h2⟩:=h1
    obtain ⟨y,_,rfl⟩:=x0G h2
    have h : (match ρ y with
      | .lsl i=>match bget B i with
        | some (_, .rowI _ k l)=>cond (ikeq k .u8) (.ld (some i) (.str (x1M l))) .bad
        | _=> .bad
      | _=>(.bad : OpR D)) = OpR.ap c0 i0 b0:=h
    split at h
    . split at h
      . cases hk : ikeq _ .u8 <;> rw [hk] at h <;> cases h
      . cases h
    . cases h
  . rw [h1] at hc
    obtain ⟨a,_,rfl⟩:=x0G (show y1 (.box e) x = some q from hc)
    have h : cond (y3F (ρ a)) (OpR.mk (z8R e (ρ a)) (fun i=> .lptr i 0)) .bad = OpR.ap c0 i0 b0:=h
    cases hb : y3F (ρ a) <;> rw [hb] at h <;> cases h
  . rw [h1] at hc
    have hc : yAlloc P e = some q:=hc
    unfold yAlloc at hc
    obtain ⟨z,_,h2⟩:=x0A hc
    obtain ⟨cs,_,h4⟩:=x0A h2
    cases harr : x1U P e <;> rw [harr] at h4
    . cases h4; cases h
    . rw [cond_true] at h4
      split at h4
      . obtain ⟨l,_,rfl⟩:=x0C h4; cases h
      . cases h4; cases h
      . cases h4
  . rw [h1] at hc
    have hc : x1C P t len ps.toList = some q:=hc
    unfold x1C at hc
    obtain ⟨e,_,h2⟩:=x0A hc
    obtain ⟨k,_,h3⟩:=x0A h2
    obtain ⟨ys,_,h4⟩:=x0A h3
    obtain ⟨_,h5⟩:=x0B h4
    cases h5
    have h : Option.casesOn (motive:=fun _=>OpR D) (bslL k (ys.map fun p=>(p.1, ρ p.2)) (repI len)) .bad (fun l=> .mk (.rowI e k l) (fun i=> .lsl i)) = OpR.ap c0 i0 b0:=h
    cases hb : bslL k (ys.map fun p=>(p.1, ρ p.2)) (repI len) <;> rw [hb] at h <;> cases h
  . rw [h1] at hc
    obtain ⟨k,_,h2⟩:=x0A hc
    obtain ⟨a',b',_,_,rfl⟩:=x0T h2
    have h : stR B k (ρ b') (ρ a') = OpR.ap c0 i0 b0:=h
    rcases y1B (B:=B) k (ρ b') (ρ a') with ⟨i,b2,h3⟩ | h3 <;> rw [h3] at h <;> cases h
  . rw [h1] at hc
    have hc : x1B P .append args.toList ts.toList = some q:=hc
    unfold x1B at hc
    split at hc <;> first | (rename_i hh _ _; cases hh; done) | (rename_i hh _; cases hh; done) | (cases hc; done) | skip
    rename_i s x st xt hq ha ht
    obtain ⟨e,q1,h2⟩:=x0A hc
    obtain ⟨e',q2,h3⟩:=x0A h2
    obtain ⟨k,q3,h4⟩:=x0A h3
    obtain ⟨k',q4,h5⟩:=x0A h4
    obtain ⟨a',b',q5,q6,rfl⟩:=x0T h5
    exact ⟨args,ts,s,x,st,xt,e,e',k,k',a',b',h1,ha,ht,q1,q2,q3,q4,q5,q6,rfl⟩
  . obtain ⟨s,d,x,e0,_,_,_,h4⟩:=h1
    rcases h4 with ⟨_,h5⟩ | ⟨e',_,_,_,h5⟩
    . obtain ⟨a,_,rfl⟩:=x0G h5
      have h : x1Z (ρ a) (fun s=>OpR.mk (.rowI e0 .u8 (x0Q s)) (fun i=> .lsl i)) = OpR.ap c0 i0 b0:=h
      unfold x1Z at h
      split at h <;> cases h
    . obtain ⟨a,_,rfl⟩:=x0G h5
      have h : (match ρ a with
        | .lsl i=>match bget B i with
          | some (_, .rowI _ _ (_ :: _))=> .ld (some i) (.lsl i)
          | _=> .bad
        | _=>(.bad : OpR D)) = OpR.ap c0 i0 b0:=h
      split at h
      . split at h <;> cases h
      . cases h
def WrR (P : Program) (o : Oper) (T : Tm) (V : D -> List (PV D)) (μ : Mu) (B : Bt D) (H : Hp) (n : Nat) (M : Nat -> Prop) (i : Nat) (b : Blk D) : Prop :=
  ∃ x len xl e s b0, μ i = some (some x,len) /\ bget B i = some (s,b0) /\ (x0N P o).f T H n = .ok undef (hset H x (.cells xl e)) n /\ ∀ μ' H' M',Keep μ H M μ' H' M' -> hget H' x = some (.cells xl e) -> BlkR V μ' H' M' (some x) len b
variable (hρ : OpdR V μ H (MX X μ B) T ρ) (hr : HR V X μ B m H n)
include hρ hr
theorem wr_got {q : YOp} (hc : x1T P o.op = some q) {i : Nat} {b : Blk D} (h : opR B ρ q = .wr i b) : WrR P o T V μ B H n (MX X μ B) i b:=by
  obtain ⟨t,a,v,k,a',b',ho,hk,ha,hv,rfl⟩:=wr_kind hc h
  have h : stR B k (ρ b') (ρ a') = .wr i b:=h
  have hra:=hρ a a' ha
  have hrv:=hρ v b' hv
  have hcc : (x0N P o).f T H n = x5Z (ev T a) fun ad=>chk (cond (Nat.beq (ev T v).cells.toList.length k) (all1 (ev T v).cells.toList) false) (x7R H n ad.block ad.off (ev T v).cells.toList undef):=by
    have : (x0N P o).f T H n = (u6G P t a v).f T H n:=by unfold x0N; rw [ho]
    rw [this]
    unfold u6G
    rw [hk]
    rfl
  unfold stR at h
  split at h
  . rename_i j off hb
    rw [hb] at hra
    split at h
    . rename_i s l hbk
      cases hcd : cond (Nat.beq (x2X (ρ b')).length k) (x5E (x2X (ρ b'))) false with
      | false=>rw [hcd] at h; cases h
      | true =>
        rw [hcd,cond_true] at h
        obtain ⟨h1,h2⟩:=x0D hcd
        obtain ⟨l',h3,h4⟩:=x0W (z:=(OpR.bad : OpR D)) h (by simp)
        cases h4
        obtain ⟨x,len,xl,e,e1,e2,e3⟩:=hr.cells hbk
        obtain ⟨x',len',e4,e5⟩:=x9Q hra
        obtain ⟨rfl,rfl⟩:=mu_eq e1 e4
        obtain ⟨r1,r2⟩:=y1X hrv h2
        obtain ⟨xl',e6,e7⟩:=y3K off h3 e3 r1
        refine ⟨x,len,xl',e,s,_,e1,hbk, ?_,fun μ' H' M' hk' hg=> .cells x len _ _ e hg (e7.keep hk')⟩
        rw [hcc,e5]
        show chk (cond (Nat.beq (ev T v).cells.toList.length k) (all1 (ev T v).cells.toList) false) (x7R H n x off (ev T v).cells.toList undef) = _
        rw [<- r1.length,h1,r2]
        show onO (cellsOf (hget H x)) _ = _
        rw [e2]
        show onO (x6V xl off (ev T v).cells.toList) _ = _
        rw [e6]
        rfl
    . cases h
  . rename_i j ix hb
    rw [hb] at hra
    split at h
    . rename_i s e k' l k2 y hbk hy
      rw [hy] at hrv
      have hvv:=hrv.int_of
      cases hcd : cond (ikeq k' k2) (Nat.beq k 1) false with
      | false=>rw [hcd] at h; cases h
      | true =>
        rw [hcd] at h
        cases h
        obtain ⟨h1,h2⟩:=x0D hcd
        obtain rfl:=x4K h1
        obtain rfl:=x0S h2
        generalize hz : ev T a = z at hra
        cases hra with
        | lelt _ _ x len hm h0 hlt =>
          obtain ⟨_,ox,len',e1,e2⟩:=hr.blk i s _ hbk
          rw [hm] at e1; cases e1
          cases e2 with
          | rowI _ _ _ _ hg =>
            refine ⟨x,l.length,(v4C l ix y).map (Value.int k'),e,s,_,hm,hbk, ?_,fun μ' H' M' hk' hg'=> ?_⟩
            . rw [hcc,hz,hvv]
              show x7R H n x ix.toNat [.int k' y] undef = _
              unfold x7R
              show onO (cellsOf (hget H x)) _ = _
              rw [hg]
              show onO (x6V (l.map (Value.int k')) ix.toNat [.int k' y]) _ = _
              rw [y4T _ _ _ (by simpa using hlt), <- List.map_set]
              rfl
            . have:=BlkR.rowI (V:=V) (μ := μ') (H:=H') (M:=M') x e k' (v4C l ix y) hg'
              have hl : (v4C l ix y).length = l.length:=by unfold v4C; simp
              rw [hl] at this
              exact this
    . cases h
  . cases h
def ApR (P : Program) (o : Oper) (T : Tm) (V : D -> List (PV D)) (μ : Mu) (B : Bt D) (H : Hp) (n : Nat) (oi : Option Nat) (b : Blk D) : Prop :=
  ∃ xl e len c H',(x0N P o).f T H n = .ok (.slice (some ⟨n, 0,none⟩) len c) H' (n + 1) /\ (c = unk \/ c = len) /\ hget H' n = some (.cells xl e) /\
    (∀ y,y ≠ n -> (∀ i x l,oi = some i -> μ i = some (some x,l) -> y ≠ x) -> hget H' y = hget H y) /\ (∀ i,oi = some i -> ∃ s b,bget B i = some (s,b)) /\ ∀ μ' H2 M',hget H2 n = some (.cells xl e) -> BlkR V μ' H2 M' (some n) len b
theorem ap_got {q : YOp} (hc : x1T P o.op = some q) {ck : Bool} {oi : Option Nat} {b : Blk D} (h : opR B ρ q = .ap ck oi b) (hck : ck = true) : ApR P o T V μ B H n oi b:=by
  obtain ⟨args,ts,s,x,st,xt,e,e',k,k2,a,b',ho,h1,h2,h3,h4,h5,h6,h7,h8,rfl⟩:=ap_kind hc h
  have h : appR B e (ρ a) (ρ b') = .ap ck oi b:=h
  have hrs:=hρ s a h7
  have hrx:=hρ x b' h8
  obtain ⟨i,c1,c2,c3,c4,c5,c6,c7⟩:=y1K h5
  have hall : ∀ (k : IntKind) (l : List Int),all1 (l.map (Value.int k)) = true:=fun k l=>by
    induction l with
    | nil=>rfl
    | cons x l ih=>exact ih
  have hcc : (x0N P o).f T H n = onO (lenS (ev T x)) fun kk => onO (x5U H 1 (ev T x)) fun new => chk (cond (all1 new) (Nat.beq new.length (Nat.mul kk 1)) false)
      (appTo H n 1 e kk new (fun m=>Nat.ble (Nat.mul m i.bytes) 1099511627776) (ev T s)):=by
    have e1 : (x0N P o).f T H n = (x7F P o args.toList ts.toList .append).f T H n:=by unfold x0N; rw [ho]
    rw [e1,h1,h2]
    show (y6Y P st xt s x).f T H n = _
    unfold y6Y
    have e2 : u4S (P.underlying xt) = true:=by rw [x2G h4]; rfl
    rw [e2,h3]
    show (coO (P.info? e) _).f T H n = _
    rw [c4]
    show (coO (x4C P e) _).f T H n = _
    rw [c3]
    show (coIf (cond (Nat.ble 1 i.size) (cond (Nat.ble 1 i.bytes) (Nat.beq [Value.int k 0].length i.size) false) false) _).f T H n = _
    rw [c7]
    have : Nat.ble 1 i.bytes = true:=Nat.ble_eq_true_of_le c5
    rw [this]
    rfl
  have hbd : ∀ N : Nat,N <= 137438953472 -> Nat.ble (Nat.mul N i.bytes) 1099511627776 = true:=fun N hN=>by
    refine Nat.ble_eq_true_of_le ?_
    have : N * i.bytes <= 137438953472 * 8:=Nat.mul_le_mul hN c6
    show N * i.bytes <= _
    omega
  have src : ∀ (j sj ej : Nat) (kj : IntKind) (y : Int) (r : List Int), ρ b' = .lsl j -> bget B j = some (sj, .rowI ej kj (y :: r)) ->
      lenS (ev T x) = some (y :: r).length /\ x5U H 1 (ev T x) = some ((y :: r).map (Value.int kj)):=fun j sj ej kj y r hj hbj=>by
    rw [hj] at hrx
    rcases y1M hr hrx hbj with ⟨bb,c,hm,hx,_,hg⟩ | ⟨_,_,hh⟩
    . rw [hx]
      refine ⟨rfl, ?_⟩
      show (cellsOf (hget H bb)).bind _ = _
      rw [hg]
      show cut ((y :: r).map (Value.int kj)) 0 (Nat.mul (y :: r).length 1) = _
      have:=u2F ((y :: r).map (Value.int kj))
      rw [List.length_map] at this
      have hm1 : Nat.mul (y :: r).length 1 = (y :: r).length:=Nat.mul_one _
      rw [hm1]
      exact this
    . cases hh
  have chk1 : ∀ (kj : IntKind) (l : List Int),cond (all1 (l.map (Value.int kj))) (Nat.beq (l.map (Value.int kj)).length (Nat.mul l.length 1)) false = true:=fun kj l=>by
    rw [hall,cond_true,List.length_map]
    have hm1 : Nat.mul l.length 1 = l.length:=Nat.mul_one _
    rw [hm1]
    exact Nat.beq_refl _
  unfold appR at h
  split at h
  . rename_i j ha hj
    rw [ha] at hrs
    split at h
    . rename_i sj ej kj y r hbj
      cases h
      obtain ⟨s1,s2⟩:=src j sj ej kj y r hj hbj
      have hs : ev T s = .slice none 0 0:=by
        generalize ev T s = z at hrs
        cases hrs; rfl
      have hN:=of_decide_eq_true hck
      refine ⟨(y :: r).map (Value.int kj),e,(y :: r).length,unk,hset H n (.cells ((y :: r).map (Value.int kj)) e), ?_, .inl rfl, ?_,fun z hz _=> ?_,fun _ hh=>(by cases hh),fun μ' H2 M' hg=> .rowI n e kj _ hg⟩
      . rw [hcc,s1,s2]
        show chk (cond (all1 ((y :: r).map (Value.int kj))) (Nat.beq ((y :: r).map (Value.int kj)).length (Nat.mul (y :: r).length 1)) false) _ = _
        rw [chk1,hs]
        show chk (Nat.ble (Nat.mul (y :: r).length i.bytes) 1099511627776) (Xec.newS H n ((y :: r).map (Value.int kj)) e (y :: r).length unk) = _
        rw [hbd (y :: r).length (by omega)]
        rfl
      . rw [x0E,if_pos rfl]
      . rw [x0E,if_neg hz]
    . cases h
  . rename_i i0 j ha hj
    rw [ha] at hrs
    split at h
    . rename_i si ei kj0 l sj ej kj y r hbi hbj
      cases hcd : cond (ikeq kj0 kj) (cond (Nat.beq ei e) (!(Nat.beq i0 j)) false) false with
      | false=>rw [hcd] at h; cases h
      | true =>
        rw [hcd] at h
        cases h
        obtain ⟨g1,g2⟩:=x0D hcd
        obtain ⟨g3,_⟩:=x0D g2
        obtain rfl:=x4K g1
        obtain rfl:=x0S g3
        obtain ⟨s1,s2⟩:=src j sj ej kj0 y r hj hbj
        have hN:=of_decide_eq_true hck
        have fin : ∀ μ' H2 M',hget H2 n = some (.cells ((l ++ (y :: r)).map (Value.int kj0)) ei) -> BlkR V μ' H2 M' (some n) (l ++ (y :: r)).length (.rowI ei kj0 (l ++ (y :: r))):=fun μ' H2 M' hg=> .rowI n ei kj0 _ hg
        have hlen : (l ++ (y :: r)).length = l.length + (y :: r).length:=List.length_append
        have hge:=hr.lt
        rcases y1M hr hrs hbi with ⟨bb,c,hm,hx,hcap,hg⟩ | ⟨hm,hx,rfl⟩
        . have hbn : bb < n:=hr.lt _ _ _ hm
          rcases hcap with rfl | rfl
          . refine ⟨(l ++ (y :: r)).map (Value.int kj0),ei,(l ++ (y :: r)).length,unk,hset (hset H bb .dead) n (.cells ((l ++ (y :: r)).map (Value.int kj0)) ei), ?_, .inl rfl, ?_,fun z hz hz'=> ?_,fun i hi=>(by cases hi; exact ⟨_,_,hbi⟩),fin⟩
            . rw [hcc,s1,s2]
              show chk (cond (all1 ((y :: r).map (Value.int kj0))) (Nat.beq ((y :: r).map (Value.int kj0)).length (Nat.mul (y :: r).length 1)) false) _ = _
              rw [chk1,hx]
              show chk (Nat.ble (Nat.mul (l.length + (y :: r).length) i.bytes) 1099511627776) (onO (cellsOf (hget H bb)) fun p=>z8V H n 1 ei ⟨bb, 0,none⟩ l.length unk (y :: r).length ((y :: r).map (Value.int kj0)) p) = _
              rw [hbd _ hN,hg]
              show z8V H n 1 ei ⟨bb, 0,none⟩ l.length unk (y :: r).length ((y :: r).map (Value.int kj0)) (l.map (Value.int kj0),ei) = _
              unfold z8V
              rw [Nat.beq_refl]
              show chk (cond true (cond (Nat.beq (l.map (Value.int kj0)).length (Nat.mul l.length 1)) (Nat.beq ei ei) false) false) _ = _
              have hm1 : Nat.mul l.length 1 = l.length:=Nat.mul_one _
              rw [List.length_map,hm1,Nat.beq_refl,Nat.beq_refl]
              show OR.ok (.slice (some ⟨n, 0,none⟩) (Nat.add l.length (y :: r).length) unk) (hset (hset H bb .dead) n (.cells (l.map (Value.int kj0) ++ (y :: r).map (Value.int kj0)) ei)) (Nat.succ n) = _
              rw [<- List.map_append,hlen]
              rfl
            . rw [x0E,if_pos rfl]
            . rw [x0E,if_neg hz,x0E,if_neg (hz' i0 bb _ rfl hm)]
          . by_cases hu : l.length = unk
            . exfalso
              unfold unk at hu
              omega
            . refine ⟨(l ++ (y :: r)).map (Value.int kj0),ei,(l ++ (y :: r)).length,unk,hset H n (.cells ((l ++ (y :: r)).map (Value.int kj0)) ei), ?_, .inl rfl, ?_,fun z hz hz'=> ?_,fun i hi=>(by cases hi; exact ⟨_,_,hbi⟩),fin⟩
              . rw [hcc,s1,s2]
                show chk (cond (all1 ((y :: r).map (Value.int kj0))) (Nat.beq ((y :: r).map (Value.int kj0)).length (Nat.mul (y :: r).length 1)) false) _ = _
                rw [chk1,hx]
                show chk (Nat.ble (Nat.mul (l.length + (y :: r).length) i.bytes) 1099511627776) (onO (cellsOf (hget H bb)) fun p=>z8V H n 1 ei ⟨bb, 0,none⟩ l.length l.length (y :: r).length ((y :: r).map (Value.int kj0)) p) = _
                rw [hbd _ hN,hg]
                show z8V H n 1 ei ⟨bb, 0,none⟩ l.length l.length (y :: r).length ((y :: r).map (Value.int kj0)) (l.map (Value.int kj0),ei) = _
                unfold z8V
                have h0 : Nat.beq l.length unk = false:=x0J hu
                have h1 : Nat.ble (Nat.add l.length (y :: r).length) l.length = false:=by
                  cases hb : Nat.ble (Nat.add l.length (y :: r).length) l.length with
                  | false=>rfl
                  | true=>have:=x1E hb; have e0 : Nat.add l.length (y :: r).length = l.length + (y :: r).length:=rfl; rw [e0,List.length_cons] at this; omega
                rw [h0,cond_false,h1,cond_false]
                have hm1 : Nat.mul l.length 1 = l.length:=Nat.mul_one _
                show onO (cut (l.map (Value.int kj0)) 0 (Nat.mul l.length 1)) _ = _
                have:=u2F (l.map (Value.int kj0))
                rw [List.length_map] at this
                rw [hm1,this]
                show OR.ok (.slice (some ⟨n, 0,none⟩) (Nat.add l.length (y :: r).length) unk) (hset H n (.cells (l.map (Value.int kj0) ++ (y :: r).map (Value.int kj0)) ei)) (Nat.succ n) = _
                rw [<- List.map_append,hlen]
                rfl
              . rw [x0E,if_pos rfl]
              . rw [x0E,if_neg hz]
        . refine ⟨(y :: r).map (Value.int kj0),ei,(y :: r).length,unk,hset H n (.cells ((y :: r).map (Value.int kj0)) ei), ?_, .inl rfl, ?_,fun z hz _=> ?_,fun i hi=>(by cases hi; exact ⟨_,_,hbi⟩),fun μ' H2 M' hg=> .rowI n ei kj0 _ hg⟩
          . rw [hcc,s1,s2]
            show chk (cond (all1 ((y :: r).map (Value.int kj0))) (Nat.beq ((y :: r).map (Value.int kj0)).length (Nat.mul (y :: r).length 1)) false) _ = _
            rw [chk1,hx]
            show chk (Nat.ble (Nat.mul (y :: r).length i.bytes) 1099511627776) (Xec.newS H n ((y :: r).map (Value.int kj0)) ei (y :: r).length unk) = _
            rw [hbd (y :: r).length (by have : ([] : List Int).length = 0:=rfl; omega)]
            rfl
          . rw [x0E,if_pos rfl]
          . rw [x0E,if_neg hz]
    . cases h
  . cases h
end
end Go.Yec
namespace Go.Yec
open Go Go.Xec
variable [GT]
section
variable {D : Type}
def FunS (P : Program) (hk : Hook) (V : D -> List (PV D)) (f : FuncId) (args : List (PV D)) (B : Bt D) (m : Nat) (tc : List Nat) (v : PV D) (B' : Bt D) (m' : Nat) : Prop :=
  ∀ (X : Nat -> Prop) (μ : Mu) (H : Hp) (n : Nat) (xs : List Value),HR V X μ B m H n -> RepL V μ H (MX X μ B) args xs ->
    ∃ xv H' n' μ',(∃ k0, ∀ k,k0 <= k -> run P hk k (.call f xs) H n = .ok .ret (one xv) H' n') /\ HR V X μ' B' m' H' n' /\ Gr μ B m H n μ' B' m' H' n' /\ Rep V μ' H' (MX X μ' B') v xv /\
      ∀ i s b x len,bget B i = some (s,b) -> inN i tc = false -> μ i = some (some x,len) -> hget H' x = hget H x
def run' (P : Program) (hk : Hook) (k : Nat) (f : FuncId) (xs : List Value) (H : Hp) (n : Nat) (xv : Value) (H' : Hp) (n' : Nat) : Prop:=run P hk k (.call f xs) H n = .ok .ret (one xv) H' n'
def x4J (P : Program) (hk : Hook) (V : D -> List (PV D)) (f : FuncId) (args : List (PV D)) (B : Bt D) (m : Nat) : CallR D -> Prop
  | .bad=>True
  | .tot v=>FunS P hk V f args B m [] v B m
  | .par b v=>b = true -> FunS P hk V f args B m [] v B m
  | .opt _ o _ out=> ∀ x,o = some x -> FunS P hk V f args B m [] (out x) B m
  | .inl tc _ run=> ∀ (R : Type) (K : PV D -> Bt D -> Nat -> Option R) (r : R),run R K = some r -> ∀ (X : Nat -> Prop) (μ : Mu) (H : Hp) (n : Nat) (xs : List Value),HR V X μ B m H n -> RepL V μ H (MX X μ B) args xs ->
    ∃ v B' m' xv H' n' μ',(∃ k0, ∀ k,k0 <= k -> run' P hk k f xs H n xv H' n') /\ HR V X μ' B' m' H' n' /\ Gr μ B m H n μ' B' m' H' n' /\ Rep V μ' H' (MX X μ' B') v xv /\
      (∀ i s b x len,bget B i = some (s,b) -> inN i tc = false -> μ i = some (some x,len) -> hget H' x = hget H x) /\ (∀ i s b,bget B i = some (s,b) -> inN i tc = false -> bget B' i = some (s,b)) /\ K v B' m' = some r
def y0V (P : Program) (hk : Hook) (V : D -> List (PV D)) (tbl : Tbl D) : Prop:= ∀ f args B m,x4J P hk V f args B m (tbl f args B m)
structure RegI (T : Tt D) (dn : Dn) : Prop where
  opt : ∀ t C g v,pget T t = .opt C g v -> (C,t) ∈ dn /\ g = gOf T C /\ C ≠ []
  has : ∀ C t,(C,t) ∈ dn -> C ≠ [] -> ∃ g v,pget T t = .opt C g v
  cl : ∀ C t,(C,t) ∈ dn -> ∀ p,p ∈ C -> ∃ C',(C',p.1) ∈ dn
theorem x8V (T : Tt D) (p : Nat × Bool) (C : Ch) : gOf T (p :: C) = cond (gOf T C) (lit T C p) false:=rfl
theorem y0S (T : Tt D) (p : Nat × Bool) (C : Ch) : chOk T (p :: C) = cond (y5Y (x3E C (pget T p.1))) (chOk T C) false:=rfl
theorem v3X {T T' : Tt D} {C : Ch} {p : Nat × Bool} (h : pget T' p.1 = pget T p.1) : lit T' C p = lit T C p:=by
  unfold lit; rw [h]
theorem y0K {T T' : Tt D} : ∀ {C : Ch}, (∀ p,p ∈ C -> pget T' p.1 = pget T p.1) -> gOf T' C = gOf T C
  | [],_=>rfl
  | p :: C,h=>by rw [x8V,x8V,y0K fun q hq=>h q (by simp [hq]),v3X (h p (by simp))]
theorem eqC_cons (p q : Nat × Bool) (l m : Ch) : eqC (p :: l) (q :: m) = cond (cond (Nat.beq p.1 q.1) (cond p.2 q.2 (!q.2)) false) (eqC l m) false:=rfl
theorem u5R : ∀ {l m : Ch}, eqC l m = true -> l = m
  | [],[],_=>rfl
  | [],_ :: _,h=>by cases h
  | _ :: _,[],h=>by cases h
  | (a,b) :: l,(c,d) :: m,h=>by
    rw [eqC_cons] at h
    obtain ⟨h1,h2⟩:=x0D h
    obtain ⟨h3,h4⟩:=x0D h1
    have e3 : a = c:=x0S h3
    rw [u5R h2,e3]
    have : b = d:=by cases b <;> cases d <;> first | rfl | (cases h4)
    rw [this]
theorem z9K {T : Tt D} {C' : Ch} : ∀ {C : Ch}, sufB C' C = true -> gOf T C = true -> gOf T C' = true
  | [],h,hg=>by
    have h : eqC C' [] = true:=h
    rw [u5R h]; rfl
  | p :: C,h,hg=>by
    have h : cond (eqC C' (p :: C)) true (sufB C' C) = true:=h
    cases he : eqC C' (p :: C) with
    | true=>rw [u5R he]; exact hg
    | false =>
      rw [he,cond_false] at h
      rw [x8V] at hg
      exact z9K h (x0D hg).1
theorem u0R {t : Nat} {C : Ch} : ∀ {dn : Dn}, hasD t C dn = true -> (C,t) ∈ dn
  | [],h=>by cases h
  | q :: dn,h=>by
    have h : cond (cond (Nat.beq q.2 t) (eqC q.1 C) false) true (hasD t C dn) = true:=h
    cases he : cond (Nat.beq q.2 t) (eqC q.1 C) false with
    | true =>
      obtain ⟨h1,h2⟩:=x0D he
      have e1:=x0S h1
      have e2:=u5R h2
      obtain ⟨a,b⟩:=q
      simp only at e1 e2
      rw [<- e1, <- e2]; exact List.mem_cons_self
    | false=>rw [he,cond_false] at h; exact List.mem_cons_of_mem _ (u0R h)
theorem dIn_no {t : Nat} : ∀ {dn : Dn}, dIn t dn = false -> ∀ C,(C,t) ∉ dn
  | [],_,_=>by simp
  | q :: dn,h,C=>by
    have h : cond (Nat.beq q.2 t) true (dIn t dn) = false:=h
    cases he : Nat.beq q.2 t with
    | true=>rw [he] at h; cases h
    | false =>
      rw [he,cond_false] at h
      intro hm
      rcases List.mem_cons.1 hm with e | hm
      . subst e; simp at he
      . exact dIn_no h C hm
def x7E (d : Option Nat) (C : Ch) (dn : Dn) : Dn:=match d with
  | some t=>(C,t) :: dn
  | none=>dn
theorem RegI.set {T : Tt D} {dn : Dn} (h : RegI T dn) {C : Ch} (hC : y2X dn C = true) {d : Option Nat} {w : PV D} (hd : ∀ t,d = some t -> dIn t dn = false) (hw : ∀ C' g v,w = .opt C' g v -> C' = C /\ g = gOf T C /\ C ≠ []) (hw' : C ≠ [] -> ∃ g v,w = .opt C g v) :
    RegI (pput T d w) (x7E d C dn):=by
  have keep : ∀ C' t,(C',t) ∈ dn -> pget (pput T d w) t = pget T t:=fun C' t hm=>by
    rw [x8R]
    split
    . rename_i e; exact absurd hm (dIn_no (hd t e) C')
    . rfl
  have cl0 : ∀ p,p ∈ C -> ∃ C',(C',p.1) ∈ dn:=fun p hp=>by
    cases C with
    | nil=>cases hp
    | cons q C' =>
      have hm:=u0R (show hasD q.1 C' dn = true from hC)
      rcases List.mem_cons.1 hp with rfl | hp
      . exact ⟨C',hm⟩
      . exact h.cl C' q.1 hm p hp
  have gk : ∀ C' t,(C',t) ∈ dn -> gOf (pput T d w) C' = gOf T C':=fun C' t hm=>y0K fun p hp=>by
    obtain ⟨C2,h2⟩:=h.cl C' t hm p hp
    exact keep C2 p.1 h2
  have gC : gOf (pput T d w) C = gOf T C:=y0K fun p hp=>by
    obtain ⟨C2,h2⟩:=cl0 p hp
    exact keep C2 p.1 h2
  cases d with
  | none=>exact h
  | some d =>
    refine ⟨fun t C' g v hp=> ?_,fun C' t hm hne=> ?_,fun C' t hm p hp=> ?_⟩
    . rw [x8R] at hp
      split at hp
      . rename_i e; cases e
        obtain ⟨rfl,rfl,hne⟩:=hw C' g v hp
        exact ⟨List.mem_cons_self,gC.symm,hne⟩
      . obtain ⟨h1,h2,h3⟩:=h.opt t C' g v hp
        exact ⟨List.mem_cons_of_mem _ h1,by rw [h2,gk C' t h1],h3⟩
    . rcases List.mem_cons.1 hm with e | hm
      . cases e
        obtain ⟨g,v,e⟩:=hw' hne
        exact ⟨g,v,by rw [x8R,if_pos rfl]; exact e⟩
      . rw [keep C' t hm]; exact h.has C' t hm hne
    . rcases List.mem_cons.1 hm with e | hm
      . cases e
        obtain ⟨C2,h2⟩:=cl0 p hp
        exact ⟨C2,List.mem_cons_of_mem _ h2⟩
      . obtain ⟨C2,h2⟩:=h.cl C' t hm p hp
        exact ⟨C2,List.mem_cons_of_mem _ h2⟩
variable {V : D -> List (PV D)} {μ : Mu} {H : Hp} {P : Program} {hk : Hook} {o : Oper} {T : Tm} {X : Nat -> Prop} {n : Nat} {st : Y D} {dn : Dn} {C : Ch}
theorem x2J (hS : SR V X μ st T H n) (hI : RegI st.T dn) (hg : gOf st.T C = true) : OpdR V μ H (MX X μ st.B) T (opd st.T C):=fun x y hy=>by
  cases x with
  | tmp t =>
    cases hy
    show Rep V μ H _ (x3E C (pget st.T t)) (tget T t)
    have hr:=hS.tr t
    generalize hp : pget st.T t = p at hr
    generalize tget T t = x at hr
    unfold x3E
    split
    . rename_i C' g v
      cases hs : sufB C' C with
      | false=>exact .undef _
      | true =>
        have:=(hI.opt t C' g v hp).2.1
        rw [z9K hs hg] at this
        subst this
        cases hr with
        | opt1 _ _ _ h=>exact h
    . exact hr
  | const v =>
    obtain ⟨c,h1,rfl⟩:=x0C hy
    exact (v6C h1).2
  | global g=>cases hy
  | func f=>cases hy; exact .fn f [] [] #[] #[] .nil .nil
def y3A (all : List Oper) (o : Oper) (C : Ch) : Prop:=(o.guard = none /\ C = []) \/ ∃ j w t C',o.guard = some (j,w) /\ (lget all j).bind (·.dst) = some t /\ C = (t,w) :: C'
theorem z0K {all : List Oper} {Cs : List Ch} (h : chOf all Cs o.guard = some C) : y3A all o C:=by
  cases hg : o.guard with
  | none=>rw [hg] at h; cases h; exact .inl ⟨hg,rfl⟩
  | some q =>
    obtain ⟨j,w⟩:=q
    rw [hg] at h
    obtain ⟨t,h1,h2⟩:=x0A h
    obtain ⟨C',h3,rfl⟩:=x0C h2
    exact .inr ⟨j,w,t,C',hg,h1,rfl⟩
theorem x3M {all : List Oper} {sz : Nat} (hS : SR V X μ st T H n) (hI : RegI st.T dn) (hfit : y2X dn C = true) (hok : chOk st.T C = true) (hG : y3A all o C) (hd : y8Q sz o.dst = true) (self : Task -> Hp -> Nat -> Xec.R) :
    (gOf st.T C = true -> ∀ H2 n2,x3A self T H2 n2 (Xec.compI P sz all o) = y3D self T H2 n2 (x5J P o)) /\ (gOf st.T C = false -> ∀ H2 n2,x3A self T H2 n2 (Xec.compI P sz all o) = .ok undef H2 n2) /\ (Xec.compI P sz all o).dst = o.dst:=by
  unfold Xec.compI
  rw [hd,cond_true]
  rcases hG with ⟨hg,rfl⟩ | ⟨j,w,t,C',hg,ht,rfl⟩
  . rw [hg]
    exact ⟨fun _ _ _=>rfl,fun h=>(by cases h),rfl⟩
  . rw [hg]
    simp only [ht]
    refine ⟨fun h H2 n2=> ?_,fun h H2 n2=> ?_,trivial⟩
    all_goals
      rw [x8V] at h
      rw [y0S] at hok
      obtain ⟨hb,_⟩:=x0D hok
      have hm:=u0R (show hasD t C' dn = true from hfit)
      have hr:=hS.tr t
      show (match tget T t with | .bool b=>cond (cond w b (!b)) (y3D self T H2 n2 (x5J P o)) (.ok undef H2 n2) | _=> .ok undef H2 n2) = _
    . obtain ⟨h1,h2⟩:=x0D h
      have key : ∃ b,tget T t = .bool b /\ x7N (x3E C' (pget st.T t)) = b:=by
        have:=x2J hS hI h1 (.tmp t) (.t t) rfl
        have this : Rep V μ H (MX X μ st.B) (x3E C' (pget st.T t)) (tget T t):=this
        generalize x3E C' (pget st.T t) = p at this hb
        unfold y5Y at hb
        split at hb
        . rename_i b; exact ⟨b,this.bool_of,rfl⟩
        . cases hb
      obtain ⟨b,e1,e2⟩:=key
      unfold lit at h2
      rw [e2] at h2
      rw [e1]
      show cond (cond w b (!b)) _ _ = _
      rw [h2]; rfl
    . cases hg' : gOf st.T C' with
      | true =>
        rw [hg',cond_true] at h
        have key : ∃ b,tget T t = .bool b /\ x7N (x3E C' (pget st.T t)) = b:=by
          have:=x2J hS hI hg' (.tmp t) (.t t) rfl
          have this : Rep V μ H (MX X μ st.B) (x3E C' (pget st.T t)) (tget T t):=this
          generalize x3E C' (pget st.T t) = p at this hb
          unfold y5Y at hb
          split at hb
          . rename_i b; exact ⟨b,this.bool_of,rfl⟩
          . cases hb
        obtain ⟨b,e1,e2⟩:=key
        unfold lit at h
        rw [e2] at h
        rw [e1]
        show cond (cond w b (!b)) _ _ = _
        rw [h]; rfl
      | false =>
        have hne : C' ≠ []:=fun e=>by subst e; cases hg'
        obtain ⟨g,v,e⟩:=hI.has C' t hm hne
        have:=(hI.opt t C' g v e).2.1
        rw [hg'] at this
        subst this
        rw [e] at hr
        generalize tget T t = z at hr
        cases hr
        rfl
end
end Go.Yec
