/-
  THE PURE EXECUTOR: what an operation that lays and looks at nothing comes to: all of them.; THE PURE EXECUTOR: lengths, indices, builtins; loads, new blocks, writes, appends.; THE PURE EXECUTOR: all that an operation can come to, beside the executor's.
-/
import Derived.Test.YtadehgdfijjikaaGreatDoorY5
set_option linter.all false
namespace Go.Yec
open Go Go.Xec
variable [GT]
theorem y9V {p1 p2 : Nat -> Option (Nat × Nat)} (hp : ∀ i q,p1 i = some q -> p2 i = some q) : ∀ {ps : List (Nat × Value)} {z s : List Value}, x6B p1 ps z = some s -> x6B p2 ps z = some s
  | [],z,s,h=>h
  | p :: ps,z,s,h=>by
    have h : ((p1 p.1).bind fun q=>cond (Nat.beq p.2.cells.toList.length q.2) ((x6V z q.1 p.2.cells.toList).bind (x6B p1 ps)) none) = some s:=h
    show ((p2 p.1).bind fun q=>cond (Nat.beq p.2.cells.toList.length q.2) ((x6V z q.1 p.2.cells.toList).bind (x6B p2 ps)) none) = some s
    cases hq : p1 p.1 with
    | none=>rw [hq] at h; cases h
    | some q =>
      rw [hq] at h
      rw [hp _ _ hq]
      simp only [Option.bind_some] at h |-
      cases hb : Nat.beq p.2.cells.toList.length q.2 with
      | false=>rw [hb] at h; cases h
      | true =>
        rw [hb,cond_true] at h
        rw [cond_true]
        cases hs : x6V z q.1 p.2.cells.toList with
        | none=>rw [hs] at h; cases h
        | some z' =>
          rw [hs] at h
          simp only [Option.bind_some] at h |-
          exact y9V hp h
theorem lget_eq {α : Type} : ∀ (l : List α) (i : Nat),lget l i = l[i]?
  | [],i=>by cases i <;> rfl
  | x :: l, 0=>rfl
  | x :: l,i + 1=>by show lget l i = _; rw [lget_eq]; simp
section
variable {D : Type} {V : D -> List (PV D)} {μ : Mu} {H : Hp} {P : Program} {o : Oper} {T : Tm} {ρ : Yd -> PV D} {X : Nat -> Prop} {B : Bt D} {m n : Nat}
theorem x9K (p : Nat × Operand) (l : List (Nat × Operand)) : y4G (p :: l) = ((ydO p.2).bind fun c=>(y4G l).map fun r=>(p.1,c) :: r):=rfl
theorem z4P (pl : List (Nat × Nat)) (p : Nat × Yd) (l : List (Nat × Yd)) : z0P pl (p :: l) = ((lget pl p.1).bind fun q=>(z0P pl l).map fun r=>(q,p.2) :: r):=rfl
theorem v6R (p : (Nat × Nat) × PV D) (ps : List ((Nat × Nat) × PV D)) (cells : List (PV D)) : bldL (p :: ps) cells = cond (cond (Nat.beq (x2X p.2).length p.1.2) (x5E (x2X p.2)) false) (Option.casesOn (motive:=fun _=>Option (List (PV D))) (setP cells p.1.1 (x2X p.2)) none (bldL ps)) none:=rfl
theorem u6M {M : Nat -> Prop} (hρ : OpdR V μ H M T ρ) (pl : List (Nat × Nat)) : ∀ {ps : List (Nat × Operand)} {ys : List (Nat × Yd)} {qs : List ((Nat × Nat) × Yd)} {l r : List (PV D)} {m : List Value}, y4G ps = some ys -> z0P pl ys = some qs -> bldL (qs.map fun p=>(p.1, ρ p.2)) l = some r -> RepL V μ H M l m -> ∃ s,x6B (lget pl) (x4P T ps) m = some s /\ RepL V μ H M r s
  | [],ys,qs,l,r,m,h1,h2,h3,hl=>by
    cases h1; cases h2; cases h3
    exact ⟨m,rfl,hl⟩
  | p :: ps,ys,qs,l,r,m,h1,h2,h3,hl=>by
    rw [x9K] at h1
    obtain ⟨c,e1,e2⟩:=x0A h1
    obtain ⟨ys',e3,rfl⟩:=x0C e2
    rw [z4P] at h2
    obtain ⟨q,e4,e5⟩:=x0A h2
    obtain ⟨qs',e6,rfl⟩:=x0C e5
    simp only [List.map_cons] at h3
    rw [v6R] at h3
    obtain ⟨c1,c2⟩:=x0B h3
    obtain ⟨c3,c4⟩:=x0D c1
    obtain ⟨l2,e7,e8⟩:=x0W (z:=(none : Option (List (PV D)))) c2 (by simp)
    obtain ⟨r1,r2⟩:=y1X (hρ p.2 c e1) c4
    obtain ⟨s,e9,r3⟩:=y3K q.1 e7 hl r1
    obtain ⟨s',e10,r4⟩:=u6M hρ pl e3 e6 e8 r3
    refine ⟨s', ?_,r4⟩
    show x6B (lget pl) ((p.1,ev T p.2) :: x4P T ps) m = _
    rw [y1Q,e4,Option.bind_some]
    have hlen : Nat.beq (ev T p.2).cells.toList.length q.2 = true:=by rw [<- r1.length]; exact c3
    rw [hlen,cond_true,e9]
    exact e10
theorem x9Q {M : Nat -> Prop} {x : Value} {i off : Nat} (h : Rep V μ H M (.lptr i off) x) : ∃ b len, μ i = some (some b,len) /\ x = .pointer (some ⟨b,off,none⟩):=by
  cases h with | lptr _ _ x len h=>exact ⟨x,len,h,rfl⟩
theorem z4Q {s : TypeId} {f : Nat} {fd : Field} (h : v1F P s f = some fd) : ∃ fs,x5Y (P.underlying s) = some fs /\ lget fs f = some fd:=x0A h
variable (hρ : OpdR V μ H (MX X μ B) T ρ) (hr : HR V X μ B m H n)
include hρ
theorem mv_got {x : Operand} {a : Yd} (ha : ydO x = some a) (hc : ∀ H2 n2,(x0N P o).f T H2 n2 = .ok (ev T x) H2 n2) {v : PV D} (h : Got (opR B ρ (.mv a)) v) : ValR P o T V μ H (MX X μ B) v:=by
  obtain rfl:=x1D (v:= ρ a) h
  exact ⟨_,hρ x a ha,hc⟩
theorem v3L {x : Operand} (ho : o.op = .nilCheck x) {a : Yd} (ha : ydO x = some a) {v : PV D} (h : Got (opR B ρ (.nilck a)) v) : ValR P o T V μ H (MX X μ B) v:=by
  obtain ⟨h1,h2⟩:=z2U (b:=isPtr (ρ a)) h
  obtain rfl:=x1D h2
  have hr:=hρ x a ha
  have hp : ∃ ad,ev T x = .pointer (some ad):=by
    generalize ρ a = y at hr h1
    generalize ev T x = z at hr
    cases hr <;> first | exact ⟨_,rfl⟩ | (cases h1)
  obtain ⟨ad,e⟩:=hp
  refine ⟨_,hr,fun H2 n2=> ?_⟩
  have hc : (x0N P o).f T H2 n2 = x5Z (ev T x) fun a=> .ok (.pointer (some a)) H2 n2:=by unfold x0N; rw [ho]
  rw [hc,e]
  rfl
theorem un_got {op : UnOp} {t : TypeId} {x : Operand} (ho : o.op = .unOp op t x) {q : YOp} (hc : (op = .not /\ y1 .not x = some q) \/ (op = .neg /\ y1 .neg x = some q)) {v : PV D} (h : Got (opR B ρ q) v) : ValR P o T V μ H (MX X μ B) v:=by
  rcases hc with ⟨rfl,hc⟩ | ⟨rfl,hc⟩
  . obtain ⟨a,ha,rfl⟩:=x0G hc
    have h : Got (match ρ a with | .bool a=> .val (.bool (!a)) | _=> .bad) v:=h
    split at h
    . rename_i b hb
      obtain rfl:=x1D h
      have e:=z3T hρ ha hb
      exact ⟨_, .bool _,un_ok ho (by rw [e]; rfl) rfl (by rw [e]; rfl)⟩
    . exact (x0L h).elim
  . obtain ⟨a,ha,rfl⟩:=x0G hc
    have h : Got (match ρ a with | .int k a=> .val (.int k (k.wrap (0 - a))) | _=> .bad) v:=h
    split at h
    . rename_i k b hb
      obtain rfl:=x1D h
      have e:=x2D hρ ha hb
      exact ⟨_, .int _ _,un_ok ho (by rw [e]; rfl) rfl (by rw [e]; rfl)⟩
    . exact (x0L h).elim
theorem conv_got {s d : TypeId} {x : Operand} (ho : o.op = .convert s d x) {q : YOp} (hc : z0Q P s d x = some q) {v : PV D} (h : Got (opR B ρ q) v) : ValR P o T V μ H (MX X μ B) v:=by
  unfold z0Q at hc
  split at hc
  . rename_i k k' hd hs
    obtain ⟨a,ha,rfl⟩:=x0G hc
    have h : Got (match ρ a with | .int _ a=> .val (.int k (k.wrap a)) | _=> .bad) v:=h
    split at h
    . rename_i k2 b hb
      obtain rfl:=x1D h
      have e:=x2D hρ ha hb
      exact ⟨_, .int _ _,u2J ho (by rw [e]; rfl) (by rw [hs]; simp) (by rw [hd]; simp) rfl (by rw [e]; exact z2F hs hd)⟩
    . exact (x0L h).elim
  . rename_i k' hd hs
    obtain ⟨a,ha,rfl⟩:=x0G hc
    have h : Got (match ρ a with | .int _ a=> .val (.str (y4U a)) | _=> .bad) v:=h
    split at h
    . rename_i k2 b hb
      obtain rfl:=x1D h
      have e:=x2D hρ ha hb
      exact ⟨_, .str _,u2J ho (by rw [e]; rfl) (by rw [hs]; simp) (by rw [hd]; simp) rfl (by rw [e]; exact y8M hs hd)⟩
    . exact (x0L h).elim
  . rename_i hd hs
    obtain ⟨a,ha,rfl⟩:=x0G hc
    have h : Got (x1Z (ρ a) fun s=> .val (.str s)) v:=h
    unfold x1Z at h
    split at h
    . rename_i s' hb
      obtain rfl:=x1D h
      obtain ⟨u,rfl,e⟩:=x6U hρ ha hb
      exact ⟨_, .str u,u2J ho (by rw [e]; rfl) (by rw [hs]; simp) (by rw [hd]; simp) rfl (by rw [e]; exact z2E hs hd)⟩
    . exact (x0L h).elim
  . obtain ⟨_,hc⟩:=x0B hc
    obtain ⟨a,ha,rfl⟩:=x0G hc
    have h : Got (match ρ a with
      | .lsl i=>match bget B i with
        | some (_, .rowI _ k l)=>cond (ikeq k .u8) (.ld (some i) (.str (x1M l))) .bad
        | _=> .bad
      | _=> .bad) v:=h
    split at h
    . split at h
      . obtain ⟨_,h2⟩:=z2U h
        rcases h2 with h2 | h2 <;> cases h2
      . exact (x0L h).elim
    . exact (x0L h).elim
  . obtain ⟨_,hc⟩:=x0B hc
    obtain ⟨a,ha,rfl⟩:=x0G hc
    have h : Got (x1Z (ρ a) fun s=> .mk (.rowI _ .u8 (x0Q s)) (fun i=> .lsl i)) v:=h
    unfold x1Z at h
    split at h
    . rcases h with h | h <;> cases h
    . exact (x0L h).elim
  . obtain ⟨_,hc⟩:=x0B hc
    obtain ⟨a,ha,rfl⟩:=x0G hc
    have h : Got (match ρ a with
      | .lsl i=>match bget B i with
        | some (_, .rowI _ _ (_ :: _))=> .ld (some i) (.lsl i)
        | _=> .bad
      | _=> .bad) v:=h
    split at h
    . split at h
      . rcases h with h | h <;> cases h
      . exact (x0L h).elim
    . exact (x0L h).elim
  . cases hc
theorem sidx_got {t : TypeId} {x i : Operand} (ho : o.op = .index t x i) (hu : P.underlying t = some .string) {q : YOp} (hc : y2 .sidx x i = some q) {v : PV D} (h : Got (opR B ρ q) v) : ValR P o T V μ H (MX X μ B) v:=by
  obtain ⟨a,b,ha,hb,rfl⟩:=x0T hc
  have h : Got (x1Z (ρ a) fun s=>match ρ b with | .int _ ix=> .par (inB ix (slen s)) (.int .u8 (sget s ix)) | _=> .bad) v:=h
  unfold x1Z at h
  split at h
  . rename_i s hs
    split at h
    . rename_i k ix hi
      obtain ⟨h1,rfl⟩:=x3B h
      obtain ⟨u,rfl,e1⟩:=x6U hρ ha hs
      exact ⟨_, .int _ _,index_ok ho hu e1 (x2D hρ hb hi) h1⟩
    . exact (x0L h).elim
  . exact (x0L h).elim
theorem aidx_got {t e : TypeId} {N : Nat} {x i : Operand} (ho : o.op = .index t x i) (hu : P.underlying t = some (.array N e)) {q : YOp} (hc : cond (u0C P e) (y2 (.aidx N) x i) none = some q) {v : PV D} (h : Got (opR B ρ q) v) : ValR P o T V μ H (MX X μ B) v:=by
  obtain ⟨h0,hc⟩:=x0B hc
  obtain ⟨a,b,ha,hb,rfl⟩:=x0T hc
  have h : Got (match ρ a, ρ b with | .aggI k l, .int _ ix=> .par (cond (inB ix (N : Int)) (inB ix (ilen l)) false) (.int k (x1P l ix)) | _,_=>(.bad : OpR D)) v:=h
  split at h
  . rename_i k l k2 ix hl hi
    obtain ⟨h1,rfl⟩:=x3B h
    obtain ⟨h1,h2⟩:=x0D h1
    have h1:=of_decide_eq_true h1
    have h2:=of_decide_eq_true h2
    have e2:=x2D hρ hb hi
    have e1:=hρ x a ha
    rw [hl] at e1
    generalize hz : ev T x = z at e1
    cases e1 with
    | aggI _ _ arr harr =>
      have hlt : ix.toNat < l.length:=by have:=h2.2; unfold ilen at this; omega
      obtain ⟨k',s1,s2⟩ : ∃ k',P.underlying e = some (.int k') /\ x1G P e = some 1:=by
        unfold u0C at h0
        split at h0
        . rename_i k' e1 e2; exact ⟨k',e1,e2⟩
        . cases h0
      have hg : arr[ix.toNat]? = some (.int k (x1P l ix)):=by
        rw [<- Array.getElem?_toList,harr,List.getElem?_map,List.getElem?_eq_getElem hlt]
        unfold x1P
        rw [List.getD_eq_getElem?_getD,List.getElem?_eq_getElem hlt]; rfl
      have hpl : plain (.agg arr) = true:=by
        show all0 arr.toList = true
        rw [harr]
        exact z8X k l
      have hsz : prun P (sizeOf e) = some 1:=by
        unfold x1G at s2
        obtain ⟨inf,s3,s4⟩:=x0C s2
        unfold sizeOf typeInfo
        rw [x0F,x0F]
        have : prun P program = some P:=rfl
        rw [this]
        simp only [Option.bind_some,s3]
        show some inf.size = some 1
        rw [s4]
      have hpt : prun P (part e arr ix.toNat) = some (.int k (x1P l ix)):=y5B (k:= .i) (by unfold ekOf; rw [s1]) arr ix.toNat hg
      refine ⟨_, .int _ _,fun H2 n2=> ?_⟩
      have hcc : (x0N P o).f T H2 n2 = chk (cond (plain (ev T x)) (plain (ev T i)) false) (x0V P T H2 n2 o):=by unfold x0N; rw [ho]
      rw [hcc,hz,e2,hpl]
      show x0V P T H2 n2 o = _
      refine x3F rfl ?_ H2 n2
      have hE : execOp (ev T) o = (do pure (.value (<- Instr.index t (ev T x) (ev T i)))):=by unfold execOp; rw [ho]
      rw [hE,hz,e2]
      have : prun P (Instr.index t (.agg arr) (.int k2 ix)) = some (.int k (x1P l ix)):=by
        unfold Instr.index
        rw [x0F]
        show (prun P (do match <- underlying t,Value.agg arr with | _,_=>_)) = _
        simp only [x0F,x0U hu,Option.bind_some,if_pos h1,hsz,Nat.mul_one]
        exact hpt
      simp only [x0F,this,Option.bind_some]
      rfl
  . exact (x0L h).elim
theorem ssl_got {t : TypeId} {x : Operand} {lo hi : Option Operand} (ho : o.op = .slice t x lo hi none) {q : YOp} (hc : x9Z P t x lo hi = some q) {v : PV D} (h : Got (opR B ρ q) v) : ValR P o T V μ H (MX X μ B) v:=by
  unfold x9Z at hc
  split at hc
  . rename_i hu
    obtain ⟨a,ha,h1⟩:=x0A hc
    obtain ⟨l,hl,h2⟩:=x0A h1
    obtain ⟨hh,hhi,rfl⟩:=x0C h2
    have h : Got (x1Z (ρ a) fun s=>sslR s (l.map ρ) (hh.map ρ)) v:=h
    unfold x1Z at h
    split at h
    . rename_i s hs
      obtain ⟨u,rfl,e1⟩:=x6U hρ ha hs
      have bl : ∀ {oo : Option Operand} {oy : Option Yd} (d : Nat),ydOpt oo = some oy -> (oy.map ρ = none -> x6C d (oo.map (ev T)) = some d) /\ (∀ k i,oy.map ρ = some (.int k i) -> 0 <= i -> x6C d (oo.map (ev T)) = some i.toNat):=fun {oo oy} d he=>by
        cases oo with
        | none=>cases he; exact ⟨fun _=>rfl,fun k i h=>by cases h⟩
        | some y =>
          obtain ⟨c,hc,rfl⟩:=x0C he
          refine ⟨fun h=>by (simp at h),fun k i h h0=> ?_⟩
          have:=x2D hρ hc (by simpa using h)
          show z6R (ev T y) = _
          rw [this]
          exact v3N h0
      have fin : ∀ (l' h' : Nat),x6C 0 (lo.map (ev T)) = some l' -> x6C u.size (hi.map (ev T)) = some h' -> l' <= h' -> h' <= u.size -> v = .str ((u.data.toList.drop l').take (h' - l')) -> ValR P o T V μ H (MX X μ B) v:=fun l' h' e2 e3 e4 e5 e6=>by
        refine ⟨.string (u.extract l' h'), ?_,ssl_run ho hu e1 e2 e3 e4 e5⟩
        rw [e6, <- v0S]
        exact .str _
      unfold sslR at h
      have sz : slen u.data.toList = (u.size : Int):=by unfold slen; rw [<- x2B]
      split at h
      . rename_i q1 q2
        obtain rfl:=x1D h
        refine fin 0 u.size ((bl 0 hl).1 q1) ((bl u.size hhi).1 q2) (Nat.zero_le _) (Nat.le_refl _) ?_
        rw [List.drop_zero,Nat.sub_zero,x2B,List.take_length]
      . rename_i k i q1 q2
        obtain ⟨h1,rfl⟩:=x3B h
        have h1:=of_decide_eq_true h1
        rw [sz] at h1
        refine fin i.toNat u.size ((bl 0 hl).2 _ _ q1 h1.1) ((bl u.size hhi).1 q2) (by omega) (Nat.le_refl _) ?_
        unfold ssub; rw [sz]; rfl
      . rename_i k i q1 q2
        obtain ⟨h1,rfl⟩:=x3B h
        have h1:=of_decide_eq_true h1
        rw [sz] at h1
        refine fin 0 i.toNat ((bl 0 hl).1 q1) ((bl u.size hhi).2 _ _ q2 h1.1) (Nat.zero_le _) (by omega) ?_
        rfl
      . rename_i k i k' j q1 q2
        obtain ⟨h1,rfl⟩:=x3B h
        have h1:=of_decide_eq_true h1
        rw [sz] at h1
        exact fin i.toNat j.toNat ((bl 0 hl).2 _ _ q1 h1.1) ((bl u.size hhi).2 _ _ q2 (by omega)) (by omega) (by omega) rfl
      . exact (x0L h).elim
    . exact (x0L h).elim
  . cases hc
theorem v5K {s : TypeId} {x : Operand} {f : Nat} (ho : o.op = .fieldAddr s x f) {q : YOp} (hc : x1T P (.fieldAddr s x f) = some q) {v : PV D} (h : Got (opR B ρ q) v) : ValR P o T V μ H (MX X μ B) v:=by
  obtain ⟨fd,h1,h2⟩:=x0A hc
  obtain ⟨k,h3,h4⟩:=x0A h2
  obtain ⟨h5,h6⟩:=x0B h4
  obtain ⟨a,ha,rfl⟩:=x0G h6
  obtain ⟨fs,h7,h8⟩:=z4Q h1
  have h : Got (match ρ a with | .lptr i o=> .val (.lptr i (Nat.add o fd.offset)) | _=> .bad) v:=h
  split at h
  . rename_i i off hb
    obtain rfl:=x1D h
    obtain ⟨b,len,e1,e2⟩:=x9Q (hb ▸ hρ x a ha)
    refine ⟨_, .lptr i _ b len e1,fun H2 n2=> ?_⟩
    have hc : (x0N P o).f T H2 n2 = (x8Z P s x f).f T H2 n2:=by unfold x0N; rw [ho]
    rw [hc]
    unfold x8Z
    rw [h7]; show (coO (lget fs f) _).f T H2 n2 = _
    rw [h8]; show (coO (x1G P fd.type) _).f T H2 n2 = _
    rw [h3]; show (coIf (Nat.ble 1 k) _).f T H2 n2 = _
    rw [h5]
    show x5Z (ev T x) _ = _
    rw [e2]
    rfl
  . exact (x0L h).elim
theorem fld_got {s : TypeId} {x : Operand} {f : Nat} (ho : o.op = .field s x f) {q : YOp} (hc : x1T P (.field s x f) = some q) {v : PV D} (h : Got (opR B ρ q) v) : ValR P o T V μ H (MX X μ B) v:=by
  obtain ⟨fd,h1,h2⟩:=x0A hc
  obtain ⟨dsc,hdsc,h2⟩:=x0A h2
  obtain ⟨k,h3,h4⟩:=x0A h2
  obtain ⟨a,ha,rfl⟩:=x0G h4
  obtain ⟨fs,h7,h8⟩:=z4Q h1
  have h : Got (match ρ a with | .agg l=>Option.casesOn (motive:=fun _=>OpR D) (z6E (x1X (P.underlying fd.type)) fd.offset k l) .bad (fun v=> .val v) | _=> .bad) v:=h
  split at h
  . rename_i l hb
    obtain ⟨u,hu,h9⟩:=y6E h
    obtain rfl:=x1D h9
    have hr:=hρ x a ha
    rw [hb] at hr
    generalize hz : ev T x = z at hr
    cases hr with
    | agg _ ar hl =>
      obtain ⟨w,h10,h11⟩:=y5C hu hl
      refine ⟨w,h11,fun H2 n2=> ?_⟩
      have hc : (x0N P o).f T H2 n2 = (u6J P s x f).f T H2 n2:=by unfold x0N; rw [ho]
      rw [hc]
      unfold u6J
      rw [h7]; show (coO (lget fs f) _).f T H2 n2 = _
      rw [h8]
      show onAgg (ev T x) (fun cs=>onO (y2F P fd.type fd.offset cs) fun v=> .ok v H2 n2) = _
      rw [hz]
      show onO (y2F P fd.type fd.offset ar.toList) _ = _
      have : y2F P fd.type fd.offset ar.toList = some w:=by
        unfold y2F
        rw [<- h10,h3,hdsc]
        rfl
      rw [this]
      rfl
  . exact (x0L h).elim
theorem bld_got {t : TypeId} {ps : Array (Nat × Operand)} (ho : o.op = .build t ps) {q : YOp} (hc : yBuild P t ps.toList = some q) {v : PV D} (h : Got (opR B ρ q) v) : ValR P o T V μ H (MX X μ B) v:=by
  obtain ⟨z,h1,h2⟩:=x0A hc
  obtain ⟨cs,h3,h4⟩:=x0A h2
  obtain ⟨pl,h7,h8⟩:=x0A h4
  obtain ⟨ys,h9,h10⟩:=x0A h8
  obtain ⟨qs,h11,rfl⟩:=x0C h10
  have h : Got (Option.casesOn (motive:=fun _=>OpR D) (bldL (qs.map fun p=>(p.1, ρ p.2)) (pvL cs)) .bad (fun l=> .val (.agg l))) v:=h
  obtain ⟨l,h12,h13⟩:=y6E h
  obtain rfl:=x1D h13
  obtain ⟨s,h14,h15⟩:=u6M hρ pl h9 h11 h12 (y6R h3).2
  refine ⟨x5G s, .agg _ _ (by simpa [x5G] using h15),fun H2 n2=> ?_⟩
  have hc : (x0N P o).f T H2 n2 = (z8L P t ps.toList).f T H2 n2:=by unfold x0N; rw [ho]
  rw [hc]
  unfold z8L
  rw [h1]
  show (match x5Y (P.underlying t) with | some fs=>coO (x6X P fs) _ | none=>_ : CO).f T H2 n2 = _
  unfold yPl at h7
  cases h5 : x5Y (P.underlying t) with
  | some fs =>
    rw [h5] at h7
    have h7 : x6X P fs = some pl:=h7
    show (coO (x6X P fs) _).f T H2 n2 = _
    rw [h7]
    show onO (x6B (lget pl) (x4P T ps.toList) z) _ = _
    rw [h14]
    rfl
  | none =>
    rw [h5] at h7
    obtain ⟨pp,h16,h17⟩:=x0A h7
    obtain ⟨sz,h18,rfl⟩:=x0C h17
    show (coO (y7P (P.underlying t)) _).f T H2 n2 = _
    rw [h16]
    show (coO (x1G P pp.2) _).f T H2 n2 = _
    rw [h18]
    show onO (x6B (fun i=>some (Nat.mul i sz,sz)) (x4P T ps.toList) z) _ = _
    rw [y9V (fun i q hq=> ?_) h14]
    . rfl
    . rw [lget_eq] at hq
      unfold arrPl at hq
      rw [List.getElem?_map] at hq
      cases hr : (List.range pp.1)[i]? with
      | none=>rw [hr] at hq; cases hq
      | some j =>
        rw [hr] at hq
        have : j = i:=by
          have:=List.getElem?_eq_some_iff.1 hr
          obtain ⟨hh,e⟩:=this
          simpa using e.symm
        subst this
        exact hq
theorem ext_got {t : Operand} {ix : Nat} (ho : o.op = .extract t ix) {q : YOp} (hc : y1 (fun x=> .ext x ix) t = some q) {v : PV D} (h : Got (opR B ρ q) v) : ValR P o T V μ H (MX X μ B) v:=by
  obtain ⟨a,ha,rfl⟩:=x0G hc
  have hcc : ∀ H2 n2,(x0N P o).f T H2 n2 = v3A (ev T t) fun vs=>onO (lget vs ix) fun v=> .ok v H2 n2:=fun H2 n2=>by unfold x0N; rw [ho]
  have h : Got (match ρ a with
    | .tup l=>Option.casesOn (motive:=fun _=>OpR D) (lget l ix) .bad (fun v=> .val v)
    | .nx b p c=>nxR b p c ix
    | _=> .bad) v:=h
  have hr:=hρ t a ha
  split at h
  . rename_i l hb
    obtain ⟨u,hu,h9⟩:=y6E h
    obtain rfl:=x1D h9
    rw [hb] at hr
    generalize hz : ev T t = z at hr
    cases hr with
    | tup _ ar hl =>
      obtain ⟨w,h10,h11⟩:=z2R hl hu
      refine ⟨w,h11,fun H2 n2=> ?_⟩
      rw [hcc,hz]
      show onO (lget ar.toList ix) _ = _
      rw [h10]
      rfl
  . rename_i b p c hb
    rw [hb] at hr
    generalize hz : ev T t = z at hr
    rcases ix with _ | _ | _ | ix
    . obtain rfl:=x1D h
      cases hr
      . exact ⟨_, .bool _,fun H2 n2=>by rw [hcc,hz]; rfl⟩
      . exact ⟨_, .bool _,fun H2 n2=>by rw [hcc,hz]; rfl⟩
    . obtain ⟨rfl,rfl⟩:=x3B h
      cases hr
      exact ⟨_, .int _ _,fun H2 n2=>by rw [hcc,hz]; rfl⟩
    . obtain ⟨rfl,rfl⟩:=x3B h
      cases hr
      exact ⟨_, .int _ _,fun H2 n2=>by rw [hcc,hz]; rfl⟩
    . exact (x0L h).elim
  . exact (x0L h).elim
end
end Go.Yec
namespace Go.Yec
open Go Go.Xec
variable [GT]
section
variable {D : Type} {V : D -> List (PV D)} {μ : Mu} {H : Hp} {P : Program} {o : Oper} {T : Tm} {ρ : Yd -> PV D} {X : Nat -> Prop} {B : Bt D} {m n : Nat}
theorem y3H {α : Type} {a : Array α} {x : α} (h : a.toList = [x]) : a = #[x]:=Array.ext' h
theorem v1R {α : Type} {a : Array α} {x y : α} (h : a.toList = [x,y]) : a = #[x,y]:=Array.ext' h
theorem z6A {t : TypeId} (hu : P.underlying t = some .string) (ty : TypeId) (cs : Array Bool) (b : ByteArray) : prun P (builtin .len #[t] ty cs #[.string b]) = some (.value (.int .i64 b.size)):=by
  unfold builtin
  simp only [x0F]
  have : prun P (Builtin.len_ #[t] ty #[.string b]) = some (.int .i64 b.size):=by
    unfold Builtin.len_
    simp [x0F,x0U hu,x2S,goInt]
  rw [this]
  rfl
theorem prun_max {ts : Array TypeId} (ty : TypeId) (cs : Array Bool) (k : IntKind) (a b : Int) : prun P (builtin .max ts ty cs #[.int k a, .int k b]) = some (.value (.int k (max a b))):=by
  unfold builtin
  simp only [x0F]
  have : prun P (Builtin.max_ ts ty #[.int k a, .int k b]) = some (.int k (if b > a then b else a)):=rfl
  rw [this]
  have : (if b > a then b else a) = max a b:=by
    by_cases h : b > a
    . rw [if_pos h]; omega
    . rw [if_neg h]; omega
  rw [this]
  rfl
theorem prun_min {ts : Array TypeId} (ty : TypeId) (cs : Array Bool) (k : IntKind) (a b : Int) : prun P (builtin .min ts ty cs #[.int k a, .int k b]) = some (.value (.int k (min a b))):=by
  unfold builtin
  simp only [x0F]
  have : prun P (Builtin.min_ ts ty #[.int k a, .int k b]) = some (.int k (if b < a then b else a)):=rfl
  rw [this]
  have : (if b < a then b else a) = min a b:=by
    by_cases h : b < a
    . rw [if_pos h]; omega
    . rw [if_neg h]; omega
  rw [this]
  rfl
variable (hρ : OpdR V μ H (MX X μ B) T ρ) (hr : HR V X μ B m H n)
include hρ
theorem mx_got {isMax : Bool} {x y : Operand} {args : Array Operand} {ts : Array TypeId} (ho : o.op = .call { callee:= .builtin (cond isMax .max .min),args,argTypes:=ts }) (ha : args.toList = [x,y]) {q : YOp} (hc : y2 (.mx isMax) x y = some q) {v : PV D} (h : Got (opR B ρ q) v) : ValR P o T V μ H (MX X μ B) v:=by
  obtain ⟨a,b,h1,h2,rfl⟩:=x0T hc
  obtain ⟨k,i,j,e1,e2,h3⟩:=u5L (x:= ρ a) (y:= ρ b) (f:=fun k a b=> .val (.int k (cond isMax (max a b) (min a b)))) h
  obtain rfl:=x1D h3
  have q1:=x2D hρ h1 e1
  have q2:=x2D hρ h2 e2
  obtain rfl:=v1R ha
  refine ⟨_, .int _ _,y7B ho (by simp [q1,q2]; exact ⟨rfl,rfl⟩) rfl (fun H2 n2=> .inl ?_) fun cs=> ?_⟩
  . cases isMax <;> rfl
  . have : (#[x,y] : Array Operand).map (ev T) = #[ev T x,ev T y]:=by simp
    rw [this,q1,q2]
    cases isMax
    . exact prun_min _ _ _ _ _
    . exact prun_max _ _ _ _ _
theorem slen_got {x : Operand} {t : TypeId} {args : Array Operand} {ts : Array TypeId} (ho : o.op = .call { callee:= .builtin .len,args,argTypes:=ts }) (ha : args.toList = [x]) (ht : ts.toList = [t]) (hu : P.underlying t = some .string) {q : YOp} (hc : y1 .slen x = some q) {v : PV D} (h : Got (opR B ρ q) v) : ValR P o T V μ H (MX X μ B) v:=by
  obtain ⟨a,h1,rfl⟩:=x0G hc
  have h : Got (x1Z (ρ a) fun s=> .val (.int .i64 (slen s))) v:=h
  unfold x1Z at h
  split at h
  . rename_i s hs
    obtain rfl:=x1D h
    obtain ⟨u,rfl,e⟩:=x6U hρ h1 hs
    obtain rfl:=y3H ha
    obtain rfl:=y3H ht
    refine ⟨_, .int _ _,y7B ho (by simp [e]; rfl) rfl (fun H2 n2=> .inr ?_) fun cs=> ?_⟩
    . show (cLen P o t x).f T H2 n2 = _
      unfold cLen
      rw [hu]
      show chk (plain (ev T x)) _ = _
      rw [e]
      rfl
    . have : (#[x] : Array Operand).map (ev T) = #[ev T x]:=by simp
      rw [this,e,z6A hu]
      unfold slen
      rw [x2B]
  . exact (x0L h).elim
include hr
omit hρ in
theorem y1M {x : Value} {i s e : Nat} {k : IntKind} {l : List Int} (h : Rep V μ H (MX X μ B) (.lsl i) x) (hb : bget B i = some (s, .rowI e k l)) :
    (∃ b c, μ i = some (some b,l.length) /\ x = .slice (some ⟨b, 0,none⟩) l.length c /\ (c = unk \/ c = l.length) /\ hget H b = some (.cells (l.map (Value.int k)) e)) \/ (μ i = some (none, 0) /\ x = .slice none 0 0 /\ l = []):=by
  obtain ⟨_,ox,len,h1,h2⟩:=hr.blk i s _ hb
  cases h with
  | lsl _ b len' c h3 hc =>
    rw [h1] at h3; cases h3
    cases h2 with
    | rowI _ _ _ _ hg=>exact .inl ⟨b,c,h1,rfl,hc,hg⟩
  | lsln _ h3 =>
    rw [h1] at h3; cases h3
    cases h2
    exact .inr ⟨h1,rfl,rfl⟩
theorem llen_got {x : Operand} {t e0 : TypeId} {args : Array Operand} {ts : Array TypeId} (ho : o.op = .call { callee:= .builtin .len,args,argTypes:=ts }) (ha : args.toList = [x]) (ht : ts.toList = [t]) (hu : P.underlying t = some (.slice e0)) {q : YOp} (hc : y1 .llen x = some q) {v : PV D} (h : Got (opR B ρ q) v) : ValR P o T V μ H (MX X μ B) v:=by
  obtain ⟨a,h1,rfl⟩:=x0G hc
  have h : Got (v3W B (ρ a)) v:=h
  obtain rfl:=y3H ha
  obtain rfl:=y3H ht
  have hrep:=hρ x a h1
  have go : ∀ (ad : Option Addr) (k c : Nat),ev T x = .slice ad k c -> ValS P o T (.int .i64 k):=fun ad k c hx H2 n2=>by
    have hc : (x0N P o).f T H2 n2 = (cLen P o t x).f T H2 n2:=by unfold x0N; rw [ho]; rfl
    rw [hc]
    unfold cLen
    rw [hu]
    show (match ev T x with | .slice _ k _=>OR.ok (.int .i64 k) H2 n2 | _=> .bad) = _
    rw [hx]
  unfold v3W at h
  split at h
  . rename_i i hb
    rw [hb] at hrep
    split at h
    . rename_i s e k l hbk
      obtain rfl:=x1D h
      refine ⟨_, .int _ _, ?_⟩
      rcases y1M hr hrep hbk with ⟨b,c,_,hx,_,_⟩ | ⟨_,hx,rfl⟩
      . exact go _ _ _ hx
      . exact go _ _ _ hx
    . exact (x0L h).elim
  . rename_i hb
    rw [hb] at hrep
    obtain rfl:=x1D h
    generalize hz : ev T x = z at hrep
    cases hrep
    exact ⟨_, .int _ _,go _ 0 _ hz⟩
  . rename_i esz k f hb
    rw [hb] at hrep
    obtain rfl:=x1D h
    generalize hz : ev T x = z at hrep
    cases hrep with
    | fsl0=>exact ⟨_, .int _ _,go _ 0 _ hz⟩
    | fsl=>exact ⟨_, .int _ _,go _ _ _ hz⟩
  . exact (x0L h).elim
theorem v4P {t e0 : TypeId} {x i : Operand} (ho : o.op = .indexAddr t x i) (hu : P.underlying t = some (.slice e0)) (hs : x1G P e0 = some 1) {q : YOp} (hc : y2 .iaddr x i = some q) {v : PV D} (h : Got (opR B ρ q) v) : ValR P o T V μ H (MX X μ B) v:=by
  obtain ⟨a,b,h1,h2,rfl⟩:=x0T hc
  have h : Got (z6Y B (ρ a) (ρ b)) v:=h
  unfold z6Y at h
  split at h
  . rename_i j k ix e1 e2
    split at h
    . rename_i s e k' l hbk
      obtain ⟨h3,rfl⟩:=x3B h
      have h3:=of_decide_eq_true h3
      have hi:=x2D hρ h2 e2
      have hrep:=hρ x a h1
      rw [e1] at hrep
      rcases y1M hr hrep hbk with ⟨bb,c,hm,hx,_,_⟩ | ⟨_,_,rfl⟩
      . refine ⟨_, .lelt j ix bb _ hm h3.1 (by have:=h3.2; unfold ilen at this; omega),fun H2 n2=> ?_⟩
        have hc : (x0N P o).f T H2 n2 = (x2W P t x i).f T H2 n2:=by unfold x0N; rw [ho]
        rw [hc]
        unfold x2W
        rw [hu]
        show (coO (x1G P e0) _).f T H2 n2 = _
        rw [hs]
        show onSl (ev T x) _ = _
        rw [hx,hi]
        obtain ⟨nx,rfl⟩ : ∃ nx : Nat,ix = nx:=⟨ix.toNat,by omega⟩
        show ixA 1 ⟨bb, 0,none⟩ l.length nx H2 n2 = _
        unfold ixA
        have : Nat.ble (Nat.succ nx) l.length = true:=Nat.ble_eq_true_of_le (by have:=h3.2; unfold ilen at this; omega)
        rw [this]
        simp [chk]
      . exact absurd h3.2 (by unfold ilen; simp; omega)
    . exact (x0L h).elim
  . exact (x0L h).elim
theorem v6X {t e0 : TypeId} {x i : Operand} {N : Nat} (ho : o.op = .indexAddr t x i) (hu : P.underlying t = some (.array N e0)) (hs : x1G P e0 = some 1) {q : YOp} (hc : y2 (.aaddr N) x i = some q) {v : PV D} (h : Got (opR B ρ q) v) : ValR P o T V μ H (MX X μ B) v:=by
  obtain ⟨a,b,h1,h2,rfl⟩:=x0T hc
  have h : Got (match ρ a, ρ b with
    | .lptr j 0, .int _ ix=>match bget B j with
      | some (_, .rowI _ _ l)=> .par (cond (inB ix (N : Int)) (inB ix (ilen l)) false) (.lelt j ix)
      | some (_, .cells _)=> .par (inB ix (N : Int)) (.celt j ix N)
      | _=> .bad
    | _,_=> .bad) v:=h
  split at h
  . rename_i j k ix e1 e2
    split at h
    . rename_i s e k' l hbk
      obtain ⟨h3,rfl⟩:=x3B h
      obtain ⟨h3,h4⟩:=x0D h3
      have h3:=of_decide_eq_true h3
      have h4:=of_decide_eq_true h4
      have hi:=x2D hρ h2 e2
      obtain ⟨bb,len,hm,hx⟩:=x9Q (e1 ▸ hρ x a h1)
      obtain ⟨_,ox,len',h5,h6⟩:=hr.blk j s _ hbk
      rw [hm] at h5; cases h5
      cases h6 with
      | rowI _ _ _ _ hg =>
        refine ⟨_, .lelt j ix bb _ hm h3.1 (by have:=h4.2; unfold ilen at this; omega),fun H2 n2=> ?_⟩
        have hc : (x0N P o).f T H2 n2 = (x2W P t x i).f T H2 n2:=by unfold x0N; rw [ho]
        rw [hc]
        unfold x2W
        rw [hu]
        show (coO (x1G P e0) _).f T H2 n2 = _
        rw [hs]
        show x5Z (ev T x) _ = _
        rw [hx,hi]
        obtain ⟨nx,rfl⟩ : ∃ nx : Nat,ix = nx:=⟨ix.toNat,by omega⟩
        show ixA 1 ⟨bb, 0,none⟩ N nx H2 n2 = _
        unfold ixA
        have : Nat.ble (Nat.succ nx) N = true:=Nat.ble_eq_true_of_le (by omega)
        rw [this]
        simp [chk]
    . rename_i s l hbk
      obtain ⟨h3,rfl⟩:=x3B h
      have h3:=of_decide_eq_true h3
      have hi:=x2D hρ h2 e2
      obtain ⟨bb,len,hm,hx⟩:=x9Q (e1 ▸ hρ x a h1)
      refine ⟨_, .celt j ix N bb _ hm h3.1 (by omega),fun H2 n2=> ?_⟩
      have hc : (x0N P o).f T H2 n2 = (x2W P t x i).f T H2 n2:=by unfold x0N; rw [ho]
      rw [hc]
      unfold x2W
      rw [hu]
      show (coO (x1G P e0) _).f T H2 n2 = _
      rw [hs]
      show x5Z (ev T x) _ = _
      rw [hx,hi]
      obtain ⟨nx,rfl⟩ : ∃ nx : Nat,ix = nx:=⟨ix.toNat,by omega⟩
      show ixA 1 ⟨bb, 0,none⟩ N nx H2 n2 = _
      unfold ixA
      have : Nat.ble (Nat.succ nx) N = true:=Nat.ble_eq_true_of_le (by omega)
      rw [this]
      simp [chk]
    . exact (x0L h).elim
  . exact (x0L h).elim
end
end Go.Yec
namespace Go.Yec
open Go Go.Xec
variable [GT]
section
variable {D : Type} {V : D -> List (PV D)} {μ : Mu} {H : Hp} {P : Program} {o : Oper} {T : Tm} {ρ : Yd -> PV D} {X : Nat -> Prop} {B : Bt D} {m n : Nat}
variable (hρ : OpdR V μ H (MX X μ B) T ρ) (hr : HR V X μ B m H n)
include hρ
omit hρ in
theorem z6L {P' : Prop} {r : OpR D} {v : PV D} (h : Got r v) (hr : (∃ s w,r = .ld s w) \/ (∃ i b,r = .wr i b) \/ (∃ c i b,r = .ap c i b) \/ (∃ b f,r = .mk b f) \/ r = .bad) : P':=by
  rcases hr with ⟨s,w,rfl⟩ | ⟨i,b,rfl⟩ | ⟨c,i,b,rfl⟩ | ⟨b,f,rfl⟩ | rfl <;> rcases h with h | h <;> cases h
omit hρ in
theorem y5S (k : Nat) (agg : Bool) (p : PV D) : (∃ s w,ldR B k agg p = .ld s w) \/ ldR B k agg p = .bad:=by
  unfold ldR
  split
  . split
    . cases z6E agg _ k _ with
      | none=>exact .inr rfl
      | some v=>exact .inl ⟨_,_,rfl⟩
    . exact .inr rfl
  . split
    . cases agg
      . exact .inl ⟨_,_,rfl⟩
      . exact .inr rfl
    . exact .inr rfl
  . split
    . generalize cond agg false (Nat.beq _ _) = c
      cases c
      . exact .inr rfl
      . exact .inl ⟨_,_,rfl⟩
    . exact .inr rfl
  . exact .inr rfl
omit hρ in
theorem y1B (k : Nat) (v p : PV D) : (∃ i b,stR B k v p = .wr i b) \/ stR B k v p = .bad:=by
  unfold stR
  split
  . split
    . cases cond (Nat.beq (x2X v).length k) (x5E (x2X v)) false with
      | false=>exact .inr rfl
      | true =>
        rw [cond_true]
        cases setP _ _ (x2X v) with
        | none=>exact .inr rfl
        | some l=>exact .inl ⟨_,_,rfl⟩
    . exact .inr rfl
  . split
    . cases cond (ikeq _ _) (Nat.beq k 1) false with
      | false=>exact .inr rfl
      | true=>exact .inl ⟨_,_,rfl⟩
    . exact .inr rfl
  . exact .inr rfl
omit hρ in
theorem x9B (e : Nat) (p q : PV D) : (∃ ck i b,appR B e p q = .ap ck i b) \/ appR B e p q = .bad:=by
  unfold appR
  split
  . split
    . exact .inl ⟨_,_,_,rfl⟩
    . exact .inr rfl
  . split
    . cases cond (ikeq _ _) (cond (Nat.beq _ e) _ false) false with
      | false=>exact .inr rfl
      | true=>exact .inl ⟨_,_,_,rfl⟩
    . exact .inr rfl
  . exact .inr rfl
include hr
theorem z1Q {q : YOp} (hc : x1T P o.op = some q) {v : PV D} (h : Got (opR B ρ q) v) : ValR P o T V μ H (MX X μ B) v:=by
  unfold x1T at hc
  split at hc
  . rename_i x ho
    obtain ⟨a,ha,rfl⟩:=x0G hc
    exact mv_got hρ ha (fun H2 n2=>by unfold x0N; rw [ho]) h
  . rename_i x ho
    obtain ⟨a,ha,rfl⟩:=x0G hc
    exact mv_got hρ ha (fun H2 n2=>by unfold x0N; rw [ho]) h
  . rename_i x ho
    obtain ⟨a,ha,rfl⟩:=x0G hc
    exact v3L hρ ho ha h
  . obtain ⟨_,_,h1⟩:=x0A hc
    obtain ⟨_,_,h2⟩:=x0A h1
    obtain ⟨_,_,rfl⟩:=x0C h2
    exact (x0L h).elim
  . rename_i ho; exact bin_got hρ ho hc h
  . rename_i ho; exact un_got hρ ho (.inl ⟨rfl,hc⟩) h
  . rename_i ho; exact un_got hρ ho (.inr ⟨rfl,hc⟩) h
  . rename_i ho; exact conv_got hρ ho hc h
  . rename_i ho
    split at hc
    . rename_i hu; exact sidx_got hρ ho hu hc h
    . rename_i hu; exact aidx_got hρ ho hu hc h
    . cases hc
  . rename_i ho; exact ssl_got hρ ho hc h
  . rename_i b args ts ho
    unfold x1B at hc
    split at hc
    . rename_i ha ht
      split at hc
      . rename_i hu; exact slen_got hρ ho ha ht hu hc h
      . rename_i hu; exact llen_got hρ hr ho ha ht hu hc h
      . cases hc
    . rename_i ha; exact mx_got (isMax:=true) hρ ho ha hc h
    . rename_i ha; exact mx_got (isMax:=false) hρ ho ha hc h
    . obtain ⟨_,_,h1⟩:=x0A hc
      obtain ⟨_,_,h2⟩:=x0A h1
      obtain ⟨_,_,h3⟩:=x0A h2
      obtain ⟨_,_,h4⟩:=x0A h3
      obtain ⟨a,b,_,_,rfl⟩:=x0T h4
      exact z6L h (by
        rcases x9B (B:=B) _ (ρ a) (ρ b) with ⟨c,i,b',h⟩ | h
        . exact .inr (.inr (.inl ⟨c,i,b',h⟩))
        . exact .inr (.inr (.inr (.inr h))))
    . cases hc
  . obtain ⟨a,_,rfl⟩:=x0C hc
    exact (x0L h).elim
  . obtain ⟨a,_,rfl⟩:=x0C hc
    exact (x0L h).elim
  . obtain ⟨a,ha,rfl⟩:=x0G hc
    have h : Got (cond (y3F (ρ a)) (.mk (z8R _ (ρ a)) (fun i=> .lptr i 0)) .bad) v:=h
    obtain ⟨_,h⟩:=z2U h
    exact z6L h (.inr (.inr (.inr (.inl ⟨_,_,rfl⟩))))
  . unfold yAlloc at hc
    obtain ⟨z,h1,h2⟩:=x0A hc
    obtain ⟨cs,h3,h4⟩:=x0A h2
    cases harr : x1U P _ <;> rw [harr] at h4
    . cases h4; exact z6L h (by simp [opR])
    . rw [cond_true] at h4
      split at h4
      . obtain ⟨l,_,rfl⟩:=x0C h4; exact z6L h (by simp [opR])
      . cases h4; exact z6L h (by simp [opR])
      . cases h4
  . rename_i ho; exact v5K hρ ho hc h
  . rename_i ho; exact fld_got hρ ho hc h
  . obtain ⟨_,_,h1⟩:=x0A hc
    obtain ⟨k,_,h2⟩:=x0A h1
    obtain ⟨a,_,rfl⟩:=x0G h2
    exact z6L h (by
      rcases y5S (B:=B) k _ (ρ a) with ⟨i,b',h⟩ | h
      . exact .inl ⟨i,b',h⟩
      . exact .inr (.inr (.inr (.inr h))))
  . obtain ⟨k,_,h2⟩:=x0A hc
    obtain ⟨a,b,_,_,rfl⟩:=x0T h2
    exact z6L h (by
      rcases y1B (B:=B) k (ρ b) (ρ a) with ⟨i,b',h⟩ | h
      . exact .inr (.inl ⟨i,b',h⟩)
      . exact .inr (.inr (.inr (.inr h))))
  . rename_i ho; exact bld_got hρ ho hc h
  . unfold x1C at hc
    obtain ⟨_,_,h1⟩:=x0A hc
    obtain ⟨_,_,h2⟩:=x0A h1
    obtain ⟨_,_,h3⟩:=x0A h2
    obtain ⟨_,h4⟩:=x0B h3
    cases h4
    have h : Got (Option.casesOn (motive:=fun _=>OpR D) _ .bad _) v:=h
    obtain ⟨l,_,h6⟩:=y6E h
    exact z6L h6 (by simp)
  . rename_i ho
    unfold yIaddr at hc
    split at hc
    . rename_i N e hu
      obtain ⟨h1,h2⟩:=x0B hc
      refine v6X hρ hr ho hu ?_ h2 h
      split at h1
      . rename_i s hs; rw [hs,x0S h1]
      . cases h1
    . rename_i e hu
      obtain ⟨h1,h2⟩:=x0B hc
      refine v4P hρ hr ho hu ?_ h2 h
      split at h1
      . rename_i s hs; rw [hs,x0S h1]
      . cases h1
    . cases hc
  . rename_i ho; exact ext_got hρ ho hc h
  . split at hc
    . obtain ⟨a,_,rfl⟩:=x0G hc
      exact (x0L h).elim
    . cases hc
  . obtain ⟨a,_,rfl⟩:=x0G hc
    exact (x0L h).elim
  . obtain ⟨_,h1⟩:=x0B hc
    obtain ⟨_,_,h2⟩:=x0A h1
    obtain ⟨_,_,h3⟩:=x0A h2
    obtain ⟨a,_,rfl⟩:=x0G h3
    exact (x0L h).elim
  . cases hc
end
end Go.Yec
