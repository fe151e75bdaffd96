/-
  THE EXECUTOR: each operation that it carries out, the model carries out alike.; THE EXECUTOR: the other operations: struct and slice literals, make, append, slices, arithmetic, conversions, builtins.
-/
import Derived.Test.YtadehgdfijjikaaGreatDoorX2
import Derived.Orders
import Derived.IntWalk
set_option linter.all false
namespace Go.Xec
open Go
variable [GT]
def nextV : Next -> Option Value
  | .value v=>some v
  | .skip=>some undef
  | _=>none
def OpS (P : Program) (o : Oper) (T : Tm) (H : Hp) (n : Nat) (v : Value) (H' : Hp) (n' : Nat) : Prop :=
  n <= n' /\ (∀ i,(i < n \/ n' <= i) -> hget H i = none -> hget H' i = none) /\
  ∀ (β : Bm) (w : World) (ρ : Operand -> Value),(∀ x ∈ o.op.operands,VR β (ev T x) (ρ x)) -> WR P β (hget H) w -> Fresh β n n' ->
    ∃ r c w' γ, (execOp ρ o).run P w = .ok r w' /\ nextV r = some c /\ VR γ v c /\ Ext P β (hget H) n w γ (hget H') n' w'
section
variable {P : Program} {o : Oper} {T : Tm} {H H' : Hp} {n n' : Nat} {v : Value}
theorem OpS.same (h : ∀ (β : Bm) (w : World) (ρ : Operand -> Value),(∀ x ∈ o.op.operands,VR β (ev T x) (ρ x)) -> WR P β (hget H) w ->
    ∃ c,(execOp ρ o).run P w = .ok (.value c) w /\ VR β v c) : OpS P o T H n v H n :=
  ⟨Nat.le_refl _,fun _ _ h=>h,fun β w ρ hx hW _ =>
    let ⟨c,h1,h2⟩:=h β w ρ hx hW
    ⟨_,c,w, β, h1,rfl,h2,Ext.refl hW⟩⟩
theorem OpS.new {l : List Value} {e : TypeId} (h : ∀ (β : Bm) (w : World) (ρ : Operand -> Value),(∀ x ∈ o.op.operands,VR β (ev T x) (ρ x)) -> WR P β (hget H) w -> β n = none ->
    ∃ c cs l' rest,(execOp ρ o).run P w = .ok (.value c) { w with heap:=w.heap.push (.cells cs e (0, 0)) } /\ VR (upd β n (w.heap.size, 0)) v c /\ VL β l l' /\ cs.toList = l' ++ rest) :
    OpS P o T H n v (hset H n (.cells l e)) (n + 1) :=
  ⟨by omega,fun i hi h0=>by rw [x0E,if_neg (by omega)]; exact h0,fun β w ρ hx hW hf=>by
    have hn:=hf n (Nat.le_refl _) (by omega)
    obtain ⟨c,cs,l',rest,h1,h2,h3,h4⟩:=h β w ρ hx hW hn
    exact ⟨_,c,_,_,h1,rfl,h2,Ext.new hW hn (.cells l l' e cs rest (0, 0) h3 h4 (fun s _=>by omega) (.inl rfl))⟩⟩
theorem x0M {w : World} {t : TypeId} {d : TypeDesc} (h : P.underlying t = some d) : (underlying t).run P w = .ok d w:=by simp [underlying,h]
theorem y3L {w : World} {t : TypeId} {i : TypeInfo} (h : P.info? t = some i) : (typeInfo t).run P w = .ok i w:=by simp [typeInfo,h]
theorem x1Y {w : World} {t : TypeId} {k : Nat} (h : x1G P t = some k) : (sizeOf t).run P w = .ok k w:=by
  unfold x1G at h
  cases e : P.info? t with
  | none=>rw [e] at h; cases h
  | some i=>rw [e] at h; cases h; simp [sizeOf,y3L e]
theorem y1D {w : World} {t : TypeId} {d : TypeDesc} (h : P.underlying t = some d) : (isAgg t).run P w = .ok (x1X (P.underlying t)) w:=by
  simp only [isAgg,Sem.run_bind,x0M h,Result.andThen_ok,h]
  cases d <;> rfl
theorem z2A {w : World} {t : TypeId} {z : List Value} (h : v1D P t = some z) : ∃ v,(zeroValue t).run P w = .ok v w /\ v.cells.toList = z:=by
  unfold v1D at h
  cases e : P.info? t with
  | none=>rw [e] at h; cases h
  | some i =>
    rw [e] at h
    cases e2 : i.zero with
    | none=>simp [e2] at h
    | some z'=>simp [e2] at h; exact ⟨z',by simp [zeroValue,y3L e,e2],h⟩
theorem y4D {t : TypeId} {z : List Value} (h : x4C P t = some z) : v1D P t = some z /\ all0 z = true:=by
  unfold x4C at h
  cases e : v1D P t with
  | none=>rw [e] at h; cases h
  | some y =>
    rw [e] at h
    have h' : cond (all0 y) (some y) none = some z:=h
    cases e2 : all0 y with
    | false=>rw [e2] at h'; cases h'
    | true=>rw [e2] at h'; cases h'; exact ⟨rfl,e2⟩
theorem y1A {o : Option TypeDesc} {fs : List Field} (h : x5Y o = some fs) : ∃ a,o = some (.struct a) /\ a.toList = fs:=by
  unfold x5Y at h; split at h
  . cases h; exact ⟨_,rfl,rfl⟩
  . cases h
theorem y7N {o : Option TypeDesc} {p : Nat × TypeId} (h : y7P o = some p) : o = some (.array p.1 p.2):=by
  unfold y7P at h; split at h
  . cases h; rfl
  . cases h
theorem x2G {o : Option TypeDesc} {e : TypeId} (h : x2N o = some e) : o = some (.slice e):=by
  unfold x2N at h; split at h
  . cases h; rfl
  . cases h
theorem y7U {t : TypeId} (h : x1X (P.underlying t) = true) : ∃ d,P.underlying t = some d:=by
  cases e : P.underlying t with
  | none=>rw [e] at h; cases h
  | some d=>exact ⟨d,rfl⟩
theorem prun_run {α : Type} : ∀ (s : Sem α) (a : α) (w : World),prun P s = some a -> s.run P w = .ok a w:=by
  intro s
  induction s with
  | pure x=>intro a w h; cases h; rfl
  | program k ih=>intro a w h; exact ih P a w h
  | _=>intro a w h; cases h
theorem x3U (h : x0V P T H n o = .ok v H' n') (hs : ∀ cs b,o.op ≠ .select cs b) (hp : ∀ x ∈ o.op.operands,plain (ev T x) = true) : OpS P o T H n v H' n':=by
  unfold x0V at h
  split at h
  . rename_i u hu
    obtain ⟨h1,h2⟩:=x2R h
    cases h2
    refine OpS.same fun β w ρ hx _=>⟨v, ?_,x4Z h1⟩
    have : execOp ρ o = execOp (ev T) o:=execOp_congr o hs fun x hm=>y3R (hp x hm) (hx x hm)
    rw [this]
    exact prun_run _ _ w hu
  . cases h
theorem move_ok {x : Operand} (ho : o.op = .move x) : OpS P o T H n (ev T x) H n :=
  OpS.same fun β w ρ hx _=>⟨ρ x,by simp [execOp,ho],hx x (by simp [ho,Op.operands])⟩
theorem v6T {x : Operand} (ho : o.op = .assign x) : OpS P o T H n (ev T x) H n :=
  OpS.same fun β w ρ hx _=>⟨ρ x,by simp [execOp,ho],hx x (by simp [ho,Op.operands])⟩
theorem bool_of {β : Bm} {b : Bool} {x : Value} (h : VR β (.bool b) x) : x = .bool b:=by cases h; rfl
theorem int_of {β : Bm} {k : IntKind} {i : Int} {x : Value} (h : VR β (.int k i) x) : x = .int k i:=by cases h; rfl
theorem str_of {β : Bm} {s : ByteArray} {x : Value} (h : VR β (.string s) x) : x = .string s:=by cases h; rfl
theorem x7K {β : Bm} {a : Addr} {x : Value} (h : VR β (.pointer (some a)) x) : ∃ c,a.spot = none /\ β a.block = some c /\ x = .pointer (some ⟨c.1,a.off,none⟩):=by
  cases h with
  | ptr b o c h=>exact ⟨c,rfl,h,rfl⟩
theorem y3E {β : Bm} {a : Addr} {l k : Nat} {x : Value} (h : VR β (.slice (some a) l k) x) : ∃ c k',a.spot = none /\ β a.block = some c /\ x = .slice (some ⟨c.1,a.off,none⟩) l k' /\ ((k = k' /\ k ≠ unk) \/ (k = unk /\ l <= k' /\ (a.off = 0 -> c.2 = k'))):=by
  cases h with
  | sl b o c l k k' h hk=>exact ⟨c,k',rfl,h,rfl,hk⟩
theorem agg_of {β : Bm} {a : Array Value} {x : Value} (h : VR β (.agg a) x) : ∃ b,x = .agg b /\ VL β a.toList b.toList:=by
  cases h with
  | agg a b h=>exact ⟨b,rfl,h⟩
theorem tup_of {β : Bm} {a : Array Value} {x : Value} (h : VR β (.tuple a) x) : ∃ b,x = .tuple b /\ VL β a.toList b.toList:=by
  cases h with
  | tuple a b h=>exact ⟨b,rfl,h⟩
theorem pick_ok {c a b : Operand} (ho : o.op = .pick c a b) (h : (z6K (ev T c) fun t=> .ok (cond t (ev T a) (ev T b)) H n) = .ok v H' n') : OpS P o T H n v H' n':=by
  obtain ⟨t,h1,h2⟩:=v3C h
  cases h2
  refine OpS.same fun β w ρ hx _=> ?_
  have ht : ρ c = .bool t:=bool_of (β := β) (h1 ▸ hx c (by simp [ho,Op.operands]))
  cases t
  . exact ⟨ρ b,by simp [execOp,ho,ht,asBool],hx b (by simp [ho,Op.operands])⟩
  . exact ⟨ρ a,by simp [execOp,ho,ht,asBool],hx a (by simp [ho,Op.operands])⟩
theorem alloc_ok {e : TypeId} (ho : o.op = .alloc e) (h : (coO (x4C P e) fun z=>⟨fun _ H n=>newB H n z e⟩).f T H n = .ok v H' n') : OpS P o T H n v H' n':=by
  obtain ⟨z,h1,h2⟩:=x1N h
  cases h2
  obtain ⟨hz,ha⟩:=y4D h1
  refine OpS.new fun β w ρ hx _ _=> ?_
  obtain ⟨y,hy,hc⟩:=z2A (P:=P) (w:=w) hz
  refine ⟨.pointer (some ⟨w.heap.size, 0,none⟩),y.cells,z,[], ?_, .ptr _ _ (w.heap.size, 0) (x1F _ _ _),x9C ha,by simp [hc]⟩
  simp [execOp,ho,Instr.alloc,hy,newVar,newRow]
theorem box_ok {e : TypeId} {x : Operand} (ho : o.op = .box e x) : OpS P o T H n (.pointer (some ⟨n, 0,none⟩)) (hset H n (.cells (ev T x).cells.toList e)) (n + 1) :=
  OpS.new fun β w ρ hx _ _=>⟨.pointer (some ⟨w.heap.size, 0,none⟩),(ρ x).cells,(ρ x).cells.toList,[],by simp [execOp,ho,Instr.box,newVar,newRow], .ptr _ _ (w.heap.size, 0) (x1F _ _ _),y6V (hx x (by simp [ho,Op.operands])),by simp⟩
theorem load_ok {t : TypeId} {a : Operand} (ho : o.op = .load t a) (h : (z8K P t a).f T H n = .ok v H' n') : OpS P o T H n v H' n':=by
  unfold z8K at h
  cases hagg : x1X (P.underlying t) with
  | true =>
    rw [hagg,cond_true] at h
    obtain ⟨k,h1,h2⟩:=x1N h
    obtain ⟨ad,h3,h4⟩:=x3Z h2
    obtain ⟨p,h5,h6⟩:=x1J h4
    obtain ⟨r,h7,h8⟩:=x1J h6
    cases h8
    refine OpS.same fun β w ρ hx hW=> ?_
    obtain ⟨b,_,hb,hρ⟩:=x7K (β := β) (h3 ▸ hx a (by simp [ho,Op.operands]))
    obtain ⟨c,l',rest,fz,e1,e2,e3,e4,hz⟩:=hW.cells h5 hb
    obtain ⟨r',q1,q2,q3⟩:=part_at e2 e3 h7
    obtain ⟨d,hd⟩:=y7U hagg
    refine ⟨.agg r'.toArray, ?_, .agg _ _ (by simpa [x5G] using q1)⟩
    simp [execOp,ho,hρ, Instr.loadAt,Instr.sureAddr,loadVar,y1D hd,hagg,x1Y h1,x6G e1 ad.off r' k q2 q3]
  | false =>
    rw [hagg,cond_false] at h
    obtain ⟨d,h1,h2⟩:=x1N h
    obtain ⟨ad,h3,h4⟩:=x3Z h2
    obtain ⟨p,h5,h6⟩:=x1J h4
    obtain ⟨r,h7,h8⟩:=x1J h6
    cases h8
    refine OpS.same fun β w ρ hx hW=> ?_
    obtain ⟨b,_,hb,hρ⟩:=x7K (β := β) (h3 ▸ hx a (by simp [ho,Op.operands]))
    obtain ⟨c,l',rest,fz,e1,e2,e3,e4,hz⟩:=hW.cells h5 hb
    obtain ⟨v',q1,q2⟩:=u6F e2 e3 h7
    refine ⟨v', ?_,q1⟩
    simp [execOp,ho,hρ, Instr.loadAt,Instr.sureAddr,loadVar,y1D h1,hagg,u2M e1, -Array.getElem?_toList,q2]
theorem z4S {β : Bm} {w : World} (hW : WR P β (hget H) w) {i : Nat} {b : Nat × Nat} {p : List Value × TypeId} (hc : x0Y H i = some p) (hb : β i = some b) {off : Nat} {vs us l2 : List Value} (hs : x6V p.1 off vs = some l2) (hv : VL β vs us) (h1 : ∀ v ∈ us,v.oneCell' = true) :
    ∃ w',(storeCells ⟨b.1,off,none⟩ us).run P w = .ok () w' /\ Ext P β (hget H) n w β (hget (hset H i (.cells l2 p.2))) n w':=by
  obtain ⟨c,l',rest,fz,e1,e2,e3,e4,hz⟩:=hW.cells hc hb
  obtain ⟨q1,q2⟩:=z5P hs e2 hv
  have hsz : off + us.length <= c.size:=by
    have : c.toList.length = c.size:=Array.length_toList
    rw [<- this,e3]; simp; omega
  have hrun:=x6F (P:=P) b.1 off p.2 fz us 0 c w e1 hz (by omega) h1
  refine ⟨_,hrun,Ext.turn hW (x3V hc) hb (by simp) (by simp) (by simp) (setRow_heap w b.1 c _ p.2 fz e1) (fun k hk=>setRow_other w b.1 k _ hk) (.cells l2 _ p.2 _ rest fz q1 ?_ (fun s hs=> ?_) ?_) rfl rfl rfl⟩
  . simp only [Nat.add_zero,e3]
    rw [List.take_append_of_le_length (by omega),List.drop_append_of_le_length (by omega)]
    simp
  . have:=e4 s hs
    have hcl : c.toList.length = c.size:=Array.length_toList
    simp; omega
  . rcases hz with hz | hz
    . exact .inl hz
    . right
      have hcl : c.toList.length = c.size:=Array.length_toList
      simp; omega
theorem store_ok {t : TypeId} {a x : Operand} (ho : o.op = .store t a x) (h : (u6G P t a x).f T H n = .ok v H' n') : OpS P o T H n v H' n':=by
  obtain ⟨s,h1,h2⟩:=x1N h
  obtain ⟨ad,h3,h4⟩:=x3Z h2
  obtain ⟨h5,h6⟩:=x2R h4
  obtain ⟨h7,h8⟩:=x0D h5
  unfold x7R at h6
  obtain ⟨p,h9,h10⟩:=x1J h6
  obtain ⟨l2,h11,h12⟩:=x1J h10
  cases h12
  refine ⟨Nat.le_refl _,fun i _ h0=> ?_,fun β w ρ hx hW _=> ?_⟩
  . rw [x0E]; split
    . rename_i e; subst e; rw [x3V h9] at h0; cases h0
    . exact h0
  . obtain ⟨b,hsp,hb,hρ⟩:=x7K (β := β) (h3 ▸ hx a (by simp [ho,Op.operands]))
    have hv:=y6V (hx x (by simp [ho,Op.operands]))
    obtain ⟨w',r1,r2⟩:=z4S (P:=P) (n:=n) hW h9 hb h11 hv (y7T h8 hv)
    refine ⟨.skip,undef,w', β, ?_,rfl,y4M β, r2⟩
    have hsz : (ρ x).cells.size = s:=by rw [<- Array.length_toList, <- hv.length]; exact x0S h7
    simp [execOp,ho,hρ, Instr.storeAt,Instr.sureAddr,storeVar,x1Y h1,hsz,r1]
theorem u0G {x : Operand} (ho : o.op = .nilCheck x) (h : (x5Z (ev T x) fun a=> .ok (.pointer (some a)) H n) = .ok v H' n') : OpS P o T H n v H' n':=by
  obtain ⟨a,h1,h2⟩:=x3Z h
  cases h2
  refine OpS.same fun β w ρ hx _=> ?_
  have hr:=hx x (by simp [ho,Op.operands])
  rw [h1] at hr
  obtain ⟨b,_,hb,hρ⟩:=x7K hr
  exact ⟨ρ x,by simp [execOp,ho,hρ],hr⟩
theorem z7E {s : TypeId} {x : Operand} {f : Nat} (ho : o.op = .fieldAddr s x f) (h : (x8Z P s x f).f T H n = .ok v H' n') : OpS P o T H n v H' n':=by
  obtain ⟨fs,h1,h2⟩:=x1N h
  obtain ⟨fd,h3,h4⟩:=x1N h2
  obtain ⟨k,h5,h6⟩:=x1N h4
  obtain ⟨h7,h8⟩:=x4N h6
  obtain ⟨a,h9,h10⟩:=x3Z h8
  cases h10
  obtain ⟨arr,hu,harr⟩:=y1A h1
  refine OpS.same fun β w ρ hx _=> ?_
  obtain ⟨b,hsp,hb,hρ⟩:=x7K (β := β) (h9 ▸ hx x (by simp [ho,Op.operands]))
  refine ⟨.pointer (some ⟨b.1,a.off + fd.offset,none⟩), ?_, .ptr _ _ b hb⟩
  have hf : arr[f]? = some fd:=by rw [<- Array.getElem?_toList,harr, <- lget_eq]; exact h3
  have hk : k ≠ 0:=by have:=x1E h7; omega
  simp [execOp,ho,hρ, Instr.fieldAt,x0M hu,hf,Instr.sureAddr,fieldPlace,x1Y h5,hk,x4B]
theorem u7K {t : TypeId} {off : Nat} {cs : List Value} (h : y2F P t off cs = some v) {β : Bm} {w : World} {ds : Array Value} (hl : VL β cs ds.toList) : ∃ c,(part t ds off).run P w = .ok c w /\ VR β v c:=by
  unfold y2F at h
  cases hagg : x1X (P.underlying t) with
  | true =>
    rw [hagg,cond_true] at h
    obtain ⟨d,hd⟩:=y7U hagg
    cases h1 : x1G P t with
    | none=>rw [h1] at h; cases h
    | some k =>
      rw [h1] at h
      have h : (cut cs off k).map x5G = some v:=h
      cases h2 : cut cs off k with
      | none=>rw [h2] at h; cases h
      | some r =>
        rw [h2] at h; cases h
        obtain ⟨e1,e2⟩:=v6B _ _ _ _ h2
        subst e1
        refine ⟨.agg (ds.extract off (off + k)),by simp [part,y1D hd,hagg,x1Y h1], .agg _ _ ?_⟩
        have : (ds.extract off (off + k)).toList = (ds.toList.drop off).take k:=by
          rw [Array.toList_extract,List.extract_eq_take_drop]; simp
        rw [this]
        simpa [x5G] using (AllR.drop off hl).take k
  | false =>
    rw [hagg,cond_false] at h
    cases h1 : P.underlying t with
    | none=>rw [h1] at h; cases h
    | some d =>
      rw [h1] at h
      have h : lget cs off = some v:=h
      rw [lget_eq] at h
      obtain ⟨c,q1,q2⟩:=hl.get off v h
      rw [h1] at hagg
      refine ⟨c, ?_,q2⟩
      have q3 : ds[off]? = some c:=by rw [<- Array.getElem?_toList]; exact q1
      simp [part,y1D h1,h1,hagg,q3]
theorem field_ok {s : TypeId} {x : Operand} {f : Nat} (ho : o.op = .field s x f) (h : (u6J P s x f).f T H n = .ok v H' n') : OpS P o T H n v H' n':=by
  obtain ⟨fs,h1,h2⟩:=x1N h
  obtain ⟨fd,h3,h4⟩:=x1N h2
  obtain ⟨a,h9,h10⟩:=onAgg_ok (x:=ev T x) (f:=fun cs=>onO (y2F P fd.type fd.offset cs) fun v=> .ok v H n) h4
  obtain ⟨u,h11,h12⟩:=x1J h10
  cases h12
  obtain ⟨arr,hu,harr⟩:=y1A h1
  refine OpS.same fun β w ρ hx _=> ?_
  obtain ⟨b,hρ, hl⟩:=agg_of (β := β) (h9 ▸ hx x (by simp [ho,Op.operands]))
  obtain ⟨c,q1,q2⟩:=u7K (w:=w) h11 hl
  refine ⟨c, ?_,q2⟩
  have hf : arr[f]? = some fd:=by rw [<- Array.getElem?_toList,harr, <- lget_eq]; exact h3
  simp [execOp,ho,hρ, Instr.field,x0M hu,hf,asAgg,q1]
theorem ixA_ok {s len i : Nat} {a : Addr} (h : ixA s a len i H n = .ok v H' n') : i < len /\ v = .pointer (some ⟨a.block,a.off + i * s,none⟩) /\ H' = H /\ n' = n:=by
  obtain ⟨h1,h2⟩:=x2R h
  cases h2
  exact ⟨x1E h1,rfl,rfl,rfl⟩
theorem z6V {t : TypeId} {x ix : Operand} (ho : o.op = .indexAddr t x ix) (h : (x2W P t x ix).f T H n = .ok v H' n') : OpS P o T H n v H' n':=by
  unfold x2W at h
  split at h
  . rename_i p hp
    obtain ⟨s,h1,h2⟩:=x1N h
    obtain ⟨a,h3,h4⟩:=x3Z h2
    obtain ⟨k,i,h5,h6⟩:=y3U h4
    obtain ⟨q1,rfl,rfl,rfl⟩:=ixA_ok h6
    refine OpS.same fun β w ρ hx _=> ?_
    obtain ⟨b,hsp,hb,hρ⟩:=x7K (β := β) (h3 ▸ hx x (by simp [ho,Op.operands]))
    have hi:=int_of (β := β) (h5 ▸ hx ix (by simp [ho,Op.operands]))
    refine ⟨.pointer (some ⟨b.1,a.off + i * s,none⟩), ?_, .ptr _ _ b hb⟩
    simp [execOp,ho,hρ, hi,Instr.indexAt,asIntOf,x0M (y7N hp),Instr.sureAddr,x1Y h1,x4B]
    intro hh; omega
  . obtain ⟨e,h0,h0'⟩:=x1N h
    obtain ⟨s,h1,h2⟩:=x1N h0'
    obtain ⟨a,len,cp,h3,h4⟩:=z2J h2
    obtain ⟨k,i,h5,h6⟩:=y3U h4
    obtain ⟨q1,rfl,rfl,rfl⟩:=ixA_ok h6
    refine OpS.same fun β w ρ hx _=> ?_
    obtain ⟨b,k',hsp,hb,hρ, _⟩:=y3E (β := β) (h3 ▸ hx x (by simp [ho,Op.operands]))
    have hi:=int_of (β := β) (h5 ▸ hx ix (by simp [ho,Op.operands]))
    refine ⟨.pointer (some ⟨b.1,a.off + i * s,none⟩), ?_, .ptr _ _ b hb⟩
    simp [execOp,ho,hρ, hi,Instr.indexAt,asIntOf,x0M (x2G h0),x1Y h1,x4B]
    intro hh; omega
theorem u8V {t : Operand} {ix : Nat} (ho : o.op = .extract t ix) (h : (v3A (ev T t) fun vs=>onO (lget vs ix) fun v=> .ok v H n) = .ok v H' n') : OpS P o T H n v H' n':=by
  obtain ⟨a,h1,h2⟩:=onTup_ok h
  obtain ⟨u,h3,h4⟩:=x1J h2
  cases h4
  refine OpS.same fun β w ρ hx _=> ?_
  obtain ⟨b,hρ, hl⟩:=tup_of (β := β) (h1 ▸ hx t (by simp [ho,Op.operands]))
  rw [lget_eq] at h3
  obtain ⟨c,q1,q2⟩:=hl.get ix _ h3
  have q3 : b[ix]? = some c:=by rw [<- Array.getElem?_toList]; exact q1
  exact ⟨c,by simp [execOp,ho,hρ, Instr.extract,q3],q2⟩
theorem makeI_ok {t : TypeId} {x : Operand} (ho : o.op = .makeInterface t x) (h : (match eqK (P.underlying t) with
    | .iface=>z3P
    | _=>coO (P.underlying t) fun _=>⟨fun T H n=> .ok (.iface t (ev T x)) H n⟩ : CO).f T H n = .ok v H' n') : OpS P o T H n v H' n':=by
  have key : ∀ d,P.underlying t = some d -> (∀ ms,d ≠ .interface ms) -> OpS P o T H n (.iface t (ev T x)) H n:=fun d hd hne =>
    OpS.same fun β w ρ hx _=>⟨.iface t (ρ x),by
      simp only [execOp,ho,Instr.makeInterface,Sem.run_bind,x0M hd,Result.andThen_ok]
      cases d <;> first | rfl | exact absurd rfl (hne _), .iface _ _ _ (hx x (by simp [ho,Op.operands]))⟩
  split at h
  . cases h
  . rename_i hne
    obtain ⟨d,h1,h2⟩:=x1N h
    cases h2
    refine key d h1 fun ms e=> ?_
    subst e
    exact hne (by rw [h1]; rfl)
theorem u0K {β : Bm} {ρ : Operand -> Value} : ∀ (l : List Operand),(∀ x ∈ l,VR β (ev T x) (ρ x)) -> VL β (l.map (ev T)) (l.map ρ)
  | [],_=> .nil
  | x :: l,h=> .cons (h x (by simp)) (u0K l fun y hy=>h y (by simp [hy]))
theorem u0L {f : FuncId} {a b : Array Operand} (ho : o.op = .makeFunc (.func f) a b) : OpS P o T H n (.func (.func f) (a.map (ev T)) (b.map (ev T))) H n :=
  OpS.same fun β w ρ hx _=>⟨.func (.func f) (a.map ρ) (b.map ρ),by simp [execOp,ho,Instr.makeFunc],
    .func f _ _ _ _ (by simpa using u0K (β := β) (ρ := ρ) a.toList fun x hm=>hx x (by simp [ho,Op.operands]; exact .inl (by simpa using hm))) (by simpa using u0K (β := β) (ρ := ρ) b.toList fun x hm=>hx x (by simp [ho,Op.operands]; exact .inr (by simpa using hm)))⟩
end
end Go.Xec
namespace Go.Xec
open Go
variable [GT]
section
variable {P : Program} {o : Oper} {T : Tm} {H H' : Hp} {n n' : Nat} {v : Value}
theorem z7D (off : Nat) : ∀ (us : List Value) (k : Nat) (cs : Array Value),off + k + us.length <= cs.size ->
    ((us.zipIdx k).foldl (fun cs p=>cs.setIfInBounds (off + p.2) p.1) cs).toList = cs.toList.take (off + k) ++ us ++ cs.toList.drop (off + k + us.length)
  | [],k,cs,_=>by simp
  | u :: us,k,cs,h=>by
    simp only [List.length_cons] at h
    simp only [List.zipIdx_cons,List.foldl_cons]
    rw [z7D off us (k + 1) _ (by simp; omega),Array.toList_setIfInBounds]
    have e:=list_seg_step cs.toList (off + k) u us (by simp; omega)
    simpa [Nat.add_assoc] using e
inductive PR (β : Bm) : List (Nat × Value) -> List (Nat × Value) -> Prop
  | nil : PR β [] []
  | cons {i : Nat} {a b : Value} {l m : List (Nat × Value)} (h : VR β a b) (t : PR β l m) : PR β ((i,a) :: l) ((i,b) :: m)
theorem y1Q (place : Nat -> Option (Nat × Nat)) (p : Nat × Value) (ps : List (Nat × Value)) (cells : List Value) : x6B place (p :: ps) cells =
    (place p.1).bind fun q=>cond (Nat.beq p.2.cells.toList.length q.2) ((x6V cells q.1 p.2.cells.toList).bind (x6B place ps)) none:=rfl
theorem y3Z {β : Bm} {place place' : Nat -> Option (Nat × Nat)} (hp : ∀ i,place' i = place i) : ∀ {ps ps' : List (Nat × Value)}, PR β ps ps' -> ∀ {cells r : List Value} {cs : Array Value}, x6B place ps cells = some r -> VL β cells cs.toList ->
    ∃ ds,Instr.fill place' cs ps' = some ds /\ VL β r ds.toList
  | _,_, .nil,cells,r,cs,h,hl=>by cases h; exact ⟨cs,rfl,hl⟩
  | _,_, .cons (i:=i) (a:=a) (b:=b) (l:=l) (m:=m) hv t,cells,r,cs,h,hl=>by
    rw [y1Q] at h
    cases h1 : place i with
    | none=>simp only [h1] at h; cases h
    | some q =>
      simp only [h1,Option.bind_some] at h
      cases h2 : Nat.beq a.cells.toList.length q.2 with
      | false=>rw [h2] at h; cases h
      | true =>
        rw [h2,cond_true] at h
        cases h3 : x6V cells q.1 a.cells.toList with
        | none=>rw [h3] at h; cases h
        | some c2 =>
          rw [h3] at h
          have h4 : x6B place l c2 = some r:=h
          have hc:=y6V hv
          obtain ⟨q1,q2⟩:=z5P h3 hl hc
          have e1 : b.cells.size = q.2:=by rw [<- Array.length_toList, <- hc.length]; exact x0S h2
          have e2 : cs.toList.length = cs.size:=Array.length_toList
          have e3 : b.cells.toList.length = b.cells.size:=Array.length_toList
          have hfold : (b.cells.zipIdx.foldl (fun cs p=>cs.setIfInBounds (q.1 + p.2) p.1) cs).toList = cs.toList.take q.1 ++ b.cells.toList ++ cs.toList.drop (q.1 + b.cells.toList.length):=by
            rw [<- Array.foldl_toList,Array.toList_zipIdx]
            simpa using z7D q.1 b.cells.toList 0 cs (by omega)
          obtain ⟨ds,r1,r2⟩:=y3Z hp t h4 (cs:=b.cells.zipIdx.foldl (fun cs p=>cs.setIfInBounds (q.1 + p.2) p.1) cs) (by rw [hfold]; exact q1)
          refine ⟨ds, ?_,r2⟩
          rw [Instr.fill,hp,h1]
          obtain ⟨off,size⟩:=q
          simp only at e1 q2 e2 e3 r1 |-
          rw [if_neg (by simp; omega)]
          exact r1
theorem z1P {β : Bm} {ρ : Operand -> Value} : ∀ (ps : List (Nat × Operand)),(∀ p ∈ ps,VR β (ev T p.2) (ρ p.2)) -> PR β (x4P T ps) (ps.map fun p=>(p.1, ρ p.2))
  | [],_=> .nil
  | p :: ps,h=> .cons (h p (by simp)) (z1P ps fun q hq=>h q (by simp [hq]))
theorem y8Y {w : World} : ∀ (fs : List Field) (pl : List (Nat × Nat)),x6X P fs = some pl -> (fs.mapM (m:=Sem) fun f=>do pure (f.offset, <- sizeOf f.type)).run P w = .ok pl w
  | [],pl,h=>by cases h; simp
  | f :: fs,pl,h=>by
    have h' : ((x1G P f.type).bind fun s=>(x6X P fs).map fun r=>(f.offset,s) :: r) = some pl:=h
    cases h1 : x1G P f.type with
    | none=>rw [h1] at h'; cases h'
    | some s =>
      rw [h1] at h'
      cases h2 : x6X P fs with
      | none=>simp [h2] at h'
      | some r =>
        simp [h2] at h'
        subst h'
        have ih:=y8Y (w:=w) fs r h2
        simp only [List.mapM_cons,Sem.run_bind,x1Y h1,Result.andThen_ok,Sem.run_pure,ih]
theorem z9R {w : World} (fs : Array Field) (pl : List (Nat × Nat)) (h : x6X P fs.toList = some pl) : (fs.mapM (m:=Sem) fun f=>do pure (f.offset, <- sizeOf f.type)).run P w = .ok pl.toArray w:=by
  rw [Array.mapM_eq_mapM_toList,Sem.run_map,y8Y fs.toList pl h]
  rfl
theorem y0U {β : Bm} {w : World} {t : TypeId} {z : List Value} (h : x4C P t = some z) : ∃ y,(zeroValue t).run P w = .ok y w /\ VL β z y.cells.toList:=by
  obtain ⟨h1,h2⟩:=y4D h
  obtain ⟨y,h3,h4⟩:=z2A (w:=w) h1
  exact ⟨y,h3,by rw [h4]; exact x9C h2⟩
theorem build_ok {t : TypeId} {ps : Array (Nat × Operand)} (ho : o.op = .build t ps) (h : (z8L P t ps.toList).f T H n = .ok v H' n') : OpS P o T H n v H' n':=by
  unfold z8L at h
  obtain ⟨z,h1,h2⟩:=x1N h
  have hv : ∀ (β : Bm) (ρ : Operand -> Value),(∀ x ∈ o.op.operands,VR β (ev T x) (ρ x)) -> PR β (x4P T ps.toList) (ps.map fun p=>(p.1, ρ p.2)).toList:=fun β ρ hx=>by
    rw [Array.toList_map]
    exact z1P ps.toList fun p hp=>hx p.2 (by simp only [ho,Op.operands]; simp; exact ⟨p.1,by simpa using hp⟩)
  split at h2
  . rename_i fs hs
    obtain ⟨pl,h3,h4⟩:=x1N h2
    obtain ⟨c,h5,h6⟩:=x1J (o:=x6B (lget pl) (x4P T ps.toList) z) (f:=fun c=> .ok (x5G c) H n) h4
    cases h6
    obtain ⟨arr,hu,harr⟩:=y1A hs
    refine OpS.same fun β w ρ hx _=> ?_
    obtain ⟨y,hy,hl⟩:=y0U (β := β) (w:=w) h1
    obtain ⟨ds,r1,r2⟩:=y3Z (place':=fun i=>pl.toArray[i]?) (fun i=>by rw [lget_eq]; simp) (hv β ρ hx) h5 hl
    refine ⟨.agg ds, ?_, .agg _ _ (by simpa [x5G] using r2)⟩
    subst harr
    simp only [execOp,ho,Instr.build,Sem.run_bind,hy,Result.andThen_ok,x0M hu,z9R arr pl h3,r1,Sem.run_pure]
  . rename_i hs
    obtain ⟨p,h3,h4⟩:=x1N h2
    obtain ⟨s,h5,h6⟩:=x1N h4
    obtain ⟨c,h7,h8⟩:=x1J (o:=x6B (fun i=>some (Nat.mul i s,s)) (x4P T ps.toList) z) (f:=fun c=> .ok (x5G c) H n) h6
    cases h8
    refine OpS.same fun β w ρ hx _=> ?_
    obtain ⟨y,hy,hl⟩:=y0U (β := β) (w:=w) h1
    obtain ⟨ds,r1,r2⟩:=y3Z (place':=fun i=>some (i * s,s)) (fun i=>rfl) (hv β ρ hx) h7 hl
    refine ⟨.agg ds, ?_, .agg _ _ (by simpa [x5G] using r2)⟩
    simp only [execOp,ho,Instr.build,Sem.run_bind,hy,Result.andThen_ok,x0M (y7N h3),x1Y h5,r1,Sem.run_pure]
theorem y0D (k : Nat) (z : List Value) : repl (k + 1) z = z ++ repl k z:=rfl
theorem x9P (z : List Value) : ∀ k,(repl k z).length = k * z.length
  | 0=>by rw [Nat.zero_mul]; rfl
  | k + 1=>by rw [y0D,List.length_append,x9P z k,Nat.succ_mul]; omega
theorem u4D (z : List Value) (hz : 0 < z.length) : ∀ (k i : Nat),i < k * z.length -> (repl k z)[i]? = z[i % z.length]?
  | 0,i,h=>by omega
  | k + 1,i,h=>by
    rw [y0D]
    by_cases hi : i < z.length
    . rw [List.getElem?_append_left hi,Nat.mod_eq_of_lt hi]
    . rw [List.getElem?_append_right (by omega),u4D z hz k _ (by rw [Nat.succ_mul] at h; omega)]
      congr 1
      exact (Nat.mod_eq_sub_mod (by omega)).symm
theorem u3G (z : Array Value) (k : Nat) (hz : 0 < z.size) : ((Array.range (k * z.size)).map (fun i=>z[i % z.size]!)).toList = repl k z.toList:=by
  have hzl : z.toList.length = z.size:=Array.length_toList
  apply List.ext_getElem?
  intro i
  by_cases hi : i < k * z.size
  . rw [u4D z.toList (by omega) k i (by rw [hzl]; exact hi),hzl]
    have hm : i % z.size < z.size:=Nat.mod_lt _ hz
    simp [hi,hm]
  . rw [List.getElem?_eq_none (by simp; omega),List.getElem?_eq_none (by rw [x9P,hzl]; omega)]
theorem y3Q {β : Bm} {z y : List Value} (h : VL β z y) : ∀ k,VL β (repl k z) (repl k y)
  | 0=> .nil
  | k + 1=>by rw [y0D,y0D]; exact h.append (y3Q h k)
theorem z3S {t len : Nat} {ps : Array (Nat × Operand)} (ho : o.op = .buildSlice t len ps) (h : (x5D P t len ps.toList).f T H n = .ok v H' n') : OpS P o T H n v H' n':=by
  unfold x5D at h
  obtain ⟨e,h1,h2⟩:=x1N h
  obtain ⟨s,h3,h4⟩:=x1N h2
  obtain ⟨z,h5,h6⟩:=x1N h4
  obtain ⟨h7,h8⟩:=x4N h6
  obtain ⟨h9,h10⟩:=x0D h7
  obtain ⟨h11,h12⟩:=x0D h10
  obtain ⟨c,h13,h14⟩:=x1J (o:=x6B (fun i=>some (Nat.mul i s,s)) (x4P T ps.toList) (repl len z)) (f:=fun c=>newS H n c e len len) h8
  cases h14
  refine OpS.new fun β w ρ hx _ _=> ?_
  obtain ⟨y,hy,hl⟩:=y0U (β := β) (w:=w) h5
  have hzs : z.length = s:=x0S h9
  have hs1 : 1 <= s:=x1E h11
  have hle : len * s <= 16777215:=x1E h12
  have hys : y.cells.size = s:=by rw [<- Array.length_toList, <- hl.length]; exact hzs
  have hlen : len <= len * s:=Nat.le_mul_of_pos_right _ hs1
  have hv : PR β (x4P T ps.toList) (ps.map fun p=>(p.1, ρ p.2)).toList:=by
    rw [Array.toList_map]
    exact z1P ps.toList fun p hp=>hx p.2 (by simp only [ho,Op.operands]; simp; exact ⟨p.1,by simpa using hp⟩)
  have hz : ∀ k,k = len * s -> VL β (repl len z) ((Array.range k).map (fun i=>y.cells[i % y.cells.size]!)).toList:=fun k hk=>by
    subst hk
    have hp : 0 < y.cells.size:=by omega
    rw [<- hys,u3G y.cells len hp]
    exact y3Q hl len
  obtain ⟨ds,r1,r2⟩:=y3Z (place':=fun i=>some (i * s,s)) (fun i=>rfl) hv h13 (hz _ rfl)
  refine ⟨.slice (some ⟨w.heap.size, 0,none⟩) len len,ds,ds.toList,[], ?_, .sl _ _ (w.heap.size, 0) _ _ _ (x1F _ _ _) (.inl ⟨rfl,by unfold unk; omega⟩),r2,by simp⟩
  simp only [execOp,ho,Instr.buildSlice,Sem.run_bind,x0M (x2G h1),Result.andThen_ok,x1Y h3]
  rw [if_neg (by omega)]
  by_cases h0 : len * s = 0
  . have hl0 : len = 0 := by
      rcases Nat.mul_eq_zero.1 h0 with h | h
      . exact h
      . omega
    subst hl0
    simp only [Nat.zero_mul] at r1 |-
    have e1 : Array.map (fun x=>(#[] : Array Value)[x % (#[] : Array Value).size]!) (Array.range 0) = Array.map (fun i=>y.cells[i % y.cells.size]!) (Array.range 0):=by simp
    simp only [Sem.run_pure,Result.andThen_ok,Sem.run_bind,if_true,e1,r1,newRow,run_newObj]
  . simp only [if_neg h0,Sem.run_bind,hy,Result.andThen_ok,Sem.run_pure,r1,newRow,run_newObj]
theorem u3H {m : Nat} (h : m <= 9223372036854775807) : IntKind.i64.wrap (Int.ofNat m) = (m : Int):=by
  rw [Int.ofNat_eq_natCast]
  exact IntWalk.i64_in _ (by omega)
theorem z6S {t : TypeId} {l c : Operand} (ho : o.op = .makeSlice t l c) (h : (x6Q P t l c).f T H n = .ok v H' n') : OpS P o T H n v H' n':=by
  unfold x6Q at h
  obtain ⟨e,h1,h2⟩:=x1N h
  obtain ⟨i,h3,h4⟩:=x1N h2
  obtain ⟨z,h5,h6⟩:=x1N h4
  obtain ⟨h7,h8⟩:=x4N h6
  obtain ⟨kl,len,h9,h10⟩:=y3U (x:=ev T l) h8
  obtain ⟨kc,cp,h11,h12⟩:=y3U h10
  obtain ⟨h13,h14⟩:=x2R h12
  obtain ⟨h15,h16⟩:=x0D h13
  obtain ⟨h17,h18⟩:=x0D h16
  cases h14
  have a1 : len <= cp:=x1E h15
  have a2 : cp * i.bytes <= 1099511627776:=x1E h17
  have a3 : cp <= 1099511627776:=x1E h18
  have hzs : z.length = i.size:=x0S h7
  refine OpS.new fun β w ρ hx _ _=> ?_
  obtain ⟨y,hy,hl⟩:=y0U (β := β) (w:=w) h5
  have hρl:=int_of (β := β) (h9 ▸ hx l (by simp [ho,Op.operands]))
  have hρc:=int_of (β := β) (h11 ▸ hx c (by simp [ho,Op.operands]))
  have hys : y.cells.size = i.size:=by rw [<- Array.length_toList, <- hl.length]; exact hzs
  have hsz : x1G P e = some i.size:=by unfold x1G; rw [h3]; rfl
  have key : ∀ cs : Array Value,cs.toList = repl cp y.cells.toList -> VL β (repl cp z) cs.toList:=fun cs hc=>by rw [hc]; exact y3Q hl cp
  have tl : ∀ m : Nat,m <= cp -> ¬ ((i.bytes : Int) * (m : Int) > 281474976710656):=fun m hm=>by
    have h1 : m * i.bytes <= cp * i.bytes:=Nat.mul_le_mul_right _ hm
    have h2 : (i.bytes : Int) * (m : Int) = ((m * i.bytes : Nat) : Int):=by rw [Int.natCast_mul,Int.mul_comm]
    rw [h2]; omega
  refine ⟨.slice (some ⟨w.heap.size, 0,none⟩) len cp,(if cp * i.size = 0 then #[] else (Array.range (cp * i.size)).map (fun j=>y.cells[j % y.cells.size]!)),repl cp y.cells.toList,[], ?_, .sl _ _ (w.heap.size, 0) _ _ _ (x1F _ _ _) (.inl ⟨rfl,by unfold unk; omega⟩),y3Q hl cp, ?_⟩
  . simp only [execOp,ho,hρl,hρc,Instr.makeSlice,asInt,asIntOf,Sem.run_bind,x0M (x2G h1),Result.andThen_ok,Sem.run_pure,y3L h3]
    rw [u3H (m:=len) (by omega),u3H (m:=cp) (by omega)]
    have t1:=tl cp (Nat.le_refl _)
    have t2:=tl len a1
    have n1 : ¬ ((cp : Int) < 0):=by omega
    have n2 : ¬ ((len : Int) < 0):=by omega
    have n3 : ¬ ((len : Int) > (cp : Int)):=by omega
    have e48 : (2 : Int) ^ 48 = 281474976710656:=by decide
    simp only [e48,t1,n1,n2,n3,decide_false,Bool.or_self,Bool.false_eq_true,if_false,run_askRoom,Result.andThen_ok,x1Y hsz,Int.toNat_natCast,Sem.run_bind]
    by_cases h0 : cp * i.size = 0
    . have er : ∀ f : Nat -> Value,Array.map f (Array.range 0) = #[]:=fun f=>by simp [Array.range]
      simp [h0,newRow,er]
    . simp [h0,newRow,hy]
  . split
    . rename_i h0
      have : (repl cp y.cells.toList).length = 0:=by rw [x9P,Array.length_toList,hys]; exact h0
      rw [List.eq_nil_of_length_eq_zero this]; rfl
    . rename_i h0
      have hp : 0 < y.cells.size:=by
        rw [hys]
        rcases Nat.eq_zero_or_pos i.size with h | h
        . rw [h] at h0; simp at h0
        . exact h
      rw [<- hys,u3G _ _ hp]; simp
end
end Go.Xec
